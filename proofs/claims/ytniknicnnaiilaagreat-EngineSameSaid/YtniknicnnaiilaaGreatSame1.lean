/- Lemmas: what the functions of the engine answer, and which blocks they write. -/
import Derived.ChangeOld
import Derived.ChangeSame
import Derived.Deep.Fields
import Derived.Deep.Slices
import Derived.Lib.SmallJoins
import Derived.OpenShut
import Derived.ProofKit
import Derived.SizedLaws
import Derived.Test.YtniknicnnaiilaaGreatX01
import Derived.Test.YtniknicnnaiilaaGreatX25
import Derived.Test.YtniknicnnaiilaaGreatX33
import Derived.Test.YtniknicnnaiilaaGreatX37
section
namespace Go.Proofs.YtniknicnnaiilaaGreat
set_option maxRecDepth 100000
open Go.RowKit Go.Ext Go.BigFrame Go.Maps Go.MapKept
attribute [local go_sem] Ext.cell Ext.frozen Ext.lt Ext.le s1 s2 s3 s4 s5 s6 t1 t2 t3 t4 t5 t6
attribute [local go_sem ↓] Go.wp_at_zero Go.wp_at_succ
set_option maxHeartbeats 16000000 in
theorem refSame_any (a b : Ans) (da ea db eb : Value) (M : Bl) (w : World) (h1 : Bys w da a.data) (h2 : RecsM evR w M ea a.events) (h3 : Bys w db b.data) (h4 : RecsM evR w M eb b.events) (hla : a.events.length ≤ 1000000) :
    Calls Tryz.prog 21 #[ansV a da ea, ansV b db eb] w (RetE (.bool (sameA a b)) w) := by
  have HEQ := hid (fun W (g : Gr w W) => conv_bys (h1.gr g))
  have HEQ2 := hid (fun W (g : Gr w W) => conv_bys (h3.gr g))
  have HEV := hid h2
  have HEV2 := hid h4
  obtain ⟨A1, c1, rfl, _⟩ := h1
  obtain ⟨A2, c2, rfl, hac⟩ := h2.shape
  obtain ⟨A3, c3, rfl, _⟩ := h3
  obtain ⟨A4, c4, rfl, hbc⟩ := h4.shape
  clear h2 h4
  rcases a with ⟨ae, ar, as_, ag, ⟨a1, a2, a3, a4⟩, ad, av⟩
  rcases b with ⟨be, br, bs, bg, ⟨b1, b2, b3, b4⟩, bd, bv⟩
  obtain ⟨R, hR⟩ : ∃ R, sameA ⟨ae, ar, as_, ag, ⟨a1, a2, a3, a4⟩, ad, av⟩ ⟨be, br, bs, bg, ⟨b1, b2, b3, b4⟩, bd, bv⟩ = R := ⟨_, rfl⟩
  rw [hR]
  simp only [sameA, eqS] at hR
  simp only [ansV, ansC] at *
  generalize had : ad.length = adl at *
  generalize hbd : bd.length = bdl at *
  generalize hav : av.length = avl at *
  generalize hbv : bv.length = bvl at *
  clear had hbd
  have HAV := hid hav
  have HBV := hid hbv
  clear hav hbv
  have hne := fun W => ne28 b1 b2 b3 b4 a1 a2 a3 a4 W
  refine retE ?_
  obtain ⟨w1, hw1, g1, hb0, hb1⟩ := alloc2 w (.cells #[.int .i64 ae, .int .i64 ar, .int .i64 as_, .bool ag, .int .i64 a1, .int .i64 a2, .int .i64 a3, .int .i64 a4, .slice A1 adl c1, .slice A2 avl c2] 31) (.cells #[.int .i64 be, .int .i64 br, .int .i64 bs, .bool bg, .int .i64 b1, .int .i64 b2, .int .i64 b3, .int .i64 b4, .slice A3 bdl c3, .slice A4 bvl c4] 31)
  have HW1 := hid hw1
  have G1 := hid g1
  have HB0 := hid hb0
  have HB1 := hid hb1
  have hc1 := HEQ.out w1 g1
  have hc2 := HEQ2.out w1 g1
  obtain ⟨x0, x1, x2, x3, x4, x5, x6, x7, x8, x9⟩ := cells10 hb0
  obtain ⟨y0, y1, y2, y3, y4, y5, y6, y7, y8, y9⟩ := cells10 hb1
  have l0 := block_lt hb0
  have l1 := block_lt hb1
  clear hw1 g1 hb0 hb1
  generalize hsa : sb ad = sa at *
  generalize hsb : sb bd = sb2 at *
  clear hsa hsb
  go_enter Tryz.func21, Tryz.ntmps21
  go_upto_region 1 with fail
  rw [HW1.out]
  cases z0 : (ae == be)
  · rw [z0] at hR
    have w0z : (ae != be) = true := by rw [bne, z0]; rfl
    replace hR : false = R := hR
    subst hR
    go_wp2_with fail
    go_ret
    exact ⟨rfl, G1.out⟩
  · rw [z0] at hR
    have w0z : (ae != be) = false := by rw [bne, z0]; rfl
    cases z1 : (ar == br)
    · rw [z1] at hR
      have w1z : (ar != br) = true := by rw [bne, z1]; rfl
      replace hR : false = R := hR
      subst hR
      go_wp2_with fail
      go_ret
      exact ⟨rfl, G1.out⟩
    · rw [z1] at hR
      have w1z : (ar != br) = false := by rw [bne, z1]; rfl
      cases z2 : (as_ == bs)
      · rw [z2] at hR
        have w2z : (as_ != bs) = true := by rw [bne, z2]; rfl
        replace hR : false = R := hR
        subst hR
        go_wp2_with fail
        go_ret
        exact ⟨rfl, G1.out⟩
      · rw [z2] at hR
        have w2z : (as_ != bs) = false := by rw [bne, z2]; rfl
        cases z3 : (ag == bg)
        · rw [z3] at hR
          have w3z : (ag != bg) = true := by rw [bne, z3]; rfl
          replace hR : false = R := hR
          subst hR
          go_wp2_with fail
          go_ret
          exact ⟨rfl, G1.out⟩
        · rw [z3] at hR
          have w3z : (ag != bg) = false := by rw [bne, z3]; rfl
          cases z4 : decide ((⟨a1, a2, a3, a4⟩ : Tok) = ⟨b1, b2, b3, b4⟩)
          · rw [z4] at hR
            simp only [z4, Bool.not_false] at hne
            clear z4
            replace hR : false = R := hR
            subst hR
            go_wp2_with fail
            go_ret
            exact ⟨rfl, G1.out⟩
          · rw [z4] at hR
            simp only [z4, Bool.not_true] at hne
            clear z4
            cases z5 : (sa.toList == sb2.toList)
            · rw [z5] at hR
              have w5z : (sa.toList != sb2.toList) = true := by rw [bne, z5]; rfl
              replace hR : false = R := hR
              subst hR
              go_wp2_with fail
              go_ret
              exact ⟨rfl, G1.out⟩
            · rw [z5] at hR
              have w5z : (sa.toList != sb2.toList) = false := by rw [bne, z5]; rfl
              cases z6 : ((avl : Int) == (bvl : Int))
              · have w6z : ((avl : Int) != (bvl : Int)) = true := by rw [bne, z6]; rfl
                rw [sameEs_len (by have := HAV.out; have := HBV.out; intro e; simp at z6; omega)] at hR
                replace hR : false = R := hR
                subst hR
                go_wp2_with fail
                go_ret
                exact ⟨rfl, G1.out⟩
              · have w6z : ((avl : Int) != (bvl : Int)) = false := by rw [bne, z6]; rfl
                have HLEN := hid (show avl = bvl from by simp at z6; omega)
                replace hR : sameEs av bv = R := hR
                have HR := hid hR
                clear hR
                go_wp2_with fail
                clear x0 x1 x2 x3 x4 x5 x6 x7 x8 x9 y0 y1 y2 y3 y4 y5 y6 y7 y8 y9 hc1 hc2
                go_loopw [5] (fun iv wr => ∃ i : Nat, iv = .int .i64 i ∧ i ≤ avl ∧ Gr w1 wr ∧ sameEs (av.drop i) (bv.drop i) = R) (fun iv _ => avl - (intOf iv).toNat)
                case atStart => exact ⟨0, rfl, Nat.zero_le _, Gr.refl _, by rw [List.drop_zero, List.drop_zero]; exact HR.out⟩
                case round =>
                  obtain ⟨i, rfl, hi, hgr, hall⟩ := hrel
                  have HG := hid hgr
                  have HALL := hid hall
                  obtain ⟨x0, x1, x2, x3, x4, x5, x6, x7, x8, x9⟩ := cells10 ((hgr.block _ l0).trans HB0.out)
                  obtain ⟨y0, y1, y2, y3, y4, y5, y6, y7, y8, y9⟩ := cells10 ((hgr.block _ l1).trans HB1.out)
                  have m0 := Nat.lt_of_lt_of_le l0 hgr.size
                  have m1 := Nat.lt_of_lt_of_le l1 hgr.size
                  clear hgr hall
                  by_cases hlt : i < avl
                  · have hlt2 : i < bvl := by have := HLEN.out; omega
                    have hla' : i < av.length := by have := HAV.out; omega
                    have hlb' : i < bv.length := by have := HBV.out; omega
                    have hg1 : av[i]? = some av[i] := List.getElem?_eq_getElem hla'
                    have hg2 : bv[i]? = some bv[i] := List.getElem?_eq_getElem hlb'
                    have hd1 : av.drop i = av[i] :: av.drop (i + 1) := List.drop_eq_getElem_cons hla'
                    have hd2 : bv.drop i = bv[i] :: bv.drop (i + 1) := List.drop_eq_getElem_cons hlb'
                    rw [hd1, hd2] at HALL
                    obtain ⟨bb, off, B', d', rfl, hb, hdat, e0, e1, e2, e3, e4, e5, e6⟩ := ev_at (HEV.out.up (Gr.up (G1.out.trans HG.out) M)) hg1
                    obtain ⟨bb2, off2, B2', d2', rfl, hb2, hdat2, k0, k1, k2, k3, k4, k5, k6⟩ := ev_at (HEV2.out.up (Gr.up (G1.out.trans HG.out) M)) hg2
                    generalize av[i] = x at *
                    generalize bv[i] = y at *
                    have HCX := hid (fun W (g : Gr wr W) => conv_bys (hdat.bys.gr g))
                    have HCY := hid (fun W (g : Gr wr W) => conv_bys (hdat2.bys.gr g))
                    clear hdat hdat2 hg1 hg2 hd1 hd2 hla' hlb'
                    have hlz : (i : Int) < (avl : Int) := by omega
                    have hlz2 : (i : Int) < (bvl : Int) := by omega
                    have HS := hid (show sameEs (x :: av.drop (i + 1)) (y :: bv.drop (i + 1)) = (sameE x y && sameEs (av.drop (i + 1)) (bv.drop (i + 1))) from rfl)
                    obtain ⟨q, hq⟩ : ∃ q, sameE x y = q := ⟨_, rfl⟩
                    have HQ := hid hq
                    rcases x with ⟨xk, xa, xr, xi, xl, xn, xd⟩
                    rcases y with ⟨yk, ya, yr, yi, yl, yn, yd⟩
                    simp only [sameE, eqS] at hq
                    simp only at HCX HCY e0 e1 e2 e3 e4 e5 e6 k0 k1 k2 k3 k4 k5 k6
                    generalize xd.length = xdl at *
                    generalize yd.length = ydl at *
                    generalize hsx : sb xd = sx at *
                    generalize hsy : sb yd = sy at *
                    clear hsx hsy
                    obtain ⟨w2, hw2, g2, hbx, hby⟩ := alloc2 wr (.cells #[.int .i64 xk, .int .i64 xa, .int .i64 xr, .int .i64 xi, .int .i64 xl, .int .i64 xn, .slice B' xdl d'] 41) (.cells #[.int .i64 yk, .int .i64 ya, .int .i64 yr, .int .i64 yi, .int .i64 yl, .int .i64 yn, .slice B2' ydl d2'] 41)
                    go_upto_region 8 with fail
                    try rw [hw2]
                    clear hw2
                    have G2 := hid (G1.out.trans (HG.out.trans g2))
                    have G12 := hid (HG.out.trans g2)
                    have hcx := HCX.out w2 g2
                    have hcy := HCY.out w2 g2
                    obtain ⟨p0, p1, p2, p3, p4, p5, p6⟩ := cells7' hbx
                    obtain ⟨q0, q1, q2, q3, q4, q5, q6⟩ := cells7' hby
                    have lx := block_lt hbx
                    have ly := block_lt hby
                    clear hbx hby
                    cases v0 : (xk == yk)
                    · rw [v0] at hq
                      have v0z : (xk != yk) = true := by rw [bne, v0]; rfl
                      replace hq : false = q := hq
                      rw [HQ.out, ← hq] at HS
                      clear hq HQ
                      go_wp2_with fail
                      go_ret
                      exact ⟨by rw [← HALL.out, HS.out]; first | done | rfl, G2.out⟩
                    · rw [v0] at hq
                      have v0z : (xk != yk) = false := by rw [bne, v0]; rfl
                      cases v1 : (xa == ya)
                      · rw [v1] at hq
                        have v1z : (xa != ya) = true := by rw [bne, v1]; rfl
                        replace hq : false = q := hq
                        rw [HQ.out, ← hq] at HS
                        clear hq HQ
                        go_wp2_with fail
                        go_ret
                        exact ⟨by rw [← HALL.out, HS.out]; first | done | rfl, G2.out⟩
                      · rw [v1] at hq
                        have v1z : (xa != ya) = false := by rw [bne, v1]; rfl
                        cases v2 : (xr == yr)
                        · rw [v2] at hq
                          have v2z : (xr != yr) = true := by rw [bne, v2]; rfl
                          replace hq : false = q := hq
                          rw [HQ.out, ← hq] at HS
                          clear hq HQ
                          go_wp2_with fail
                          go_ret
                          exact ⟨by rw [← HALL.out, HS.out]; first | done | rfl, G2.out⟩
                        · rw [v2] at hq
                          have v2z : (xr != yr) = false := by rw [bne, v2]; rfl
                          cases v3 : (xi == yi)
                          · rw [v3] at hq
                            have v3z : (xi != yi) = true := by rw [bne, v3]; rfl
                            replace hq : false = q := hq
                            rw [HQ.out, ← hq] at HS
                            clear hq HQ
                            go_wp2_with fail
                            go_ret
                            exact ⟨by rw [← HALL.out, HS.out]; first | done | rfl, G2.out⟩
                          · rw [v3] at hq
                            have v3z : (xi != yi) = false := by rw [bne, v3]; rfl
                            cases v4 : (xl == yl)
                            · rw [v4] at hq
                              have v4z : (xl != yl) = true := by rw [bne, v4]; rfl
                              replace hq : false = q := hq
                              rw [HQ.out, ← hq] at HS
                              clear hq HQ
                              go_wp2_with fail
                              go_ret
                              exact ⟨by rw [← HALL.out, HS.out]; first | done | rfl, G2.out⟩
                            · rw [v4] at hq
                              have v4z : (xl != yl) = false := by rw [bne, v4]; rfl
                              cases v5 : (xn == yn)
                              · rw [v5] at hq
                                have v5z : (xn != yn) = true := by rw [bne, v5]; rfl
                                replace hq : false = q := hq
                                rw [HQ.out, ← hq] at HS
                                clear hq HQ
                                go_wp2_with fail
                                go_ret
                                exact ⟨by rw [← HALL.out, HS.out]; first | done | rfl, G2.out⟩
                              · rw [v5] at hq
                                have v5z : (xn != yn) = false := by rw [bne, v5]; rfl
                                cases v6 : (sx.toList == sy.toList)
                                · rw [v6] at hq
                                  have v6z : (sx.toList != sy.toList) = true := by rw [bne, v6]; rfl
                                  replace hq : false = q := hq
                                  rw [HQ.out, ← hq] at HS
                                  clear hq HQ
                                  go_wp2_with fail
                                  go_ret
                                  exact ⟨by rw [← HALL.out, HS.out]; first | done | rfl, G2.out⟩
                                · rw [v6] at hq
                                  have v6z : (sx.toList != sy.toList) = false := by rw [bne, v6]; rfl
                                  replace hq : true = q := hq
                                  rw [HQ.out, ← hq] at HS
                                  clear hq HQ
                                  go_wp2_with fail
                                  go_roundw
                                  case rel => exact ⟨i + 1, by go_num, by omega, G12.out, by rw [← HALL.out, HS.out, Bool.true_and]⟩
                                  case measure => simp [intOf]; omega
                  · have hge : ¬ (i : Int) < (avl : Int) := by omega
                    go_wp2_with fail
                    go_ret
                    refine ⟨?_, G1.out.trans HG.out⟩
                    rw [← HALL.out, List.drop_eq_nil_of_le (by have := HAV.out; omega), List.drop_eq_nil_of_le (by have := HBV.out; have := HLEN.out; omega)]
                    rfl
set_option maxHeartbeats 8000000 in
theorem lawSame_any (a b : Ans) (da ea db eb : Value) (M : Bl) (w : World) (h1 : Bys w da a.data) (h2 : RecsM evR w M ea a.events) (h3 : Bys w db b.data) (h4 : RecsM evR w M eb b.events) :
    Calls Tryz.prog 6 #[ansV a da ea, ansV b db eb] w (RetE (.bool true) w) := by
  have HKN := hid known_any
  have HSAME := hid (fun W (g : Gr w W) (ha : a.events.length ≤ 1000000) (hb : b.events.length ≤ 1000000) => same_any a b da ea db eb M W (h1.gr g) (h2.up (Gr.up g M)) (h3.gr g) (h4.up (Gr.up g M)) ha hb)
  have HSAMEA := hid (fun W (g : Gr w W) (ha : a.events.length ≤ 1000000) => same_any a a da ea da ea M W (h1.gr g) (h2.up (Gr.up g M)) (h1.gr g) (h2.up (Gr.up g M)) ha ha)
  have HREF := hid (fun W (g : Gr w W) (ha : a.events.length ≤ 1000000) => refSame_any a b da ea db eb M W (h1.gr g) (h2.up (Gr.up g M)) (h3.gr g) (h4.up (Gr.up g M)) ha)
  rw [sameA_refl a] at HSAMEA
  obtain ⟨A1, c1, rfl, _⟩ := h1
  obtain ⟨A2, c2, rfl, _⟩ := h2.shape
  obtain ⟨A3, c3, rfl, _⟩ := h3
  obtain ⟨A4, c4, rfl, _⟩ := h4.shape
  clear h2 h4
  generalize sameA a b = R at *
  rcases a with ⟨ae, ar, as_, ag, ⟨a1, a2, a3, a4⟩, ad, av⟩
  rcases b with ⟨be, br, bs, bg, ⟨b1, b2, b3, b4⟩, bd, bv⟩
  simp only [ansV, ansC] at *
  generalize ad.length = adl at *
  generalize bd.length = bdl at *
  generalize av.length = avl at *
  generalize bv.length = bvl at *
  obtain ⟨w1, hw1, g1, hb0, hb1⟩ := alloc2 w (.cells #[.int .i64 ae, .int .i64 ar, .int .i64 as_, .bool ag, .int .i64 a1, .int .i64 a2, .int .i64 a3, .int .i64 a4, .slice A1 adl c1, .slice A2 avl c2] 31) (.cells #[.int .i64 be, .int .i64 br, .int .i64 bs, .bool bg, .int .i64 b1, .int .i64 b2, .int .i64 b3, .int .i64 b4, .slice A3 bdl c3, .slice A4 bvl c4] 31)
  have HW1 := hid hw1
  have G1 := hid g1
  have HB0 := hid hb0
  have HB1 := hid hb1
  have l0 := block_lt hb0
  have l1 := block_lt hb1
  clear hw1 g1 hb0 hb1
  refine retE ?_
  by_cases p1 : (100 : Int) < (avl : Int)
  · go_enter Tryz.func6, Tryz.ntmps6
    go_upto_region 1 with fail
    rw [HW1.out]
    go_upto_region 3 with (go_at_call 12; refine (HKN.out _).mono ?_; rintro en _ ⟨rfl, y1, rfl⟩)
    obtain ⟨x0, x1, x2, x3, x4, x5, x6, x7, x8, x9⟩ := cells10 ((y1.gr.block _ l0).trans HB0.out)
    obtain ⟨y0, y1', y2, y3, y4, y5, y6, y7, y8, y9⟩ := cells10 ((y1.gr.block _ l1).trans HB1.out)
    have m0 := Nat.lt_of_lt_of_le l0 y1.gr.size
    have m1 := Nat.lt_of_lt_of_le l1 y1.gr.size
    go_wp2_with fail
    go_ret
    exact ⟨rfl, G1.out.ext y1⟩
  by_cases p2 : (100 : Int) < (bvl : Int)
  · go_enter Tryz.func6, Tryz.ntmps6
    go_upto_region 1 with fail
    rw [HW1.out]
    go_upto_region 3 with (go_at_call 12; refine (HKN.out _).mono ?_; rintro en _ ⟨rfl, y1, rfl⟩)
    obtain ⟨x0, x1, x2, x3, x4, x5, x6, x7, x8, x9⟩ := cells10 ((y1.gr.block _ l0).trans HB0.out)
    obtain ⟨y0, y1', y2, y3, y4, y5, y6, y7, y8, y9⟩ := cells10 ((y1.gr.block _ l1).trans HB1.out)
    have m0 := Nat.lt_of_lt_of_le l0 y1.gr.size
    have m1 := Nat.lt_of_lt_of_le l1 y1.gr.size
    go_wp2_with fail
    go_ret
    exact ⟨rfl, G1.out.ext y1⟩
  by_cases p3 : (5000 : Int) < (adl : Int)
  · go_enter Tryz.func6, Tryz.ntmps6
    go_upto_region 1 with fail
    rw [HW1.out]
    go_upto_region 3 with (go_at_call 12; refine (HKN.out _).mono ?_; rintro en _ ⟨rfl, y1, rfl⟩)
    obtain ⟨x0, x1, x2, x3, x4, x5, x6, x7, x8, x9⟩ := cells10 ((y1.gr.block _ l0).trans HB0.out)
    obtain ⟨y0, y1', y2, y3, y4, y5, y6, y7, y8, y9⟩ := cells10 ((y1.gr.block _ l1).trans HB1.out)
    have m0 := Nat.lt_of_lt_of_le l0 y1.gr.size
    have m1 := Nat.lt_of_lt_of_le l1 y1.gr.size
    go_wp2_with fail
    go_ret
    exact ⟨rfl, G1.out.ext y1⟩
  by_cases p4 : (5000 : Int) < (bdl : Int)
  · go_enter Tryz.func6, Tryz.ntmps6
    go_upto_region 1 with fail
    rw [HW1.out]
    go_upto_region 3 with (go_at_call 12; refine (HKN.out _).mono ?_; rintro en _ ⟨rfl, y1, rfl⟩)
    obtain ⟨x0, x1, x2, x3, x4, x5, x6, x7, x8, x9⟩ := cells10 ((y1.gr.block _ l0).trans HB0.out)
    obtain ⟨y0, y1', y2, y3, y4, y5, y6, y7, y8, y9⟩ := cells10 ((y1.gr.block _ l1).trans HB1.out)
    have m0 := Nat.lt_of_lt_of_le l0 y1.gr.size
    have m1 := Nat.lt_of_lt_of_le l1 y1.gr.size
    go_wp2_with fail
    go_ret
    exact ⟨rfl, G1.out.ext y1⟩
  have hla : avl ≤ 1000000 := by omega
  have hlb : bvl ≤ 1000000 := by omega
  have HSA := hid (fun W (g : Gr w W) => HSAME.out W g hla hlb)
  have HSB := hid (fun W (g : Gr w W) => HREF.out W g hla)
  have HSC := hid (fun W (g : Gr w W) => HSAMEA.out W g hla)
  clear HSAME HREF HSAMEA hla hlb
  go_enter Tryz.func6, Tryz.ntmps6
  go_upto_region 1 with fail
  rw [HW1.out]
  go_upto_region 3 with (go_at_call 12; refine (HKN.out _).mono ?_; rintro en _ ⟨rfl, y1, rfl⟩)
  obtain ⟨x0, x1, x2, x3, x4, x5, x6, x7, x8, x9⟩ := cells10 ((y1.gr.block _ l0).trans HB0.out)
  obtain ⟨y0, y1', y2, y3, y4, y5, y6, y7, y8, y9⟩ := cells10 ((y1.gr.block _ l1).trans HB1.out)
  have m0 := Nat.lt_of_lt_of_le l0 y1.gr.size
  have m1 := Nat.lt_of_lt_of_le l1 y1.gr.size
  go_upto_region 5 with fail
  clear x0 x1 x2 x3 x4 x5 x6 x7 x8 x9 y0 y1' y2 y3 y4 y5 y6 y7 y8 y9 m0 m1
  have HX := hid (fun W (g : Gr w1 W) => cells10 ((g.block _ l0).trans HB0.out))
  have HZ := hid (fun W (g : Gr w1 W) => cells10 ((g.block _ l1).trans HB1.out))
  refine wp_region_planM [(0, false), (1, false), (3, false), (4, false), (2, true), (5, true), (6, false), (7, false), (8, false), (9, false), (10, true), (11, false), (12, true)] (fun W => Gr w1 W) (by kernel_rfl) (by kernel_rfl) (fun _ _ d _ _ h => by cases d <;> exact h) y1.gr.drew (fun _ => ?_)
  have Y0 := hid y1.gr.drew
  iterate 4 (refine pm_take (v := ?_) rfl (by rfl) ?_ ?_; rotate_left; (focus (intro W9 hW9; obtain ⟨x0, x1, x2, x3, x4, x5, x6, x7, x8, x9⟩ := HX.out W9 hW9; obtain ⟨z0, z1, z2, z3, z4, z5, z6, z7, z8, z9⟩ := HZ.out W9 hW9; have lx := Nat.lt_of_lt_of_le l0 (Gr.size hW9); have lz := Nat.lt_of_lt_of_le l1 (Gr.size hW9); go_simp; (try with_reducible rfl); done)); (try simp only [AP]))
  refine pm_call rfl (by rfl) (fun K hK => ?_)
  go_simp
  go_at_call 20
  refine (HSA.out _ (G1.out.trans Y0.out)).mono ?_
  rintro en _ ⟨rfl, y9, rfl⟩
  have Y1 := hid (Gr.ext (Y0.out) y9)
  refine hK.out (fun W => Gr w1 W) _ _ Y1.out (fun W h => h) (fun _ => ?_)
  clear hK K
  (try simp only [AP])
  refine pm_call rfl (by rfl) (fun K hK => ?_)
  go_simp
  go_at_call 21
  refine (HSB.out _ (G1.out.trans Y1.out)).mono ?_
  rintro en _ ⟨rfl, y9, rfl⟩
  have Y2 := hid (Gr.ext (Y1.out) y9)
  refine hK.out (fun W => Gr w1 W) _ _ Y2.out (fun W h => h) (fun _ => ?_)
  clear hK K
  (try simp only [AP])
  have hRR : (R == R) = true := by simp
  iterate 4 (first | (refine pm_take (v := ?_) rfl (by rfl) ?_ ?_; rotate_left; (focus (intro W9 hW9; obtain ⟨x0, x1, x2, x3, x4, x5, x6, x7, x8, x9⟩ := HX.out W9 hW9; obtain ⟨z0, z1, z2, z3, z4, z5, z6, z7, z8, z9⟩ := HZ.out W9 hW9; have lx := Nat.lt_of_lt_of_le l0 (Gr.size hW9); have lz := Nat.lt_of_lt_of_le l1 (Gr.size hW9); go_simp; (try with_reducible rfl); done)); (try simp only [AP])) | (refine pm_skip rfl (by rfl) ?_; (try simp only [AP])))
  refine pm_call rfl (by rfl) (fun K hK => ?_)
  go_simp
  go_at_call 20
  refine (HSC.out _ (G1.out.trans Y2.out)).mono ?_
  rintro en _ ⟨rfl, y9, rfl⟩
  have Y3 := hid (Gr.ext (Y2.out) y9)
  refine hK.out (fun W => Gr w1 W) _ _ Y3.out (fun W h => h) (fun _ => ?_)
  clear hK K
  (try simp only [AP])
  iterate 1 (first | (refine pm_take (v := ?_) rfl (by rfl) ?_ ?_; rotate_left; (focus (intro W9 hW9; obtain ⟨x0, x1, x2, x3, x4, x5, x6, x7, x8, x9⟩ := HX.out W9 hW9; obtain ⟨z0, z1, z2, z3, z4, z5, z6, z7, z8, z9⟩ := HZ.out W9 hW9; have lx := Nat.lt_of_lt_of_le l0 (Gr.size hW9); have lz := Nat.lt_of_lt_of_le l1 (Gr.size hW9); go_simp; (try with_reducible rfl); done)); (try simp only [AP])) | (refine pm_skip rfl (by rfl) ?_; (try simp only [AP])))
  refine pm_last rfl (by rfl) (fun K hK => ?_)
  go_simp
  refine hK.out _ _ ?_
  clear hK K
  go_wp2_with fail
  go_ret
  exact ⟨rfl, G1.out.trans Y3.out⟩
end Go.Proofs.YtniknicnnaiilaaGreat
end
section
namespace Go.Ext
open Go.RowKit Go.ChangeShapes Go.WideShapes Go.ChangeAt
section
variable {H : Type} {enc : TypeId × Value → H} {P : Program}
theorem trodAll_gr (hl : laidOutB P = true) {W W' : World} (hb : Gr W W') : ∀ (ts : List TypeId) (vs : List Value) (ds : List (DataW H)) (ps : List MemPlace), (∀ t ∈ ts, P.readableRec t = true ∧ t < P.types.size) →
    DataW.TrodAll enc P W 0 (fun _ => true) true ts vs ds ps → (∀ x ∈ ps, x.block < W.heap.size) → DataW.TrodAll enc P W' 0 (fun b => decide (b < W.heap.size)) true ts vs ds ps
  | [], vs, ds, ps, _, h, _ => by
    obtain ⟨rfl, rfl, rfl⟩ := trodAll_nil h
    exact trodAll_mk0
  | t :: ts, vs, ds, ps, hr, h, hlt => by
    obtain ⟨v, vs', d, ds', p, q, rfl, rfl, rfl, h0, h1⟩ := trodAll_cons h
    have ht := hr t (by simp)
    exact trodAll_cons_mk (Below.trod hl ht.1 ht.2 h0 hb (fun x hx => hlt x (by simp [hx]))) (trodAll_gr hl hb ts vs' ds' q (fun t' h' => hr t' (by simp [h'])) h1 (fun x hx => hlt x (by simp [hx])))
theorem of_all {ts : List TypeId} (h : (ts.all fun t => P.readableRec t && decide (t < P.types.size)) = true) : ∀ t ∈ ts, P.readableRec t = true ∧ t < P.types.size := by
  intro t ht
  have := List.all_eq_true.1 h t ht
  simpa using this
theorem law_post {fn : Func} {s : ChangeSpec} {tb : TypeId} (hl : laidOutB P = true) (hread : (fn.params.toList.all fun t => P.readableRec t && decide (t < P.types.size)) = true) (hres : fn.resultTypes = #[tb]) (htb : P.underlying tb = some .bool) (hvars : s.vars = [])
    {W W' : World} {args : Array Value} {ds gs : List (DataW H)} {before : List MemPlace} (hW : DataW.Whole enc P fn.params.toList s.vars false W args.toList ds gs before)
    (hs : s.fn H (ds ++ gs) = { results := [.lit (.bool true)], args := ds }) (hb : Gr W W') : s.post enc P fn false true false false W args (.bool true) W' := by
  have hlt : ∀ x ∈ before, x.block < W.heap.size := hW.lt
  have hW' := hW
  obtain ⟨p, q, hA, hV, rfl, _, _⟩ := hW
  refine ⟨ds, gs, p ++ q, [], p, [], hW', ?_, ?_, ?_, hb.below.frame _, fun h => by cases h⟩
  · rw [hs, hres]
    exact trodAll_mk1 (shut_bool htb true)
  · rw [hs]
    exact trodAll_gr hl hb _ _ _ _ (of_all hread) hA (fun x hx => hlt x (by simp [hx]))
  · rw [hs, hvars]
    rfl
end
end Go.Ext
end
section
namespace Go.Proofs.YtniknicnnaiilaaGreat
set_option maxRecDepth 100000
open Go.RowKit Go.Ext Go.BigFrame Go.Maps Go.MapKept
attribute [local go_sem] Ext.cell Ext.frozen Ext.lt Ext.le s1 s2 s3 s4 s5 s6 t1 t2 t3 t4 t5 t6
attribute [local go_sem ↓] Go.wp_at_zero Go.wp_at_succ
open Go.ChangeShapes Go.WideShapes Go.ChangeAt Go.Joins Go.Deep
theorem Tryz.own : ownKnob Tryz.prog.godebug = none := by kernel_rfl
theorem Tryz.laidOut : laidOutB Tryz.prog = true := by kernel_rfl
theorem addr_none {b off j : Nat} : (⟨b, off, none⟩ : Addr).add j = ⟨b, off + j, none⟩ := by unfold Addr.add; split <;> simp_all
section
variable {H : Type} {enc : TypeId × Value → H} {P : Program} {w : World} {base : Nat} {spare : Nat → Bool} {held : Bool}
theorem open_slice_fields {t e : TypeId} {fs : Array Field} {fuel : Nat} {cs : List Value} {x : DataW H × List MemPlace} (ht : P.underlying t = some (.slice e)) (he : P.underlying e = some (.struct fs))
    (hone : oneCellFields P fs = true) (hC : P.cellsOf e = fs.size) (h : DataW.trod enc P w base spare held fuel t cs = some x) :
    (cs = [.slice none 0 0] ∧ x = (.nil, [])) ∨
    ∃ (a : Addr) (len cap m : Nat) (D : Nat → DataW H) (Pl : Nat → List MemPlace), cs = [.slice (some a) len cap] ∧ base ≤ a.block ∧ len ≤ cap ∧ cap ≤ maxLen ∧ m = (if spare a.block then cap else len) ∧
      x = (.slice ((List.range len).map D) ((List.range (m - len)).map fun j => D (len + j)), MemPlace.row a (m * fs.size) ++ (List.range m).flatMap Pl) ∧
      ∀ i, i < m → ∃ (ys : List (DataW H × List MemPlace)) (n : Nat), D i = .agg (ys.map (·.1)) ∧ Pl i = ys.flatMap (·.2) ∧ ys.length = fs.size ∧
        ∀ (j : Nat) (f : Field), fs[j]? = some f → ∃ (v : Value) (y : DataW H × List MemPlace), w.cell? (a.add (i * fs.size + j)) = some v ∧ ys[j]? = some y ∧ DataW.trod enc P w base spare held n f.type [v] = some y := by
  rcases open_slice ht h with h0 | ⟨a, len, cap, m, n, D, Pl, hcs, hb, hl, hm, hmm, hx, hi⟩
  · exact .inl h0
  · refine .inr ⟨a, len, cap, m, D, Pl, hcs, hb, hl, hm, hmm, by rw [hC] at hx; exact hx, fun i him => ?_⟩
    obtain ⟨cs', hc, ht'⟩ := hi i him
    rw [hC] at hc
    obtain ⟨ys, n', hn', hy, hlen, hyl, hf⟩ := DataW.trod_struct he ht'
    obtain ⟨_, hcl, hat⟩ := World.cells?_some hc
    simp only [Prod.mk.injEq] at hy
    refine ⟨ys, n', hy.1, hy.2, hyl, fun j f hj => ?_⟩
    obtain ⟨ho, hk⟩ := hone_of hone j f hj
    have hjl : j < fs.size := (Array.getElem?_eq_some_iff.1 hj).1
    have hcell := hat j hjl
    have hv : cs'[j]? = some (cs'[j]'(by omega)) := List.getElem?_eq_getElem (by omega)
    have h1 := hf j f hj
    rw [ho, hk] at h1
    have hone' : (cs'.drop j).take 1 = [cs'[j]'(by omega)] := by
      rw [List.drop_eq_getElem_cons (by omega)]
      rfl
    rw [hone'] at h1
    have hys : ys[j]? = some (ys[j]'(by omega)) := List.getElem?_eq_getElem (by omega)
    refine ⟨_, _, ?_, hys, h1.trans hys⟩
    rw [← Go.Deep.add_add, hcell, hv]
theorem weightsAll_mem {e : TypeId} {d : DataW H} {n : Nat} : ∀ {ds : List (DataW H)}, d ∈ ds → n ∈ d.weights P e → n ∈ DataW.weightsAll P e ds
  | d0 :: ds, hd, hn => by
    simp only [DataW.weightsAll, List.mem_append]
    rcases List.mem_cons.1 hd with rfl | hd
    · exact .inl hn
    · exact .inr (weightsAll_mem hd hn)
end
theorem Bys.m {W : World} {v : Value} {bs : List UInt8} (h : Bys W v bs) : BysM W (fun _ => False) v bs := by
  obtain ⟨A, c, e, h1, h2, h3⟩ := h
  exact ⟨A, c, e, h1, Rd.m h2 (fun _ _ _ _ e => e), h3⟩
theorem datM_map {α : Type} {r : α → List Int × List UInt8} {W : World} {M : Bl} (f : Nat → α) (g : Nat → Value) : ∀ L : List Nat, (∀ i ∈ L, BysM W M (g i) (r (f i)).2) → DatM W M ((L.map f).map r) (L.map g)
  | [], _ => trivial
  | i :: L, h => ⟨h i (List.mem_cons_self ..), datM_map f g L (fun j hj => h j (List.mem_cons_of_mem _ hj))⟩
theorem recs_of {α : Type} (r : α → List Int × List UInt8) (m : Nat) (hm : ∀ x, (r x).1.length = m) {W : World} {M : Bl} {b off n c : Nat} (f : Nat → α) (g : Nat → Value)
    (h : ∀ i, i < n → (∀ j u, (recC (r (f i)) (g i))[j]? = some u → W.cell? ⟨b, off + i * (m + 1) + j, none⟩ = some u) ∧ BysM W M (g i) (r (f i)).2) (hM : ¬ M b) (hnc : n ≤ c) : RecsM r W M (.slice (some ⟨b, off, none⟩) n c) ((List.range n).map f) := by
  refine ⟨some ⟨b, off, none⟩, c, (List.range n).map g, by simp, by simpa using hnc, datM_map f g _ (fun i hi => (h i (by simpa using hi)).2), fun _ => ⟨b, off, rfl, hM, fun j u hu => ?_⟩, fun e => by cases e⟩
  have hmm : ∀ x ∈ ((List.range n).map f).map r, x.1.length = m := fun x hx => by
    obtain ⟨y, _, rfl⟩ := List.mem_map.1 hx
    exact hm y
  have hlen := rowC_len (((List.range n).map f).map r) ((List.range n).map g) hmm (by simp)
  have hj := (List.getElem?_eq_some_iff.1 hu).1
  rw [hlen] at hj
  simp only [List.length_map, List.length_range] at hj
  have hi : j / (m + 1) < n := Nat.div_lt_of_lt_mul (by rw [Nat.mul_comm]; exact hj)
  have hk : j % (m + 1) < m + 1 := Nat.mod_lt _ (by omega)
  have hg := rowC_get (((List.range n).map f).map r) ((List.range n).map g) (j / (m + 1)) (r (f (j / (m + 1)))) (g (j / (m + 1))) (j % (m + 1)) hmm (by simp [hi]) (by simp [hi]) hk
  have hj2 : j / (m + 1) * (m + 1) + j % (m + 1) = j := by rw [Nat.mul_comm]; exact Nat.div_add_mod j (m + 1)
  rw [hj2] at hg
  have := (h _ hi).1 _ u (hg ▸ hu)
  rw [Nat.add_assoc, hj2] at this
  exact this
section
variable {H : Type} {enc : TypeId × Value → H}
theorem bys_trod {W : World} {fuel : Nat} {v : Value} {y : DataW H × List MemPlace} (h : DataW.trod enc Tryz.prog W 0 (fun _ => true) true fuel 22 [v] = some y) (hz : ∀ n ∈ y.1.weights Tryz.prog 22, n ≤ reachBytes) :
    ∃ bs, Bys W v bs := by
  rcases open_ints (k := .u8) Tryz.underlying22 Tryz.underlying5 (by kernel_rfl) h with ⟨hcs, _⟩ | ⟨a, len, cap, zs, hcs, _, hl, hm, hlen, hx, hcell, hw⟩
  · injection hcs with hcs
    subst hcs
    exact ⟨[], none, 0, rfl, by simp, Rd.nil _ _, fun _ => rfl⟩
  · injection hcs with hcs
    subst hcs
    have hcap : zs.length = cap := by simpa using hlen
    have hb : cap ≤ 140737488351232 := by
      have := hz _ (by
        rw [hx]
        simp only [DataW.weights, Tryz.underlying22]
        exact List.mem_cons_self ..)
      simp only [Go.ChangeShapes.lits, List.length_map, List.length_take, List.length_drop, hcap] at this
      have e1 : Tryz.prog.bytesOf 5 = 1 := by kernel_rfl
      rw [e1] at this
      unfold reachBytes at this
      omega
    refine ⟨(zs.take len).map (fun z => UInt8.ofNat z.toNat), some a, cap, by simp; omega, by simp; omega, fun hne => ?_, fun e => by cases e⟩
    have h0 : 0 < len := by
      rcases Nat.eq_zero_or_pos len with h0 | h0
      · subst h0; simp [bc] at hne
      · exact h0
    obtain ⟨b, off, spot⟩ := a
    have hs : spot = none := by
      have := hcell 0 (by omega)
      simpa [Addr.add] using World.cell?_spot this
    subst hs
    refine ⟨b, off, rfl, fun j u hu => ?_⟩
    have hj : j < len := by
      have := (List.getElem?_eq_some_iff.1 hu).1
      simp [bc] at this; omega
    have := hcell j (by omega)
    rw [addr_none] at this
    rw [this, ← hu]
    have hwz := hw (zs[j]'(by omega)) (List.getElem_mem _)
    have hr : 0 ≤ zs[j]'(by omega) ∧ zs[j]'(by omega) ≤ 255 := by simpa [Lit.wf, IntKind.min, IntKind.max, IntKind.signed, IntKind.bits] using hwz
    simp [bc, hj, List.getD, show j < zs.length by omega]
    omega
theorem evs_trod {W : World} {fuel : Nat} {v : Value} {y : DataW H × List MemPlace} (h : DataW.trod enc Tryz.prog W 0 (fun _ => true) true fuel 29 [v] = some y) (hz : ∀ n ∈ y.1.weights Tryz.prog 29, n ≤ reachBytes) :
    ∃ l : List Ev, RecsM evR W (fun _ => False) v l := by
  rcases open_slice_fields Tryz.underlying29 Tryz.underlying41 (by kernel_rfl) (by kernel_rfl) h with ⟨hcs, _⟩ | ⟨a, len, cap, m, D, Pl, hcs, hb, hl, hm, hmm, hx, hi⟩
  · injection hcs with hcs
    subst hcs
    exact ⟨[], RecsM.none _ _ _⟩
  · injection hcs with hcs
    subst hcs
    have hm' : m = cap := by simpa using hmm
    subst hm'
    rw [hx] at hz
    have each : ∀ i, i < len → ∃ (x : Ev) (dv : Value), (∀ j u, (recC (evR x) dv)[j]? = some u → W.cell? (a.add (i * 7 + j)) = some u) ∧ BysM W (fun _ => False) dv x.data := by
      intro i hin
      obtain ⟨ys, k, hD, _, hyl, hf⟩ := hi i (by omega)
      obtain ⟨v0, y0, c0, g0, t0⟩ := hf 0 _ rfl
      obtain ⟨v1, y1, c1, g1, t1⟩ := hf 1 _ rfl
      obtain ⟨v2, y2, c2, g2, t2⟩ := hf 2 _ rfl
      obtain ⟨v3, y3, c3, g3, t3⟩ := hf 3 _ rfl
      obtain ⟨v4, y4, c4, g4, t4⟩ := hf 4 _ rfl
      obtain ⟨v5, y5, c5, g5, t5⟩ := hf 5 _ rfl
      obtain ⟨v6, y6, c6, g6, t6⟩ := hf 6 _ rfl
      obtain ⟨z0, e0, _, _⟩ := DataW.trod_int Tryz.underlying3 t0
      injection e0 with e0
      obtain ⟨z1, e1, _, _⟩ := DataW.trod_int Tryz.underlying3 t1
      injection e1 with e1
      obtain ⟨z2, e2, _, _⟩ := DataW.trod_int Tryz.underlying3 t2
      injection e2 with e2
      obtain ⟨z3, e3, _, _⟩ := DataW.trod_int Tryz.underlying3 t3
      injection e3 with e3
      obtain ⟨z4, e4, _, _⟩ := DataW.trod_int Tryz.underlying3 t4
      injection e4 with e4
      obtain ⟨z5, e5, _, _⟩ := DataW.trod_int Tryz.underlying3 t5
      injection e5 with e5
      subst e0 e1 e2 e3 e4 e5
      have hzD : ∀ q ∈ (D i).weights Tryz.prog 41, q ≤ reachBytes := fun q hq => hz q (by
        simp only [DataW.weights, Tryz.underlying29]
        exact List.mem_cons_of_mem _ (List.mem_append_left _ (weightsAll_mem (d := D i) (List.mem_map.2 ⟨i, by simpa using hin, rfl⟩) hq)))
      rw [hD] at hzD
      simp only [DataW.weights, Tryz.underlying41] at hzD
      obtain ⟨bs, hbs⟩ := bys_trod t6 (fun q hq => hzD q (DataW.weights_mem_each (j := 6) (t := 22) (d := y6.1) rfl (by simp [g6]) q hq))
      refine ⟨⟨z0, z1, z2, z3, z4, z5, bs⟩, v6, fun j u hu => ?_, hbs.m⟩
      have hj := (List.getElem?_eq_some_iff.1 hu).1
      simp [recC, evR] at hj hu
      rcases j with _ | _ | _ | _ | _ | _ | _ | j
      · simp at hu; subst hu; exact c0
      · simp at hu; subst hu; exact c1
      · simp at hu; subst hu; exact c2
      · simp at hu; subst hu; exact c3
      · simp at hu; subst hu; exact c4
      · simp at hu; subst hu; exact c5
      · simp at hu; subst hu; exact c6
      · omega
    let f : Nat → Ev := fun i => if h : i < len then Classical.choose (each i h) else ⟨0, 0, 0, 0, 0, 0, []⟩
    let g : Nat → Value := fun i => if h : i < len then Classical.choose (Classical.choose_spec (each i h)) else .int .i64 0
    have hf : ∀ i, i < len → (∀ j u, (recC (evR (f i)) (g i))[j]? = some u → W.cell? (a.add (i * 7 + j)) = some u) ∧ BysM W (fun _ => False) (g i) (f i).data := by
      intro i hin
      have := Classical.choose_spec (Classical.choose_spec (each i hin))
      simp only [f, g, dif_pos hin]
      exact this
    refine ⟨(List.range len).map f, ?_⟩
    by_cases h0 : len = 0
    · subst h0
      exact ⟨some a, m, [], rfl, by simp, trivial, RdM.nil _ _ _, fun e => by cases e⟩
    · obtain ⟨b, off, spot⟩ := a
      have hs : spot = none := by
        have := (hf 0 (by omega)).1 0 _ rfl
        simpa [Addr.add] using World.cell?_spot this
      subst hs
      refine recs_of evR 6 evR_len f g (fun i hin => ⟨fun j u hu => ?_, (hf i hin).2⟩) (fun e => e) hl
      have := (hf i hin).1 j u hu
      rw [addr_none] at this
      rw [Nat.add_assoc]
      exact this
theorem decs_trod {W : World} {fuel : Nat} {v : Value} {y : DataW H × List MemPlace} (h : DataW.trod enc Tryz.prog W 0 (fun _ => true) true fuel 33 [v] = some y) (hz : ∀ n ∈ y.1.weights Tryz.prog 33, n ≤ reachBytes) :
    ∃ l : List Dec, RecsM decR W (fun _ => False) v l := by
  rcases open_slice_fields Tryz.underlying33 Tryz.underlying39 (by kernel_rfl) (by kernel_rfl) h with ⟨hcs, _⟩ | ⟨a, len, cap, m, D, Pl, hcs, hb, hl, hm, hmm, hx, hi⟩
  · injection hcs with hcs
    subst hcs
    exact ⟨[], RecsM.none _ _ _⟩
  · injection hcs with hcs
    subst hcs
    have hm' : m = cap := by simpa using hmm
    subst hm'
    rw [hx] at hz
    have each : ∀ i, i < len → ∃ (x : Dec) (dv : Value), (∀ j u, (recC (decR x) dv)[j]? = some u → W.cell? (a.add (i * 5 + j)) = some u) ∧ BysM W (fun _ => False) dv x.data := by
      intro i hin
      obtain ⟨ys, k, hD, _, hyl, hf⟩ := hi i (by omega)
      obtain ⟨v0, y0, c0, g0, t0⟩ := hf 0 _ rfl
      obtain ⟨v1, y1, c1, g1, t1⟩ := hf 1 _ rfl
      obtain ⟨v2, y2, c2, g2, t2⟩ := hf 2 _ rfl
      obtain ⟨v3, y3, c3, g3, t3⟩ := hf 3 _ rfl
      obtain ⟨v4, y4, c4, g4, t4⟩ := hf 4 _ rfl
      obtain ⟨z0, e0, _, _⟩ := DataW.trod_int Tryz.underlying3 t0
      injection e0 with e0
      obtain ⟨z1, e1, _, _⟩ := DataW.trod_int Tryz.underlying3 t1
      injection e1 with e1
      obtain ⟨z2, e2, _, _⟩ := DataW.trod_int Tryz.underlying3 t2
      injection e2 with e2
      obtain ⟨z3, e3, _, _⟩ := DataW.trod_int Tryz.underlying3 t3
      injection e3 with e3
      subst e0 e1 e2 e3
      have hzD : ∀ q ∈ (D i).weights Tryz.prog 39, q ≤ reachBytes := fun q hq => hz q (by
        simp only [DataW.weights, Tryz.underlying33]
        exact List.mem_cons_of_mem _ (List.mem_append_left _ (weightsAll_mem (d := D i) (List.mem_map.2 ⟨i, by simpa using hin, rfl⟩) hq)))
      rw [hD] at hzD
      simp only [DataW.weights, Tryz.underlying39] at hzD
      obtain ⟨bs, hbs⟩ := bys_trod t4 (fun q hq => hzD q (DataW.weights_mem_each (j := 4) (t := 22) (d := y4.1) rfl (by simp [g4]) q hq))
      refine ⟨⟨z0, z1, z2, z3, bs⟩, v4, fun j u hu => ?_, hbs.m⟩
      have hj := (List.getElem?_eq_some_iff.1 hu).1
      simp [recC, decR] at hj hu
      rcases j with _ | _ | _ | _ | _ | j
      · simp at hu; subst hu; exact c0
      · simp at hu; subst hu; exact c1
      · simp at hu; subst hu; exact c2
      · simp at hu; subst hu; exact c3
      · simp at hu; subst hu; exact c4
      · omega
    let f : Nat → Dec := fun i => if h : i < len then Classical.choose (each i h) else ⟨0, 0, 0, 0, []⟩
    let g : Nat → Value := fun i => if h : i < len then Classical.choose (Classical.choose_spec (each i h)) else .int .i64 0
    have hf : ∀ i, i < len → (∀ j u, (recC (decR (f i)) (g i))[j]? = some u → W.cell? (a.add (i * 5 + j)) = some u) ∧ BysM W (fun _ => False) (g i) (f i).data := by
      intro i hin
      have := Classical.choose_spec (Classical.choose_spec (each i hin))
      simp only [f, g, dif_pos hin]
      exact this
    refine ⟨(List.range len).map f, ?_⟩
    by_cases h0 : len = 0
    · subst h0
      exact ⟨some a, m, [], rfl, by simp, trivial, RdM.nil _ _ _, fun e => by cases e⟩
    · obtain ⟨b, off, spot⟩ := a
      have hs : spot = none := by
        have := (hf 0 (by omega)).1 0 _ rfl
        simpa [Addr.add] using World.cell?_spot this
      subst hs
      refine recs_of decR 4 decR_len f g (fun i hin => ⟨fun j u hu => ?_, (hf i hin).2⟩) (fun e => e) hl
      have := (hf i hin).1 j u hu
      rw [addr_none] at this
      rw [Nat.add_assoc]
      exact this
end
end Go.Proofs.YtniknicnnaiilaaGreat
end
