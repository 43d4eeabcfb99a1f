import Derived.Test.YthiahnpijdkboaaC
import Derived.Test.YthiahnpijdkboaaN
import Derived.Laws.BytesString
import Derived.Laws.BytesArg
namespace Go.Proofs.Ythiahnpijdkboaa
open Go.RowKit Go.Ext Go.BigFrame
attribute [local go_sem] Ext.cell Ext.frozen Ext.lt Ext.le s1 s2 s3 s4 s5 s6 t1 t2 t3 t4 t5 t6
attribute [local go_sem ↓] Go.wp_at_zero Go.wp_at_succ

/-- The string of bytes. -/
def sb (bs : List UInt8) : ByteArray := if bs = [] then ByteArray.empty else strOfNums (bs.map fun b => (b.toNat : Int))

theorem conv_byt {base : Nat} {w : World} {d : Value} {bs : List UInt8} (h : Byt TB base w d bs) : (convert 44 9 d).run Try.prog w = .ok (.string (sb bs)) w := by
  obtain ⟨A, c, rfl, hl, hr, hi, hn⟩ := h
  by_cases hb : bs = []
  · subst hb
    rw [run_convert_bytes_string w 44 9 5 A _ c Try.underlying44 Try.underlying5 Try.underlying9]
    cases A with
    | none => simp [Conv.bytesToString, sb]
    | some a =>
      have := run_bytesToString (P := Try.prog) w a 0 c [] (by have := run_loadCells_list (P := Try.prog) w a [] (by simp); simpa using this)
      simpa [sb] using this
  · obtain ⟨b, off, rfl, hc⟩ := hr (by simpa [bc] using hb)
    unfold sb
    rw [if_neg hb]
    refine run_convert_bytes_arg w 44 5 Try.underlying44 Try.underlying5 b off bs.length c _ (by simp) (fun i hi => ?_) 9 Try.underlying9
    rw [hc i (.int .u8 (bs[i]'hi).toNat) (by simp [bc, hi])]
    simp [List.getD, hi]
theorem conv_ext {base : Nat} {w : World} {d : Value} {bs : List UInt8} (h : Byt TB base w d bs) (x : Ext w) : (convert 44 9 d).run Try.prog x.val = .ok (.string (sb bs)) x.val := conv_byt (h.kp x.gr.kp)

theorem own_nil {base B : Nat} {w : World} {v : Value} (h : OwnE base B w v []) : ∃ A c, v = .slice A 0 c := by
  obtain ⟨A, c, e⟩ := h.shape
  exact ⟨A, c, e⟩
theorem own_one {base B : Nat} {w : World} {v : Value} {e : Ent} (h : OwnE base B w v [e]) : ∃ g c D k, v = .slice (some ⟨g, 0, none⟩) 1 c ∧ g < w.heap.size ∧ w.cell? ⟨g, 0, none⟩ = some (.int .i64 e.1) ∧ w.cell? ⟨g, 1, none⟩ = some (.slice D e.2.length k) ∧ Byt TB base w (.slice D e.2.length k) e.2 := by
  obtain ⟨g, c, rfl, hc⟩ := OwnE.some h (by simp)
  obtain ⟨ys, o1, o2⟩ := h
  have hr := Rd.of_own o1
  obtain ⟨e1, d, e2, e3⟩ := o2.2 0 (by simp)
  obtain ⟨b, off, hb, hcell⟩ := hr (by rintro rfl; cases e1)
  injection hb with hb
  injection hb with hb1 hb2
  subst hb1 hb2
  have k1 := hcell _ _ e1
  have k2 := hcell _ _ e2
  obtain ⟨D, k, rfl, _⟩ := id e3
  exact ⟨g, c, D, k, rfl, World.block_lt_of_cell? w _ k1, k1, k2, e3⟩

theorem getL_below {idx a : Int} {L : List Ent} (h : a ≤ idx) : getL idx L a (a + 1) = [] := by
  unfold getL
  refine List.drop_eq_nil_of_le ?_
  rw [List.length_take]
  omega
theorem getL_one {L : List Ent} {k j : Nat} (h1 : k < j) (h2 : j ≤ L.length) : getL (k : Int) (L.drop k) (j : Int) ((j : Int) + 1) = [L.getD (j - 1) (0, [])] := by
  unfold getL
  rw [List.length_drop]
  have e1 : (min ((j : Int) + 1) ((k : Int) + 1 + ((L.length - k : Nat) : Int)) - ((k : Int) + 1)).toNat = j - k := by omega
  have e2 : (max (j : Int) ((k : Int) + 1) - ((k : Int) + 1)).toNat = j - k - 1 := by omega
  rw [e1, e2]
  apply List.ext_getElem?
  intro i
  rw [List.getElem?_drop, List.getElem?_take]
  by_cases hi : i = 0
  · subst hi
    rw [if_pos (by omega), List.getElem?_drop]
    have : k + (j - k - 1 + 0) = j - 1 := by omega
    rw [this]
    simp [List.getD, show j - 1 < L.length by omega]
  · rw [if_neg (by omega)]
    cases i with
    | zero => exact absurd rfl hi
    | succ i => simp

set_option maxRecDepth 100000 in
set_option maxHeartbeats 4000000 in
theorem compacts_true (k : Int) (A : Option Addr) (c : Nat) (L : List Ent) (w : World) (hs : Sl w.heap.size w A L) (hl : L.length ≤ 4398046511000) (hk1 : -9223372036854775808 ≤ k) (hk2 : k ≤ 9223372036854775807) :
    Calls Try.prog 6 #[.slice A L.length c, .int .i64 k] w (RetE (.bool true) w) := by
  refine retE ?_
  obtain ⟨base, hbase⟩ : ∃ b, w.heap.size = b := ⟨_, rfl⟩
  rw [hbase] at hs
  have hb : base ≤ w.heap.size := by omega
  have HL := hid hs
  clear hs
  go_enter Try.func6, Try.ntmps6
  go_wp2_with (go_at_call 8; (with_reducible refine (known_any w).mono ?_); rintro e _ ⟨rfl, y0, rfl⟩)
  go_at_call 9
  refine (few_nil base A c L y0.val (HL.out.gr y0.gr) (by omega)).mono ?_
  rintro e _ ⟨b1, rfl, rfl⟩
  cases b1
  · go_wp2_with fail
    go_ret
    exact ⟨rfl, y0.gr⟩
  have hb0 : base ≤ y0.val.heap.size := Nat.le_trans hb y0.gr.size
  by_cases h1 : NewOk 0 0 L
  · go_wp2_with (go_at_call 10; (with_reducible refine (new_ok base 0 0 A c L y0.val (HL.out.gr y0.gr) (by omega) h1 (by decide) hb0).mono ?_); rintro e _ ⟨g, v, y1, rfl, rfl, hl1, hg1⟩; have HG1 := hid hl1; clear hl1)
    by_cases hbad : k < 1 ∨ (L.length : Int) < k
    · have CB := hid (compact_bad base g 0 0 k L v y1.val HG1.out (by omega))
      rcases hbad with hbad | hbad
      · go_wp2_with (go_at_call 23; (with_reducible refine CB.out.mono ?_); rintro e _ ⟨rfl, y2, rfl⟩)
        go_ret
        exact ⟨rfl, y0.gr.trans (y1.gr.trans y2.gr)⟩
      · have hk3 : ¬ k < 1 := by omega
        go_wp2_with (go_at_call 23; (with_reducible refine CB.out.mono ?_); rintro e _ ⟨rfl, y2, rfl⟩)
        go_ret
        exact ⟨rfl, y0.gr.trans (y1.gr.trans y2.gr)⟩
    · obtain ⟨p, hp⟩ : ∃ p : Nat, k = p := ⟨k.toNat, by omega⟩
      subst hp
      have hp1 : 0 < p := by omega
      have hp2 : p ≤ L.length := by omega
      clear hbad
      have CC := hid (compact_any base g p 0 0 p L v y1.val HG1.out hp1 hp2 (by omega) (by omega) (Nat.le_trans hb0 y1.gr.size))
      go_wp2_with (go_at_call 23; (with_reducible refine CC.out.mono ?_); rintro e w2 ⟨v2, rfl, hl2, hm2⟩)
      have G2 := hid (show Gr w w2 from gr_mod (y0.gr.trans y1.gr) hm2 (by rintro q rfl; have := y0.gr.size; omega))
      have HLG := hid hl2
      have hdl : (L.drop p).length = L.length - p := by simp
      clear hl2 hm2 CC
      have hT : tmT 0 0 L p = (L.getD (p - 1) (0, [])).1 := by
        unfold tmT
        rw [if_neg (by omega), if_pos (by omega)]
        congr 2; omega
      rw [hT] at HLG
      clear hT
      obtain ⟨T, hT⟩ : ∃ T, (L.getD (p - 1) (0, [])).1 = T := ⟨_, rfl⟩
      rw [hT] at HLG
      have HTT := hid hT
      have CF := fun (W : World) (hg : Gr w2 W) => hid (first_any base g p T (L.drop p) v2 W (HLG.out.gr hg))
      have CN := fun (W : World) (hg : Gr w2 W) => hid ((len_any base g p T (L.drop p) v2 W (HLG.out.gr hg)).mono (R' := RetE (.int .i64 ((L.length - p : Nat) : Int)) W) (fun _ _ h => by rwa [hdl] at h))
      clear hT
      go_loopw [7, 8, 9, 10] (fun i _ _ _ wr => ∃ j : Nat, j ≤ L.length + 2 ∧ i = .int .i64 j ∧ Gr w2 wr) (fun i _ _ _ _ => L.length + 2 - (intOf i).toNat)
      case atStart => exact ⟨0, by omega, rfl, Gr.refl _⟩
      case round =>
        obtain ⟨j, hj, rfl, hg⟩ := hrel
        have HG := hid hg
        clear hg
        have hbr : base ≤ wr.heap.size := Nat.le_trans (Nat.le_trans hb G2.out.size) HG.out.size
        have CT := hid (term_any base g p T j (L.drop p) v2 wr (HLG.out.gr HG.out) (by omega))
        have CG := fun (W : World) (hW : Gr wr W) => hid (get_any base g p T j (j + 1) (L.drop p) v2 W (HLG.out.gr (HG.out.trans hW)) (Nat.le_trans hbr hW.size))
        by_cases c1 : j < p
        · have e1 : tmT p T (L.drop p) j = 0 := by unfold tmT; rw [if_neg (by omega), if_neg (by omega)]
          have e2 : tmB p (L.drop p).length j = false := decide_eq_false (by omega)
          rw [e1, e2] at CT
          have e3 := getL_below (idx := p) (a := j) (L := L.drop p) (by omega)
          have CG' := fun (W : World) (hW : Gr wr W) => hid ((CG W hW).out.mono (R' := RetP (fun w' v => ∃ A c, v = .slice A 0 c) W) (fun _ _ ⟨v, y, he, hw, ho⟩ => ⟨v, y, he, hw, own_nil (by rwa [e3] at ho)⟩))
          clear CG e1 e2 e3 CF CN
          go_wp2_with (first | (go_at_call 22; (with_reducible refine CT.out.mono ?_); rintro e _ ⟨rfl, y3, rfl⟩) | (go_at_call 18; (with_reducible refine (CG' y3.val y3.gr).out.mono ?_); rintro e _ ⟨_, y4, rfl, rfl, A4, c4, rfl⟩))
          go_roundw
          case rel => exact ⟨j + 1, by omega, by go_num, HG.out.trans (y3.gr.trans y4.gr)⟩
          case measure => simp [intOf]; omega
        by_cases c2 : j = p
        · subst c2
          have e1 : tmT j T (L.drop j) j = T := by unfold tmT; rw [if_pos rfl]
          have e2 : tmB j (L.drop j).length j = true := decide_eq_true (by omega)
          rw [e1, e2] at CT
          have e3 := getL_below (idx := j) (a := j) (L := L.drop j) (by omega)
          have CG' := fun (W : World) (hW : Gr wr W) => hid ((CG W hW).out.mono (R' := RetP (fun w' v => ∃ A c, v = .slice A 0 c) W) (fun _ _ ⟨v, y, he, hw, ho⟩ => ⟨v, y, he, hw, own_nil (by rwa [e3] at ho)⟩))
          clear CG e1 e2 e3 CF CN
          obtain ⟨b, off, D, c', rfl, d1, d2, d3, d4⟩ := (HL.out.gr (G2.out.trans HG.out)).at_ (i := j - 1) (by omega)
          rw [HTT.out] at d1
          clear d2 d3
          go_wp2_with (first | (go_at_call 22; (with_reducible refine CT.out.mono ?_); rintro e _ ⟨rfl, y3, rfl⟩) | (go_at_call 18; (with_reducible refine (CG' y3.val y3.gr).out.mono ?_); rintro e _ ⟨_, y4, rfl, rfl, A4, c4, rfl⟩))
          go_roundw
          case rel => exact ⟨j + 1, by omega, by go_num, HG.out.trans (y3.gr.trans y4.gr)⟩
          case measure => simp [intOf]; omega
        by_cases c3 : j ≤ L.length
        · have e1 : tmT p T (L.drop p) j = (L.getD (j - 1) (0, [])).1 := by
            unfold tmT
            rw [if_neg (by omega), if_pos (by rw [hdl]; omega), getD_drop]
            congr 2; omega
          have e2 : tmB p (L.drop p).length j = true := decide_eq_true (by rw [hdl]; omega)
          rw [e1, e2] at CT
          have e3 := getL_one (L := L) (k := p) (j := j) (by omega) c3
          obtain ⟨⟨ek, bs⟩, he⟩ : ∃ e, L.getD (j - 1) (0, []) = e := ⟨_, rfl⟩
          rw [he] at e3 CT
          have CG' := fun (W : World) (hW : Gr wr W) => hid ((CG W hW).out.mono (R' := RetP (fun w' v => OwnE base W.heap.size w' v [(ek, bs)]) W) (fun _ _ ⟨v, y, he, hw, ho⟩ => ⟨v, y, he, hw, by rwa [e3] at ho⟩))
          have HE := hid he
          clear CG e1 e2 e3 CF CN he
          go_wp2_with (first | (go_at_call 22; (with_reducible refine CT.out.mono ?_); rintro e _ ⟨rfl, y3, rfl⟩) | (go_at_call 18; (with_reducible refine (CG' y3.val y3.gr).out.mono ?_); rintro e _ ⟨_, y4, rfl, rfl, ho⟩; obtain ⟨gx, cx, D1, k1, rfl, x1, x2, x3, x4⟩ := own_one ho; clear ho))
          obtain ⟨b, off, D, c', rfl, d1, d2, d3, d4⟩ := (HL.out.gr (G2.out.trans (HG.out.trans (y3.gr.trans y4.gr)))).at_ (i := j - 1) (by omega)
          rw [HE.out] at d1 d2 d3
          have q1 := fun x : Ext y4.val => conv_ext x4 x
          have q2 := fun x : Ext y4.val => conv_ext d3 x
          clear x4 d3
          refine wp_region_ext (by kernel_rfl) (by kernel_rfl) ?_
          repeat (go_big_quiet_step (fail))
          refine wpQuiet_nil ?_
          rintro _ ⟨x, rfl⟩
          go_wp2_with fail
          go_roundw
          case rel => exact ⟨j + 1, by omega, by go_num, HG.out.trans (y3.gr.trans (y4.gr.trans x.gr))⟩
          case measure => simp [intOf]; omega
        by_cases c4 : j = L.length + 1
        · have e2 : tmB p (L.drop p).length j = false := decide_eq_false (by rw [hdl]; omega)
          rw [e2] at CT
          generalize tmT p T (L.drop p) j = U at CT
          have c4a : L.length < j := by omega
          have c4b : j ≤ L.length + 1 := by omega
          clear CG e2 CF CN c4
          go_wp2_with (first | (go_at_call 22; (with_reducible refine CT.out.mono ?_); rintro e _ ⟨rfl, y3, rfl⟩))
          go_roundw
          case rel => exact ⟨j + 1, by omega, by go_num, HG.out.trans y3.gr⟩
          case measure => simp [intOf]; omega
        · have c5 : L.length + 1 < j := by omega
          clear CG CT
          go_wp2_with (first | (go_at_call 21; (with_reducible refine (CF wr HG.out).out.mono ?_); rintro e _ ⟨rfl, y3, rfl⟩) | (go_at_call 24; (with_reducible refine (CN y3.val (HG.out.trans y3.gr)).out.mono ?_); rintro e _ ⟨rfl, y4, rfl⟩))
          go_ret
          exact ⟨rfl, G2.out.trans (HG.out.trans (y3.gr.trans y4.gr))⟩
  · go_wp2_with (go_at_call 10; (with_reducible refine (new_bad base 0 0 A c L y0.val (HL.out.gr y0.gr) (by omega) h1).mono ?_); rintro e _ ⟨rfl, y1, rfl⟩)
    go_ret
    exact ⟨rfl, y0.gr.trans y1.gr⟩
end Go.Proofs.Ythiahnpijdkboaa
