import Derived.Test.YtkgmienjioplaaaD4
import Derived.Test.YtkgmienjioplaaaD5
namespace Go.Proofs.Ytkgmienjioplaaa
open Go.RowKit Go.Ext Go.BigFrame
attribute [local go_sem] Ext.cell Ext.frozen Ext.lt Ext.le s1 s2 s3 s4 s5 s6 t1 t2 t3 t4 t5 t6
attribute [local go_sem ↓] Go.wp_at_zero Go.wp_at_succ

theorem Bts.byte {w : World} {A : Option Addr} {n c j : Nat} {fs : List UInt8} (h : Bts w (.slice A n c) fs) (hj : j < fs.length) : ∃ b o, A = some ⟨b, o, none⟩ ∧ w.cell? ⟨b, o + j, none⟩ = some (.int .u8 ((fs.getD j 0).toNat : Int)) ∧ b < w.heap.size := by
  obtain ⟨A', c', e, _, hr, _⟩ := h
  injection e with e _ _
  subst e
  obtain ⟨b, o, rfl, hc⟩ := hr (by
    intro e
    have h2 : fs.length = 0 := by rw [← bc_length, e]; rfl
    omega)
  have h1 := hc j (.int .u8 ((fs.getD j 0).toNat : Int)) (by simp [bc, hj, List.getD])
  exact ⟨b, o, rfl, h1, World.block_lt_of_cell? w _ h1⟩
theorem Bls.at_ {w : World} {A : Option Addr} {j : Nat} {ks : List Bool} (h : Bls w A ks) (hj : j < ks.length) : ∃ b o, A = some ⟨b, o, none⟩ ∧ w.cell? ⟨b, o + j, none⟩ = some (.bool (ks.getD j false)) ∧ b < w.heap.size := by
  obtain ⟨b, o, rfl, hc⟩ := h (by
    intro e
    have h2 : ks.length = 0 := by rw [← List.length_map (f := Value.bool), e]; rfl
    omega)
  have h1 := hc j (.bool (ks.getD j false)) (by simp [hj, List.getD])
  exact ⟨b, o, rfl, h1, World.block_lt_of_cell? w _ h1⟩

theorem Bls.lt {w : World} {A : Option Addr} {ks : List Bool} (h : Bls w A ks) (hn : ks ≠ []) : ∀ b off, A = some ⟨b, off, none⟩ → b < w.heap.size := by
  rintro b off rfl
  obtain ⟨b', o', e, _, h3⟩ := Bls.at_ h (List.length_pos_iff.2 hn)
  injection e with e
  injection e with e _
  rw [e]
  exact h3

/-- What DiskAll writes. -/
def cb (x : UInt8) : List UInt8 := ((List.replicate 64 0).set 0 x).set 1 1
theorem cb_len (x : UInt8) : (cb x).length = 64 := by simp [cb]
theorem cb_eq (x : UInt8) : (z64.set 0 (.int .u8 (x.toNat : Int))).set 1 (.int .u8 1) = bc (cb x) := by
  have h1 := bc_set (List.replicate 64 0) 0 x
  have h2 := bc_set ((List.replicate 64 0).set 0 x) 1 1
  unfold z64 cb
  rw [h1]
  exact h2
/-- What pends behind m writes. -/
def PA (fs : List UInt8) (m : Nat) : List Ent := (List.range m).map fun q : Nat => ((q : Int), cb (fs.getD q 0))
theorem PA_succ (fs : List UInt8) (m : Nat) : PA fs (m + 1) = PA fs m ++ [((m : Int), cb (fs.getD m 0))] := by simp [PA, List.range_succ]
theorem PA_len (fs : List UInt8) (m : Nat) : (PA fs m).length = m := by simp [PA]
theorem PA_at (fs : List UInt8) (m j : Nat) (h : j < m) : (PA fs m).getD j (0, []) = ((j : Int), cb (fs.getD j 0)) := by simp [PA, List.getD, h]

theorem all_law (fs : List UInt8) (ks : List Bool) (i : Nat) (h : i < fs.length) (hm : fs.length ≤ 30) :
    sec 64 (layF 64 (fun j => ks.getD j false) (List.replicate (31 * 64) 0) (PA fs fs.length) (PA fs fs.length).length) i = if ks.getD i false then cb (fs.getD i 0) else List.replicate 64 0 := by
  have hP : ∀ j, j < (PA fs fs.length).length → 0 ≤ ((PA fs fs.length).getD j (0, [])).1 ∧ ((PA fs fs.length).getD j (0, [])).1 < (31 : Nat) ∧ ((PA fs fs.length).getD j (0, [])).2.length = 64 := fun j hj => by
    rw [PA_len] at hj
    rw [PA_at _ _ _ hj]
    exact ⟨by simp, by simp only; omega, cb_len _⟩
  rw [sec_layF 64 31 _ _ _ i List.length_replicate hP _ (Nat.le_refl _), sec_zero _ _ _ (by omega), PA_len]
  by_cases hk : ks.getD i false = true
  · rw [if_pos hk, seekK_found _ _ _ i (by rw [PA_at _ _ _ h]) hk _ h (fun j h1 h2 => by rw [PA_at _ _ _ h2]; simp only; omega), PA_at _ _ _ h]
    rfl
  · rw [if_neg hk, seekK_none]
    · rfl
    · intro j hj hkj
      rw [PA_at _ _ _ hj]
      simp only
      intro e
      have : j = i := by omega
      subst this
      exact hk hkj

theorem chk_ok {S : Nat} {i : Int} (h0 : 0 ≤ i) (h1 : i < S) : chk false S i true = 0 := by
  unfold chk
  rw [if_neg (by simp), if_neg (by rintro (h | h | h); omega; omega; cases h)]
/-- A sector of a disk of which nothing pends. -/
theorem read_sec {base : Nat} {w : World} {g kb : Nat} {armed : Int} {ks : List Bool} {S sz : Nat} {K : List UInt8} {writes : Int} (i : Nat) (hi : i < S) (h : Dsk base w g kb false armed ks S sz K [] writes) (bs : List UInt8) (hb : sec sz K i = bs) :
    Hid (∀ W, Gr w W → Calls Try.prog 13 #[.pointer (some ⟨g, 0, none⟩), .int .i64 (i : Int)] W (fun e w'' => ∃ v, e = .returned (.tuple #[v, .int .i64 0]) ∧ Byt (TK kb) base w'' v bs ∧ ∃ y : Ext w, w'' = y.val)) := by
  have := read_gr i h
  rw [chk_ok (by omega) (by omega), if_pos rfl] at this
  subst hb
  exact this

set_option maxRecDepth 100000 in
set_option maxHeartbeats 4000000 in
theorem all_any (A B : Option Addr) (c d : Nat) (fs : List UInt8) (ks : List Bool) (w : World) (hf : Bts w (.slice A fs.length c) fs) (hk : Bls w B ks) (hkl : ks.length ≤ 140737488351232) :
    Calls Try.prog 3 #[.slice A fs.length c, .slice B ks.length d] w (RetE (.bool true) w) := by
  refine retE ?_
  have KN := hid (known_any w)
  have hfl : fs.length ≤ 140737488351232 := by obtain ⟨_, _, _, h, _⟩ := hf; exact h
  by_cases hb1 : 30 < fs.length
  · clear hf hk
    go_enter Try.func3, Try.ntmps3
    go_wp2_with (go_at_call 8; (with_reducible refine KN.out.mono ?_); rintro e _ ⟨rfl, y0, rfl⟩)
    go_ret
    exact ⟨rfl, y0.gr⟩
  by_cases hb2 : 100 < ks.length
  · clear hf hk
    go_enter Try.func3, Try.ntmps3
    go_wp2_with (go_at_call 8; (with_reducible refine KN.out.mono ?_); rintro e _ ⟨rfl, y0, rfl⟩)
    go_ret
    exact ⟨rfl, y0.gr⟩
  have mk := fun (w : World) => mk64 w
  have N := fun (y : Ext w) => hid (show Calls Try.prog 9 #[.int .i64 31, .int .i64 64] y.val _ from new_dsk w.heap.size 31 64 y.val y.gr.size (by omega) (by omega) (by omega) (by omega))
  have HF := hid hf
  have HB := hid hk
  have HBL := hid (Bls.lt hk)
  have z0 := z64_at 0 (by omega)
  have z1 := z64_at 1 (by omega)
  have ZC := hid cb_eq
  have zl := z64_len
  obtain ⟨z, hz⟩ : ∃ z, z64 = z := ⟨_, rfl⟩
  rw [hz] at mk z0 z1 zl ZC
  clear hz hf hk
  obtain ⟨M, hM⟩ : ∃ M, fs.length = M := ⟨_, rfl⟩
  have HM := hid hM
  rw [hM] at HF hfl hb1 ⊢
  clear hM
  go_enter Try.func3, Try.ntmps3
  go_wp2_with (first | (go_at_call 8; (with_reducible refine KN.out.mono ?_); rintro e _ ⟨rfl, y0, rfl⟩) | (go_at_call 9; (with_reducible refine (N y0).out.mono ?_); rintro e w1 ⟨g, kb, rfl, hd, hgr⟩; have HD := hid hd; have HG := hid (y0.gr.trans hgr); clear hd hgr))
  go_loopw [7] (fun i wr => ∃ j : Nat, j ≤ M ∧ i = .int .i64 j ∧ Dsk w.heap.size wr g kb false 0 [] 31 64 (List.replicate (31 * 64) 0) (PA fs j) j ∧ Kp (TK kb) w.heap.size w wr) (fun i _ => M - (intOf i).toNat)
  case atStart => exact ⟨0, Nat.zero_le _, rfl, HD.out, HG.out.kp⟩
  case round =>
    obtain ⟨j, hj, rfl, hg, hk⟩ := hrel
    have HGJ := hid hg
    have HKJ := hid hk
    clear hg hk
    by_cases hlt : j < M
    · obtain ⟨x, hx⟩ : ∃ x, fs.getD j 0 = x := ⟨_, rfl⟩
      have HX := hid hx
      obtain ⟨bA, oA, rfl, hcA, hlA⟩ := (HF.out.gr HKJ.out.gr).byte (show j < fs.length by rw [HM.out]; exact hlt)
      rw [hx] at hcA
      obtain ⟨X, hX⟩ : ∃ X : Int, (x.toNat : Int) = X := ⟨_, rfl⟩
      have HXX := hid hX
      rw [hX] at hcA
      clear hX hx
      go_wp2_with fail
      have hbX : wr.heap.size < wr.heap.size + 1 := by omega
      have q1 : (wr.alloc (Obj.cells ((z.set 0 (Value.int IntKind.u8 X)).set 1 (Value.int IntKind.u8 1)).toArray 5)).heap[wr.heap.size]? = some (Obj.cells (bc (cb x)).toArray 5 (0, 0)) := by
        rw [← ZC.out, HXX.out]
        exact heap_alloc_new wr _
      have hb9 := bts_block (base := w.heap.size) (kb := kb) (c := 64) q1 (by rw [cb_len]; omega) (by have := HGJ.out.klt; omega)
      rw [cb_len] at hb9
      go_at_call 10
      refine (write_dsk (j : Int) (some ⟨wr.heap.size, 0, none⟩) 64 64 (cb x) (HGJ.out.gr ((Gr.refl _).alloc _)) (by omega) (by omega) (Byt.bts hb9) (cb_len _) rfl (by omega) (by omega) (by rw [PA_len]; omega) (by omega) (by omega)).mono ?_
      rintro e w5 ⟨he, hg5, hk5⟩
      obtain rfl : e = .returned (.int .i64 0) := he
      have HG5 := hid (show Dsk w.heap.size w5 g kb false 0 [] 31 64 (List.replicate (31 * 64) 0) (PA fs (j + 1)) ((j + 1 : Nat) : Int) from by
        rw [PA_succ, HX.out]
        exact hg5)
      have HK5 := hid ((HKJ.out.alloc _).trans hk5)
      clear hg5 hk5 q1 hb9
      go_wp2_with fail
      go_roundw
      case rel => exact ⟨j + 1, by omega, by go_num, HG5.out, HK5.out⟩
      case measure => simp [intOf]; omega
    · have hje : M = j := by omega
      subst hje
      have HH := hid hj
      clear hj
      go_wp2_with fail
      go_at_call 11
      refine (cut_dsk B d ks.length ks HGJ.out (HB.out.gr HKJ.out.gr) rfl (fun hne b o e => by have := HBL.out hne b o e; obtain ⟨_, _, d1, _⟩ := HGJ.out; have := d1.lk; omega)).mono ?_
      rintro e w5 ⟨rfl, hd5, hk5⟩
      obtain ⟨K5, hK5⟩ : ∃ K5, layF 64 (fun j => ks.getD j false) (List.replicate (31 * 64) 0) (PA fs M) (PA fs M).length = K5 := ⟨_, rfl⟩
      rw [hK5] at hd5
      have L5 := hid (fun (i : Nat) (hi : i < M) => show sec 64 K5 i = if ks.getD i false then cb (fs.getD i 0) else List.replicate 64 0 from by
        rw [← hK5]
        have := all_law fs ks i (by rw [HM.out]; exact hi) (by rw [HM.out]; omega)
        rw [HM.out] at this
        exact this)
      have HD5 := hid hd5
      have HK5 := hid (HKJ.out.trans hk5)
      clear hK5 hd5 hk5
      go_wp2_with fail
      go_at_call 12
      refine (on_dsk HD5.out).mono ?_
      rintro e w6 ⟨rfl, hd6, hk6⟩
      have HD6 := hid hd6
      have HK6 := hid (HK5.out.trans hk6)
      clear hd6 hk6
      go_wp2_with fail
      go_loopw [9] (fun i wr => ∃ j : Nat, j ≤ M ∧ i = .int .i64 j ∧ Gr w6 wr) (fun i _ => M - (intOf i).toNat)
      case atStart => exact ⟨0, Nat.zero_le _, rfl, Gr.refl _⟩
      case round =>
        obtain ⟨j, hj, rfl, hg⟩ := hrel
        have HGW := hid hg
        clear hg
        by_cases hlt : j < M
        · cases hkj : ks.getD j false
          · have RD := read_sec j (by omega) HD6.out (List.replicate 64 0) ((L5.out j hlt).trans (by rw [hkj]; rfl))
            have hl0 : (List.replicate 64 (0 : UInt8)).length = 64 := by simp
            by_cases hjk : j < ks.length
            · obtain ⟨bB, oB, rfl, hcB, hlB⟩ := Bls.at_ (Rd.gr HB.out HK6.out.gr) hjk
              rw [hkj] at hcB
              go_wp2_with (go_at_call 13; refine (RD.out _ HGW.out).mono ?_; rintro e _ ⟨v, rfl, hv, y7, rfl⟩; obtain ⟨bv, ov, cv, rfl, hvc⟩ := Byt.at_ hv (by simp); have v0 := hvc 0 _ rfl; have v1 := hvc 1 _ rfl; simp only [Nat.add_zero] at v0; have hlv := World.block_lt_of_cell? _ _ v1; rw [hl0]; clear hv hvc)
              refine wp_region_ext (by kernel_rfl) (by kernel_rfl) ?_
              repeat (go_big_quiet_step (fail))
              refine wpQuiet_nil ?_
              rintro _ ⟨x9, rfl⟩
              go_wp2_with fail
              go_roundw
              case rel => exact ⟨j + 1, by omega, by go_num, y7.gr.trans x9.gr⟩
              case measure => simp [intOf]; omega

            · go_wp2_with (go_at_call 13; refine (RD.out _ HGW.out).mono ?_; rintro e _ ⟨v, rfl, hv, y7, rfl⟩; obtain ⟨bv, ov, cv, rfl, hvc⟩ := Byt.at_ hv (by simp); have v0 := hvc 0 _ rfl; have v1 := hvc 1 _ rfl; simp only [Nat.add_zero] at v0; have hlv := World.block_lt_of_cell? _ _ v1; rw [hl0]; clear hv hvc)
              refine wp_region_ext (by kernel_rfl) (by kernel_rfl) ?_
              repeat (go_big_quiet_step (fail))
              refine wpQuiet_nil ?_
              rintro _ ⟨x9, rfl⟩
              go_wp2_with fail
              go_roundw
              case rel => exact ⟨j + 1, by omega, by go_num, y7.gr.trans x9.gr⟩
              case measure => simp [intOf]; omega

          · have RD := read_sec j (by omega) HD6.out (cb (fs.getD j 0)) ((L5.out j hlt).trans (by rw [hkj]; rfl))
            have hl0 : (cb (fs.getD j 0)).length = 64 := cb_len _
            obtain ⟨bA, oA, rfl, hcA, hlA⟩ := Bts.byte (HF.out.gr HK6.out.gr) (show j < fs.length by rw [HM.out]; exact hlt)
            obtain ⟨X, hX⟩ : ∃ X : Int, ((fs.getD j 0).toNat : Int) = X := ⟨_, rfl⟩
            rw [hX] at hcA
            have hjk : j < ks.length := by
              rcases Nat.lt_or_ge j ks.length with h | h
              · exact h
              · simp [List.getD, List.getElem?_eq_none h] at hkj
            obtain ⟨bB, oB, rfl, hcB, hlB⟩ := Bls.at_ (Rd.gr HB.out HK6.out.gr) hjk
            rw [hkj] at hcB
            go_wp2_with (go_at_call 13; refine (RD.out _ HGW.out).mono ?_; rintro e _ ⟨v, rfl, hv, y7, rfl⟩; obtain ⟨bv, ov, cv, rfl, hvc⟩ := Byt.at_ hv (by simp [cb]); have v0 := hvc 0 _ rfl; have v1 := hvc 1 _ rfl; simp only [Nat.add_zero, hX] at v0; have hlv := World.block_lt_of_cell? _ _ v1; rw [hl0]; clear hv hvc)
            refine wp_region_ext (by kernel_rfl) (by kernel_rfl) ?_
            repeat (go_big_quiet_step (fail))
            refine wpQuiet_nil ?_
            rintro _ ⟨x9, rfl⟩
            go_wp2_with fail
            go_roundw
            case rel => exact ⟨j + 1, by omega, by go_num, y7.gr.trans x9.gr⟩
            case measure => simp [intOf]; omega

        · have hje : M = j := by omega
          subst hje
          have CW := writes_gr HD6.out
          go_wp2_with (go_at_call 14; refine (CW.out _ HGW.out).mono ?_; rintro e _ ⟨rfl, y7, rfl⟩)
          go_ret
          exact ⟨rfl, HK6.out.gr.trans y7.gr⟩
end Go.Proofs.Ytkgmienjioplaaa
