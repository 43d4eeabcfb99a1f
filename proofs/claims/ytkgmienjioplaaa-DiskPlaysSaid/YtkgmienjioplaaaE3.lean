import Derived.Test.YtkgmienjioplaaaE2
namespace Go.Proofs.Ytkgmienjioplaaa
open Go.RowKit Go.Ext Go.BigFrame
attribute [local go_sem] Ext.cell Ext.frozen Ext.lt Ext.le s1 s2 s3 s4 s5 s6 t1 t2 t3 t4 t5 t6
attribute [local go_sem ↓] Go.wp_at_zero Go.wp_at_succ

section
variable {base : Nat} {w w' : World} {rg rkb kb : Nat} {off : Bool} {armed : Int} {keep : Value} {S sz : Nat} {K : List UInt8} {P : List Ent} {pend : Value} {writes : Int}

/-- What is left behind a cut or a sync. -/
def RetK (base rg rkb kb : Nat) (off : Bool) (armed : Int) (keep : Value) (S sz : Nat) (K : List UInt8) (writes : Int) (v : Value) (w : World) (e : Ending) (w' : World) : Prop :=
  e = .returned v ∧ RkAt base w' rg rkb kb off armed keep S sz K [] (.slice none 0 0) writes ∧ Mod (fun b => b = rkb ∨ b = rg) w w'
theorem RkAt.emptied {off' : Bool} {armed' : Int} {keep' : Value} {writes' : Int} (h : RkAt base w rg rkb kb off armed keep S sz K P pend writes) (m : Mod (fun b => b = rg) w w') (hd : RB w' rg rkb S sz (S * sz) (.slice none 0 0) off' armed' keep' writes') : RkAt base w' rg rkb kb off' armed' keep' S sz K [] (.slice none 0 0) writes' :=
  ⟨hd, (m.block rkb h.klt h.ne).trans h.kept, h.size, h.s1, h.s2, h.z1, h.z2, ⟨[], World.ownsRow_nil _ _ _ _, entsT_nil _ _ _⟩, by simp, fun j hj => absurd hj (by simp), h.lg, h.lk⟩
theorem RkAt.upd {off' : Bool} {armed' : Int} {keep' : Value} {writes' : Int} (h : RkAt base w rg rkb kb off armed keep S sz K P pend writes) (m : Mod (fun b => b = rg) w w') (hd : RB w' rg rkb S sz (S * sz) pend off' armed' keep' writes') : RkAt base w' rg rkb kb off' armed' keep' S sz K P pend writes' := by
  obtain ⟨ys, h1, h2⟩ := h.row
  refine ⟨hd, (m.block rkb h.klt h.ne).trans h.kept, h.size, h.s1, h.s2, h.z1, h.z2, ⟨ys, own_mod h1 m (fun k hk e => own_ne h1 h.rb (by decide) (e ▸ hk.symm)), h2.kp (m.kp ?_)⟩, h.len, h.sect, h.lg, h.lk⟩
  rintro k rfl
  exact rnot_imm h.rb h.lg (by simp [TR])

set_option maxRecDepth 100000 in
set_option maxHeartbeats 4000000 in
theorem rcut_any (Ak : Option Addr) (ck n : Nat) (ks : List Bool) (h : RkAt base w rg rkb kb off armed keep S sz K P pend writes) (hb : Bls w Ak ks) (hn : ks.length = n) (hA : ks ≠ [] → ∀ b o, Ak = some ⟨b, o, none⟩ → b ≠ rkb) :
    Calls Try.prog 26 #[.pointer (some ⟨rg, 0, none⟩), .slice Ak n ck] w (RetK base rg rkb kb true 0 keep S sz (layF sz (fun j => ks.getD j false) K P P.length) writes (.tuple #[]) w) := by
  have HBL := hid hb
  have HAK := hid hA
  have HN := hid hn
  clear hb hA hn
  obtain ⟨A, c, rfl⟩ := h.shape
  have hgl := h.rb.lt
  have hkl := h.klt
  have hlP := h.len
  have hz1 := h.z1
  have H := hid h
  clear h
  go_enter Try.func26, Try.ntmps26
  go_wp2_with fail
  go_loopw [4] (fun i wr => ∃ j : Nat, j ≤ P.length ∧ i = .int .i64 j ∧ KB wr rkb (layF sz (fun j => ks.getD j false) K P j) ∧ Mod (fun b => b = rkb) w wr) (fun i _ => P.length - (intOf i).toNat)
  case atStart => exact ⟨0, Nat.zero_le _, rfl, H.out.kept, (Gr.refl _).mod _⟩
  case round =>
    obtain ⟨j, hj, rfl, hk, hm⟩ := hrel
    have HKJ := hid hk
    have HMJ := hid hm
    clear hk hm
    have HL := hid (layF_length (sz := sz) (fun j => ks.getD j false) K P S H.out.size H.out.sect j hj)
    have HRJ := hid (H.out.laid HMJ.out HKJ.out HL.out)
    have r3 := HRJ.out.rb.cell 3
    have f3 := HRJ.out.rb.frozen 3
    have f4 := HRJ.out.rb.frozen 4
    have f5 := HRJ.out.rb.frozen 5
    have q4 := HRJ.out.rb.cell 4
    have q5 := HRJ.out.rb.cell 5
    simp at r3 q4 q5
    have hgr := HRJ.out.rb.lt
    by_cases hlt : j < P.length
    · obtain ⟨b, D, dc, rfl, d1, d2, d3, d4, _⟩ := HRJ.out.ent rfl hlt
      obtain ⟨p1, p2, p3⟩ := H.out.sect j hlt
      obtain ⟨⟨ei, eb⟩, he⟩ : ∃ e, P.getD j (0, []) = e := ⟨_, rfl⟩
      rw [he] at d1 d2 d3 p1 p2 p3
      simp only at d1 d2 d3 p1 p2 p3
      obtain ⟨i, rfl⟩ : ∃ i : Nat, ei = i := ⟨ei.toNat, by omega⟩
      have HE := hid he
      rw [p3] at d2 d3
      have HB := hid d3
      have CK := hid (rkeep_any i D dc eb _ HRJ.out.rb HKJ.out HL.out (by omega) (Byt.bts d3) p3 (Byt.rne d3 (by intro e; rw [e] at p3; simp at p3; omega) HKJ.out H.out.lk) H.out.max (by omega))
      clear d3 he
      by_cases hjn : j < n
      · have hjk : j < ks.length := by rw [HN.out]; exact hjn
        obtain ⟨bK, oK, rfl, cK, lK⟩ := Bls.at_ (show Bls wr Ak ks from by
          intro hne
          have hks : ks ≠ [] := by intro e; rw [e] at hne; exact hne rfl
          exact Rd.keep HBL.out (fun b ⟨o, e⟩ hb => HMJ.out.block b hb (HAK.out hks b o e)) hne) hjk
        cases hv : ks.getD j false
        · rw [hv] at cK
          have HV := hid hv
          clear hv
          go_wp2_with fail
          go_roundw
          case rel => exact ⟨j + 1, by omega, by go_num, by rw [layF_succ, if_neg (by rw [HV.out]; exact Bool.false_ne_true)]; exact HKJ.out, HMJ.out⟩
          case measure => simp [intOf]; omega
        · rw [hv] at cK
          have HV := hid hv
          clear hv
          go_wp2_with (go_at_call 38; refine CK.out.mono ?_; rintro e w5 ⟨rfl, hk5, hm5⟩; have HK5 := hid hk5; have HM5 := hid (HMJ.out.trans hm5 (fun _ _ h => h)); clear hk5 hm5)
          go_roundw
          case rel => exact ⟨j + 1, by omega, by go_num, by rw [layF_succ, if_pos (show ks.getD j false = true from HV.out), HE.out]; exact HK5.out, HM5.out⟩
          case measure => simp [intOf]; omega
      · have hv : ks.getD j false = false := by simp [List.getD, List.getElem?_eq_none (show ks.length ≤ j by rw [HN.out]; omega)]
        have HV := hid hv
        clear hv
        go_wp2_with fail
        go_roundw
        case rel => exact ⟨j + 1, by omega, by go_num, by rw [layF_succ, if_neg (by rw [HV.out]; exact Bool.false_ne_true)]; exact HKJ.out, HMJ.out⟩
        case measure => simp [intOf]; omega
    · have hje : j = P.length := by omega
      have HJ := hid hje
      clear hje
      go_wp2_with fail
      go_end0
      have m : Mod (fun b => b = rg) wr (((wr.setCell ⟨rg, 3, none⟩ (.slice none 0 0)).setCell ⟨rg, 4, none⟩ (.bool true)).setCell ⟨rg, 5, none⟩ (.int .i64 0)) := ((((Gr.refl wr).mod (fun b => b = rg)).set (fun _ => rfl) _).set (fun _ => rfl) _).set (fun _ => rfl) _
      have hr := HRJ.out.emptied m (((HRJ.out.rb.set3 _).set4 true).set5 0)
      rw [HJ.out] at hr
      exact ⟨rfl, hr, (HMJ.out.mono (S' := fun b => b = rkb ∨ b = rg) (fun _ _ h => .inl h)).trans m (fun _ _ h => .inr h)⟩

set_option maxRecDepth 100000 in
set_option maxHeartbeats 4000000 in
theorem rsync_on (h : RkAt base w rg rkb kb false armed keep S sz K P pend writes) :
    Calls Try.prog 24 #[.pointer (some ⟨rg, 0, none⟩)] w (RetK base rg rkb kb false armed keep S sz (layF sz (fun _ => true) K P P.length) writes (.int .i64 0) w) := by
  have r4 := h.rb.cell 4
  simp at r4
  obtain ⟨A, c, rfl⟩ := h.shape
  have hgl := h.rb.lt
  have hkl := h.klt
  have hlP := h.len
  have hz1 := h.z1
  have H := hid h
  clear h
  go_enter Try.func24, Try.ntmps24
  go_wp2_with fail
  go_loopw [3] (fun i wr => ∃ j : Nat, j ≤ P.length ∧ i = .int .i64 j ∧ KB wr rkb (layF sz (fun _ => true) K P j) ∧ Mod (fun b => b = rkb) w wr) (fun i _ => P.length - (intOf i).toNat)
  case atStart => exact ⟨0, Nat.zero_le _, rfl, H.out.kept, (Gr.refl _).mod _⟩
  case round =>
    obtain ⟨j, hj, rfl, hk, hm⟩ := hrel
    have HKJ := hid hk
    have HMJ := hid hm
    clear hk hm
    have HL := hid (layF_length (sz := sz) (fun _ => true) K P S H.out.size H.out.sect j hj)
    have HRJ := hid (H.out.laid HMJ.out HKJ.out HL.out)
    have r3 := HRJ.out.rb.cell 3
    have f3 := HRJ.out.rb.frozen 3
    simp at r3
    have hgr := HRJ.out.rb.lt
    by_cases hlt : j < P.length
    · obtain ⟨b, D, dc, rfl, d1, d2, d3, d4, _⟩ := HRJ.out.ent rfl hlt
      obtain ⟨p1, p2, p3⟩ := H.out.sect j hlt
      obtain ⟨⟨ei, eb⟩, he⟩ : ∃ e, P.getD j (0, []) = e := ⟨_, rfl⟩
      rw [he] at d1 d2 d3 p1 p2 p3
      simp only at d1 d2 d3 p1 p2 p3
      obtain ⟨i, rfl⟩ : ∃ i : Nat, ei = i := ⟨ei.toNat, by omega⟩
      have HE := hid he
      rw [p3] at d2 d3
      have HB := hid d3
      have CK := hid (rkeep_any i D dc eb _ HRJ.out.rb HKJ.out HL.out (by omega) (Byt.bts d3) p3 (Byt.rne d3 (by intro e; rw [e] at p3; simp at p3; omega) HKJ.out H.out.lk) H.out.max (by omega))
      clear d3 he
      go_wp2_with (go_at_call 38; refine CK.out.mono ?_; rintro e w5 ⟨rfl, hk5, hm5⟩; have HK5 := hid hk5; have HM5 := hid (HMJ.out.trans hm5 (fun _ _ h => h)); clear hk5 hm5)
      go_roundw
      case rel => exact ⟨j + 1, by omega, by go_num, by rw [layF_succ, if_pos rfl, HE.out]; exact HK5.out, HM5.out⟩
      case measure => simp [intOf]; omega
    · have hje : j = P.length := by omega
      have HJ := hid hje
      clear hje
      go_wp2_with fail
      go_ret
      have m : Mod (fun b => b = rg) wr (wr.setCell ⟨rg, 3, none⟩ (.slice none 0 0)) := ((Gr.refl wr).mod (fun b => b = rg)).set (fun _ => rfl) _
      have hr := HRJ.out.emptied m (HRJ.out.rb.set3 _)
      rw [HJ.out] at hr
      exact ⟨rfl, hr, (HMJ.out.mono (S' := fun b => b = rkb ∨ b = rg) (fun _ _ h => .inl h)).trans m (fun _ _ h => .inr h)⟩

set_option maxHeartbeats 1000000 in
theorem rsync_off (h : RkAt base w rg rkb kb true armed keep S sz K P pend writes) : Calls Try.prog 24 #[.pointer (some ⟨rg, 0, none⟩)] w (RetE (.int .i64 5) w) := by
  refine retE ?_
  have r4 := h.rb.cell 4
  have hgl := h.rb.lt
  simp at r4
  clear h
  go_enter Try.func24, Try.ntmps24
  go_wp2_with fail
  go_ret
  exact ⟨rfl, Gr.refl _⟩
end
end Go.Proofs.Ytkgmienjioplaaa
