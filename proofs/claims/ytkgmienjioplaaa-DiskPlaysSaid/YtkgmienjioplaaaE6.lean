import Derived.Test.YtkgmienjioplaaaE5
namespace Go.Proofs.Ytkgmienjioplaaa
open Go.RowKit Go.Ext Go.BigFrame
attribute [local go_sem] Ext.cell Ext.frozen Ext.lt Ext.le s1 s2 s3 s4 s5 s6 t1 t2 t3 t4 t5 t6
attribute [local go_sem ↓] Go.wp_at_zero Go.wp_at_succ

section
variable {base : Nat} {w w' : World} {rg rkb kb : Nat} {off : Bool} {armed : Int} {keep : Value} {S sz : Nat} {K : List UInt8} {P : List Ent} {pend : Value} {writes : Int}

set_option maxHeartbeats 2000000 in
theorem rread_bad (i : Int) (h : RkAt base w rg rkb kb off armed keep S sz K P pend writes) (hbad : chk off S i true ≠ 0) :
    Calls Try.prog 39 #[.pointer (some ⟨rg, 0, none⟩), .int .i64 i] w (RetE (.tuple #[.slice none 0 0, .int .i64 (chk off S i true)]) w) := by
  refine retE ?_
  have r0 := h.rb.cell 0
  have r4 := h.rb.cell 4
  simp at r0 r4
  have hgl := h.rb.lt
  clear h
  cases off
  · have hb2 : i < 0 ∨ (S : Int) ≤ i := by
      rcases Int.lt_or_le i 0 with h1 | h1
      · exact .inl h1
      · rcases Int.lt_or_le i S with h2 | h2
        · exact absurd (chk_ok h1 h2) hbad
        · exact .inr h2
    have e : chk false S i true = 1 := by
      unfold chk
      rw [if_neg (by simp), if_pos (by rcases hb2 with h | h; exact .inl h; exact .inr (.inl h))]
    rw [e]
    clear e hbad
    by_cases h1 : i < 0
    · go_enter Try.func39, Try.ntmps39
      go_wp2_with fail
      go_ret2
      exact ⟨rfl, Gr.refl _⟩
    · have h2 : (S : Int) ≤ i := hb2.resolve_left h1
      clear hb2
      go_enter Try.func39, Try.ntmps39
      go_wp2_with fail
      go_ret2
      exact ⟨rfl, Gr.refl _⟩
  · have e : chk true S i true = 5 := rfl
    rw [e]
    clear e hbad
    go_enter Try.func39, Try.ntmps39
    go_wp2_with fail
    go_ret2
    exact ⟨rfl, Gr.refl _⟩

/-- A sector was read. -/
def RetS (bs : List UInt8) (w : World) (e : Ending) (w' : World) : Prop := ∃ v, e = .returned (.tuple #[v, .int .i64 0]) ∧ Bts w' v bs ∧ Gr w w'
set_option maxRecDepth 100000 in
set_option maxHeartbeats 4000000 in
theorem rread_ok (i : Nat) (h : RkAt base w rg rkb kb false armed keep S sz K P pend writes) (hi : i < S) :
    Calls Try.prog 39 #[.pointer (some ⟨rg, 0, none⟩), .int .i64 i] w (RetS (sector sz K P i) w) := by
  obtain ⟨A, c, rfl⟩ := h.shape
  have r0 := h.rb.cell 0
  have r4 := h.rb.cell 4
  have r1 := h.rb.cell 1
  have r2 := h.rb.cell 2
  have r3 := h.rb.cell 3
  simp at r0 r4 r1 r2 r3
  have hgl := h.rb.lt
  have hi' : (i : Int) < (S : Int) := by omega
  have hlP := h.len
  have hs2 := h.s2
  have hz2 := h.z2
  have hz1 := h.z1
  have hfit : i * sz + sz ≤ S * sz := by rw [← Nat.succ_mul]; exact Nat.mul_le_mul_right _ hi
  have hmx := h.max
  have H := hid h
  clear h
  obtain ⟨N, hN⟩ : ∃ N, S * sz = N := ⟨_, rfl⟩
  rw [hN] at hfit hmx r2
  obtain ⟨p, hp⟩ : ∃ p, i * sz = p := ⟨_, rfl⟩
  obtain ⟨p2, hp2⟩ : ∃ p2, (i + 1) * sz = p2 := ⟨_, rfl⟩
  have hm : (i : Int) * (sz : Int) = (p : Int) := by rw [← hp, Int.natCast_mul]
  have hm2 : ((i : Int) + 1) * (sz : Int) = (p2 : Int) := by rw [← hp2, Int.natCast_mul]; rfl
  have hpp : p2 = p + sz := by rw [← hp2, ← hp, Nat.succ_mul]
  have hle1 : p ≤ p2 := by omega
  have hle2 : p2 ≤ N := by omega
  have hnp : ¬ N = p := by omega
  have HP := hid hp
  have HPP := hid hpp
  have HN := hid hN
  have HFIT := hid hfit
  clear hp hp2 hpp hN hfit
  go_enter Try.func39, Try.ntmps39
  go_wp2_with fail
  go_loopw [6] (fun v wr => ((∃ m : Nat, m < P.length ∧ v = .int .i64 m ∧ ∀ j, m < j → j < P.length → (P.getD j (0, [])).1 ≠ (i : Int)) ∨ (v = .int .i64 (-1) ∧ ∀ j, j < P.length → (P.getD j (0, [])).1 ≠ (i : Int))) ∧ w = wr) (fun v _ => (intOf v + 1).toNat)
  case atStart =>
    refine ⟨?_, rfl⟩
    rcases Nat.eq_zero_or_pos P.length with h0 | h0
    · exact .inr ⟨by rw [h0]; rfl, fun j hj => absurd hj (by omega)⟩
    · exact .inl ⟨P.length - 1, by omega, by congr 1; omega, fun j h1 h2 => absurd h2 (by omega)⟩
  case round =>
    obtain ⟨⟨m, hml, rfl, hno⟩ | ⟨rfl, hno⟩, rfl⟩ := hrel
    · obtain ⟨b, D, dc, rfl, d1, d2, d3, d4, _⟩ := H.out.ent rfl hml
      have HNO := hid hno
      have HBY := hid d3
      clear hno d3
      by_cases he : (P.getD m (0, [])).1 = (i : Int)
      · have HE := hid he
        rw [he] at d1
        obtain ⟨bl, hbl⟩ : ∃ bl, (P.getD m (0, [])).2.length = bl := ⟨_, rfl⟩
        have HBL := hid hbl
        rw [hbl] at d2
        clear he hbl
        go_wp2_with fail
        go_ret2
        refine ⟨_, rfl, ?_, Gr.refl _⟩
        have hb := Byt.bts HBY.out
        rw [HBL.out] at hb
        have hs : sector sz K P i = (P.getD m (0, [])).2 := by
          unfold sector
          rw [seek_found P i m HE.out P.length hml HNO.out]
          rfl
        rw [hs]
        exact hb
      · have he' : ((P.getD m (0, [])).1 == (i : Int)) = false := by simpa using he
        have HE := hid he
        obtain ⟨ex, hex⟩ : ∃ ex, (P.getD m (0, [])).1 = ex := ⟨_, rfl⟩
        have HX := hid hex
        rw [hex] at d1 he'
        clear he hex
        go_wp2_with fail
        have hrel : (∃ m' : Nat, m' < P.length ∧ Value.int .i64 ((m : Int) - 1) = .int .i64 m' ∧ ∀ j, m' < j → j < P.length → (P.getD j (0, [])).1 ≠ (i : Int)) ∨ (Value.int .i64 ((m : Int) - 1) = .int .i64 (-1) ∧ ∀ j, j < P.length → (P.getD j (0, [])).1 ≠ (i : Int)) := by
          cases m with
          | zero => exact .inr ⟨by simp, fun j hj => by
              by_cases e : j = 0
              · subst e; exact HE.out
              · exact HNO.out j (by omega) hj⟩
          | succ m => exact .inl ⟨m, by omega, by simp, fun j h1 h2 => by
              by_cases e : j = m + 1
              · subst e; exact HE.out
              · exact HNO.out j (by omega) h2⟩
        go_roundw
        case rel => exact ⟨hrel, by trivial⟩
        case measure => simp [intOf]
    · have HNO := hid hno
      clear hno
      go_wp2_with fail
      refine wp_region_ext (by kernel_rfl) (by kernel_rfl) ?_
      repeat (go_big_quiet_step (fail))
      refine wpQuiet_nil ?_
      rintro _ ⟨x9, rfl⟩
      go_wp2_with fail
      go_ret2
      refine ⟨_, rfl, ?_, x9.gr⟩
      have hs : sector sz K P i = sec sz K i := by
        unfold sector
        rw [seek_none P i P.length HNO.out]
        rfl
      rw [hs]
      have hb : Bts x9.val (.slice (some ⟨rkb, 0, none⟩) N N) K := by
        have hkl : K.length = N := by rw [H.out.size, HN.out]
        refine ⟨some ⟨rkb, 0, none⟩, N, by rw [hkl], by omega, fun _ => ⟨rkb, 0, rfl, fun j u hu => ?_⟩, fun e => by cases e⟩
        rw [Nat.zero_add, cell_of_row x9.val rkb j _ 5 (0, 0) ((x9.gr.block rkb H.out.klt).trans H.out.kept)]
        simpa using hu
      have hr := Bts.sec (s := i) (sz := sz) (m := p2 - p) (c' := N - p) hb (by rw [H.out.size, HN.out]; exact HFIT.out) (by have := HPP.out; omega) (by omega)
      rw [HP.out] at hr
      exact hr
end
end Go.Proofs.Ytkgmienjioplaaa
