import Derived.Test.YtkgmienjioplaaaW10
namespace Go.Proofs.Ytkgmienjioplaaa
open Go.RowKit Go.Ext Go.BigFrame
attribute [local go_sem] Ext.cell Ext.frozen Ext.lt Ext.le s1 s2 s3 s4 s5 s6 t1 t2 t3 t4 t5 t6
attribute [local go_sem ↓] Go.wp_at_zero Go.wp_at_succ

section
variable {base : Nat} {w w' : World} {g kb : Nat} {off : Bool} {armed : Int} {keep : Value} {S sz : Nat} {K : List UInt8} {P : List Ent} {pend : Value} {writes : Int} {n : Nat}

theorem KeepAt.bls {v : Value} {ks : List Bool} (h : KeepAt base w v ks) (hK : KB w kb K) : ∃ A c, v = .slice A ks.length c ∧ Bls w A ks ∧ (ks ≠ [] → ∀ b off, A = some ⟨b, off, none⟩ → b ≠ kb) := by
  rcases id h.2 with ⟨rfl, h0⟩ | ⟨g', cap, cur, rfl, hb, hh, _⟩
  · have : ks = [] := List.eq_nil_of_length_eq_zero h0
    subst this
    exact ⟨none, 0, rfl, Rd.nil _ _, fun h => absurd rfl h⟩
  · refine ⟨_, _, rfl, Rd.of_own h, fun _ b o e e2 => ?_⟩
    injection e with e
    injection e with e1 _
    subst e1
    subst e2
    unfold KB at hK
    rw [hK] at hh
    injection hh with hh
    injection hh with _ ht _
    cases ht

set_option maxRecDepth 100000 in
set_option maxHeartbeats 4000000 in
/-- The write at which the power goes. -/
theorem write_goes (i : Nat) (A : Option Addr) (c : Nat) (bs : List UInt8) (ks : List Bool) (h : DkAt base w g kb false 1 keep S sz K P pend writes) (hk : KeepAt base w keep ks) (hi : i < S) (hbs : bs.length = sz) :
    Calls Try.prog 10 #[.pointer (some ⟨g, 0, none⟩), .int .i64 i, .slice A bs.length c] w (RetY base g kb true 0 (.slice none 0 0) S sz (layF sz (fun j => ks.getD j false) K P P.length) writes (.int .i64 5) w) := by
  obtain ⟨Ak, ck, rfl, hbl, hAk⟩ := hk.bls h.kept
  have c3 := h.db.cell 3
  have c2 := h.db.cell 2
  have hlt := h.db.lt
  simp at c3 c2
  have hzz := h.z2
  have hzz1 := h.z1
  have CK := hid ((check_any S i true h.db rfl (by omega) h.max).mono (R' := RetE (.int .i64 0) w) (fun _ _ h => by
    have e : chk false S i true = 0 := by
      unfold chk
      rw [if_neg (by simp), if_neg (by rintro (h | h | h); omega; omega; cases h)]
    rwa [e] at h))
  have HG := fun (y : Ext w) => hid ((goes_any (h.gr y.gr).db (by omega) (by omega)).mono (R' := fun e w' => e = .returned (.bool true) ∧ DB w' g kb false 1 (.slice Ak ks.length ck) sz (S * sz) pend writes ∧ Mod (fun b => b = g) y.val w') (fun e w' ⟨h1, h2, h3⟩ => ⟨h1, h2, h3⟩))
  have e0 : ((bs.length : Int) == (sz : Int)) = true := by rw [hbs]; simp
  have H := hid h
  have HBL := hid hbl
  have HK := hid hk
  clear h hbl hk
  go_enter Try.func10, Try.ntmps10
  go_wp2_with (first | (go_at_call 29; (with_reducible refine CK.out.mono ?_); rintro e _ ⟨rfl, y1, rfl⟩) | (go_at_call 30; (with_reducible refine (HG y1).out.mono ?_); rintro e w2 ⟨rfl, h2, h3⟩; have H2 := hid h2; have H3 := hid h3; have k2 := h2.cell 2; simp at k2; have hlt2 := h2.lt; clear h2 h3))
  have HD := hid (show DkAt base w2 g kb false 1 (.slice Ak ks.length ck) S sz K P pend writes from (H.out.gr y1.gr).upd H3.out H2.out)
  have HK2 := hid ((HK.out.gr y1.gr).mod (H.out.gr y1.gr).db H3.out)
  obtain ⟨A', c', e', hb2, hA2⟩ := HK2.out.bls HD.out.kept
  injection e' with e1 _ e3
  subst e1 e3
  have C := hid (cut_any Ak ck ks HD.out hb2 hA2)
  go_wp2_with (go_at_call 11; (with_reducible refine C.out.mono ?_); rintro e w3 ⟨rfl, h4, h5⟩; have H4 := hid h4; have H5 := hid h5; clear h4 h5)
  go_ret
  exact ⟨rfl, H4.out, (y1.gr.mod _).trans ((H3.out.mono (S' := fun b => b = kb ∨ b = g) (fun _ _ h => .inr h)).trans H5.out (fun _ _ h => h)) (fun _ _ h => h)⟩
end
end Go.Proofs.Ytkgmienjioplaaa
