import Derived.Test.YthiahnpijdkboaaQ2
import Derived.Test.YthiahnpijdkboaaW6
import Derived.Test.YthiahnpijdkboaaCL
namespace Go.Proofs.Ythiahnpijdkboaa
open Go.RowKit Go.Ext Go.BigFrame
attribute [local go_sem] Ext.cell Ext.frozen Ext.lt Ext.le s1 s2 s3 s4 s5 s6 t1 t2 t3 t4 t5 t6
attribute [local go_sem ↓] Go.wp_at_zero Go.wp_at_succ


/-- A place of a row of entries, read. -/
theorem Sl.conv {base : Nat} {w : World} {D : Option Addr} {n c : Nat} {bs : List UInt8} (h : Byt TB base w (.slice D n c) bs) (W : World) (y : Gr w W) : (convert 44 9 (.slice D n c)).run Try.prog W = .ok (.string (sb bs)) W := conv_byt (h.kp y.kp)

set_option maxRecDepth 100000 in
set_option maxHeartbeats 4000000 in
theorem same_any (base : Nat) (A B : Option Addr) (ca cb : Nat) (L : List Ent) (w : World) (hA : Sl base w A L) (hB : Sl base w B L) (hl : L.length ≤ 4398046511103) :
    Calls Try.prog 26 #[.slice A L.length ca, .slice B L.length cb] w (RetE (.bool true) w) := by
  refine retE ?_
  have HA := hid hA
  have HB := hid hB
  clear hA hB
  go_enter Try.func26, Try.ntmps26
  go_wp2_with fail
  go_loopw [5] (fun i wr => ∃ k : Nat, k ≤ L.length ∧ i = .int .i64 k ∧ Gr w wr) (fun i _ => L.length - (intOf i).toNat)
  case atStart => exact ⟨0, Nat.zero_le _, rfl, Gr.refl _⟩
  case round =>
    obtain ⟨k, hk, rfl, hg⟩ := hrel
    have HG := hid hg
    clear hg
    by_cases hlt3 : k < L.length
    · obtain ⟨ba, oa, D1, n1, rfl, da0, da1, ya, hba⟩ := (HA.out.gr HG.out).at_ hlt3
      obtain ⟨bb, ob, D2, n2, rfl, db0, db1, yb, hbb⟩ := (HB.out.gr HG.out).at_ hlt3
      obtain ⟨⟨x, bs⟩, hp⟩ : ∃ p, L.getD k (0, []) = p := ⟨_, rfl⟩
      rw [hp] at da0 da1 ya db0 db1 yb
      simp only at da0 da1 ya db0 db1 yb
      clear hp
      have qa := fun z : Ext wr => Sl.conv ya z.val z.gr
      have qb := fun z : Ext wr => Sl.conv yb z.val z.gr
      clear ya yb
      go_wp2_with fail
      refine wp_region_ext (by kernel_rfl) (by kernel_rfl) ?_
      repeat (go_big_quiet_step (fail))
      refine wpQuiet_nil ?_
      rintro _ ⟨z, rfl⟩
      go_wp2_with fail
      go_roundw
      case rel => exact ⟨k + 1, by omega, by go_num, HG.out.ext z⟩
      case measure => simp [intOf]; omega
    · have hke : k = L.length := by omega
      subst hke
      go_wp2_with fail
      go_ret
      exact ⟨rfl, HG.out⟩
end Go.Proofs.Ythiahnpijdkboaa
