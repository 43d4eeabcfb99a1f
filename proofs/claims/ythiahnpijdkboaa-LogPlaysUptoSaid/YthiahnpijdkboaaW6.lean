import Derived.Test.YthiahnpijdkboaaW5
namespace Go.Proofs.Ythiahnpijdkboaa
open Go.RowKit Go.Ext Go.BigFrame
attribute [local go_sem] Ext.cell Ext.frozen Ext.lt Ext.le s1 s2 s3 s4 s5 s6 t1 t2 t3 t4 t5 t6
attribute [local go_sem ↓] Go.wp_at_zero Go.wp_at_succ

/-- It returned some bool, and has done nothing. -/
def RetB (w : World) (e : Ending) (w' : World) : Prop := ∃ b : Bool, e = .returned (.bool b) ∧ w = w'

set_option maxHeartbeats 1000000 in
theorem few_nil (base : Nat) (A : Option Addr) (c : Nat) (L : List Ent) (w : World) (hs : Sl base w A L) (hl : L.length ≤ 4398046511103) :
    Calls Try.prog 9 #[.slice A L.length c, .slice none 0 0] w (RetB w) := by
  have HS := hid hs
  clear hs
  go_enter Try.func9, Try.ntmps9
  go_wp2_with fail
  go_loop [5, 6] (fun n i => ∃ (k : Nat) (s : Int), k ≤ L.length ∧ i = .int .i64 k ∧ n = .int .i64 s) (fun _ i => L.length - (intOf i).toNat)
  case atStart => exact ⟨0, _, Nat.zero_le _, rfl, rfl⟩
  case round =>
    obtain ⟨k, s, hk, rfl, rfl⟩ := hrel
    by_cases hlt : k < L.length
    · obtain ⟨b, off, D, c', rfl, c1, c2, _, c4⟩ := HS.out.at_ hlt
      generalize (L.getD k (0, [])).2.length = m at *
      clear c1
      go_wp2_with fail
      go_round
      case rel => exact ⟨k + 1, _, by omega, by go_num, rfl⟩
      case measure => simp [intOf]; omega
    · have : k = L.length := by omega
      subst this
      go_wp2_with fail
      refine wp_loop_rounds 1 ?_
      rw [rounds_succ]
      by_cases hs : s ≤ 8192
      · go_wp2_with fail
        go_ret
        exact ⟨_, rfl, rfl⟩
      · have hs' : decide (s ≤ 8192) = false := decide_eq_false hs
        go_wp2_with fail
        go_ret
        exact ⟨_, rfl, rfl⟩
end Go.Proofs.Ythiahnpijdkboaa
