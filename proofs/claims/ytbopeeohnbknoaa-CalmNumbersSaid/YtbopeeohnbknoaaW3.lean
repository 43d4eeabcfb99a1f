import Derived.Test.YtbopeeohnbknoaaW2
import Derived.Test.YtbopeeohnbknoaaPl
namespace Go.Proofs.Ytbopeeohnbknoaa
open Go.RowKit Go.Ext Go.BigFrame
attribute [local go_sem] Ext.cell Ext.frozen Ext.lt Ext.le s1 s2 s3 s4 s5 s6 t1 t2 t3 t4 t5 t6

/-- A slice that reads as these numbers. -/
def IntsAt (w : World) (A : Option Addr) (n : Nat) (zs : List Int) : Prop :=
  zs.length = n ∧ n ≤ 9223372036854775807 ∧ (0 < n → ∃ b off, A = some ⟨b, off, none⟩ ∧ ∀ j, j < n → w.cell? ⟨b, off + j, none⟩ = some (.int .i64 (zs.getD j 0)))

theorem most_int (A : Option Addr) (n c : Nat) (zs : List Int) (w : World) (hz : IntsAt w A n zs) :
    Calls Try.prog 9 #[.slice A n c] w (RetE (.tuple #[.int .i64 (mx zs n), .bool (decide (0 < (n : Int)))]) w) := by
  refine retE_same ?_
  obtain ⟨hl, hn, hcs⟩ := hz
  go_enter Try.func9, Try.ntmps9
  go_wp2_with fail
  go_loop [4, 5, 6, 9] (fun m _ _ i => ∃ k : Nat, k ≤ n ∧ i = .int .i64 k ∧ m = .int .i64 (mx zs k)) (fun _ _ _ i => n - (intOf i).toNat)
  case atStart => exact ⟨0, Nat.zero_le _, rfl, rfl⟩
  case round =>
    obtain ⟨k, hk, rfl, rfl⟩ := hrel
    by_cases hlt : k < n
    · obtain ⟨b, off, rfl, hc⟩ := hcs (by omega)
      have hck := hc k hlt
      clear hc hcs
      by_cases h0 : k = 0
      · subst h0
        simp only [Nat.add_zero] at hck
        have E := hid (mx_first zs)
        generalize hv : zs.getD 0 0 = v at *
        have HV := hid hv
        clear hv
        go_wp2_with fail
        go_round
        case rel => exact ⟨1, by omega, by go_num, by rw [E.out]⟩
        case measure => simp [intOf]; omega
      · by_cases hm : mx zs k < zs.getD k 0
        · have E := hid (mx_more zs k hm)
          have hk0 : ((k : Int) == 0) = false := by simp; omega
          generalize hv : zs.getD k 0 = v at *
          have HV := hid hv
          clear hv
          go_wp2_with fail
          go_round
          case rel => exact ⟨k + 1, by omega, by go_num, by rw [E.out]⟩
          case measure => simp [intOf]; omega
        · have E := hid (mx_keep zs k h0 hm)
          have hk0 : ((k : Int) == 0) = false := by simp; omega
          generalize hv : zs.getD k 0 = v at *
          have HV := hid hv
          clear hv
          go_wp2_with fail
          go_round
          case rel => exact ⟨k + 1, by omega, by go_num, by rw [E.out]⟩
          case measure => simp [intOf]; omega
    · have : k = n := by omega
      subst this
      go_wp2_with fail
      go_ret2
      exact ⟨rfl, rfl⟩
theorem most_int64 (A : Option Addr) (n c : Nat) (zs : List Int) (w : World) (hz : IntsAt w A n zs) :
    Calls Try.prog 10 #[.slice A n c] w (RetE (.tuple #[.int .i64 (mx zs n), .bool (decide (0 < (n : Int)))]) w) := by
  refine retE_same ?_
  obtain ⟨hl, hn, hcs⟩ := hz
  go_enter Try.func10, Try.ntmps10
  go_wp2_with fail
  go_loop [4, 5, 6, 9] (fun m _ _ i => ∃ k : Nat, k ≤ n ∧ i = .int .i64 k ∧ m = .int .i64 (mx zs k)) (fun _ _ _ i => n - (intOf i).toNat)
  case atStart => exact ⟨0, Nat.zero_le _, rfl, rfl⟩
  case round =>
    obtain ⟨k, hk, rfl, rfl⟩ := hrel
    by_cases hlt : k < n
    · obtain ⟨b, off, rfl, hc⟩ := hcs (by omega)
      have hck := hc k hlt
      clear hc hcs
      by_cases h0 : k = 0
      · subst h0
        simp only [Nat.add_zero] at hck
        have E := hid (mx_first zs)
        generalize hv : zs.getD 0 0 = v at *
        have HV := hid hv
        clear hv
        go_wp2_with fail
        go_round
        case rel => exact ⟨1, by omega, by go_num, by rw [E.out]⟩
        case measure => simp [intOf]; omega
      · by_cases hm : mx zs k < zs.getD k 0
        · have E := hid (mx_more zs k hm)
          have hk0 : ((k : Int) == 0) = false := by simp; omega
          generalize hv : zs.getD k 0 = v at *
          have HV := hid hv
          clear hv
          go_wp2_with fail
          go_round
          case rel => exact ⟨k + 1, by omega, by go_num, by rw [E.out]⟩
          case measure => simp [intOf]; omega
        · have E := hid (mx_keep zs k h0 hm)
          have hk0 : ((k : Int) == 0) = false := by simp; omega
          generalize hv : zs.getD k 0 = v at *
          have HV := hid hv
          clear hv
          go_wp2_with fail
          go_round
          case rel => exact ⟨k + 1, by omega, by go_num, by rw [E.out]⟩
          case measure => simp [intOf]; omega
    · have : k = n := by omega
      subst this
      go_wp2_with fail
      go_ret2
      exact ⟨rfl, rfl⟩
end Go.Proofs.Ytbopeeohnbknoaa
