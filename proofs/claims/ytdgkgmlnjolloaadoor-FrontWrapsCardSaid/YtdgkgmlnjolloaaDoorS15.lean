import Derived.Test.YtdgkgmlnjolloaaDoorS13
import Derived.Test.YtdgkgmlnjolloaaDoorS14
namespace Go.Proofs.YtdgkgmlnjolloaaDoor
open Go.RowKit Go.Ext Go.BigFrame
attribute [local go_sem] Ext.cell Ext.frozen Ext.lt Ext.le s1 s2 s3 s4 s5 s6 t1 t2 t3 t4 t5 t6
attribute [local go_sem ↓] Go.wp_at_zero Go.wp_at_succ

/-! ### Many words -/
set_option maxRecDepth 100000 in
set_option maxHeartbeats 4000000 in
theorem errors_long (n : Int) (ws : List ByteArray) (A : Option Addr) (c : Nat) (m : Int) (w : World) (he : Et w) (hr : Rd w A (wc ws)) (hl : ws.length ≤ 140737488351232) (hz : ∀ s ∈ ws, s.size ≤ 140737488351232) (hlong : 50 < ws.length) :
    Calls Tryd.prog 3 #[.int .i64 n, .slice A ws.length c, .int .i64 m] w (RetE (.bool true) w) := by
  have HE := hid he
  have HR := hid hr
  have HL := hid hl
  have HZ := hid hz
  clear hr he
  refine retE ?_
  go_enter Tryd.func3, Tryd.ntmps3
  go_wp2_with (go_at_call 5; refine (known_any _ HE.out).mono ?_; rintro e _ ⟨rfl, y1, rfl⟩)
  go_loopg [7, 8] ws.length (fun k a i wr => ∃ (j : Nat) (z : Int), j ≤ ws.length ∧ k = ws.length - j ∧ a = .int .i64 z ∧ i = .int .i64 j ∧ y1.val = wr)
  case atStart => exact ⟨0, 0, by omega, by omega, rfl, rfl, rfl⟩
  case round =>
    obtain ⟨j, z, hj, rfl, rfl, rfl, rfl⟩ := hrel
    by_cases hjl : j < ws.length
    · obtain ⟨s, hs⟩ : ∃ s, ws[j]? = some s := ⟨ws[j], List.getElem?_eq_getElem hjl⟩
      obtain ⟨B, off, rfl, hcell⟩ := HR.out.at_ (j := j) (u := .string s) (by simp [wc, hs])
      have c0 : y1.val.cell? ⟨B, off + j, none⟩ = some (.string s) := (y1.gr.cell (p := ⟨B, off + j, none⟩) (World.block_lt_of_cell? w _ hcell)).trans hcell
      have hlz : (j : Int) < (ws.length : Int) := by omega
      have hsz := HZ.out s (List.mem_of_getElem? hs)
      clear hcell hs hz
      go_wp2_with fail
      go_roundg (ws.length - (j + 1))
      case measure => omega
      case rel => exact ⟨j + 1, _, by omega, rfl, rfl, by simp, rfl⟩
    · obtain rfl : j = ws.length := by omega
      clear hjl hj
      have hbig : (50 : Int) < (ws.length : Int) := by omega
      go_wp2_with fail
      go_ret
      exact ⟨rfl, y1.gr⟩
set_option maxRecDepth 100000 in
set_option maxHeartbeats 4000000 in
theorem wraps_long (n : Int) (ws : List ByteArray) (A : Option Addr) (c : Nat) (w : World) (he : Et w) (hr : Rd w A (wc ws)) (hl : ws.length ≤ 140737488351232) (hz : ∀ s ∈ ws, s.size ≤ 140737488351232) (hlong : 50 < ws.length) :
    Calls Tryd.prog 4 #[.int .i64 n, .slice A ws.length c] w (RetE (.bool true) w) := by
  have HE := hid he
  have HR := hid hr
  have HL := hid hl
  have HZ := hid hz
  clear hr he
  refine retE ?_
  go_enter Tryd.func4, Tryd.ntmps4
  go_wp2_with (go_at_call 5; refine (known_any _ HE.out).mono ?_; rintro e _ ⟨rfl, y1, rfl⟩)
  go_loopg [5, 6] ws.length (fun k a i wr => ∃ (j : Nat) (z : Int), j ≤ ws.length ∧ k = ws.length - j ∧ a = .int .i64 z ∧ i = .int .i64 j ∧ y1.val = wr)
  case atStart => exact ⟨0, 0, by omega, by omega, rfl, rfl, rfl⟩
  case round =>
    obtain ⟨j, z, hj, rfl, rfl, rfl, rfl⟩ := hrel
    by_cases hjl : j < ws.length
    · obtain ⟨s, hs⟩ : ∃ s, ws[j]? = some s := ⟨ws[j], List.getElem?_eq_getElem hjl⟩
      obtain ⟨B, off, rfl, hcell⟩ := HR.out.at_ (j := j) (u := .string s) (by simp [wc, hs])
      have c0 : y1.val.cell? ⟨B, off + j, none⟩ = some (.string s) := (y1.gr.cell (p := ⟨B, off + j, none⟩) (World.block_lt_of_cell? w _ hcell)).trans hcell
      have hlz : (j : Int) < (ws.length : Int) := by omega
      have hsz := HZ.out s (List.mem_of_getElem? hs)
      clear hcell hs hz
      go_wp2_with fail
      go_roundg (ws.length - (j + 1))
      case measure => omega
      case rel => exact ⟨j + 1, _, by omega, rfl, rfl, by simp, rfl⟩
    · obtain rfl : j = ws.length := by omega
      clear hjl hj
      have hbig : (50 : Int) < (ws.length : Int) := by omega
      go_wp2_with fail
      go_ret
      exact ⟨rfl, y1.gr⟩

theorem sm_bound {z : Nat} : ∀ (ws : List ByteArray), (∀ s ∈ ws, s.size ≤ z) → sm ws ≤ ws.length * z
  | [], _ => by simp [sm]
  | x :: r, h => by
    have h1 := sm_bound r (fun s hs => h s (List.mem_cons_of_mem _ hs))
    have h2 := h x (List.mem_cons_self ..)
    simp only [sm, List.length_cons, Nat.add_mul, Nat.one_mul]
    omega
theorem sm_few {ws : List ByteArray} (hz : ∀ s ∈ ws, s.size ≤ 140737488351232) (h : ¬ 50 < ws.length) : ws.length + sm ws ≤ 1152921504606846976 := by
  have h1 := sm_bound ws hz
  have h2 : ws.length * 140737488351232 ≤ 50 * 140737488351232 := Nat.mul_le_mul_right _ (by omega)
  omega
theorem errors_any (n : Int) (ws : List ByteArray) (A : Option Addr) (c : Nat) (m : Int) (w : World) (he : Et w) (hr : Rd w A (wc ws)) (hl : ws.length ≤ 140737488351232) (hz : ∀ s ∈ ws, s.size ≤ 140737488351232) :
    Calls Tryd.prog 3 #[.int .i64 n, .slice A ws.length c, .int .i64 m] w (RetE (.bool true) w) := by
  by_cases h : 50 < ws.length
  · exact errors_long n ws A c m w he hr hl hz h
  · exact errors_short n ws A c m w he hr (sm_few hz h)
theorem wraps_any (n : Int) (ws : List ByteArray) (A : Option Addr) (c : Nat) (w : World) (he : Et w) (hr : Rd w A (wc ws)) (hl : ws.length ≤ 140737488351232) (hz : ∀ s ∈ ws, s.size ≤ 140737488351232) :
    Calls Tryd.prog 4 #[.int .i64 n, .slice A ws.length c] w (RetE (.bool true) w) := by
  by_cases h : 50 < ws.length
  · exact wraps_long n ws A c w he hr hl hz h
  · exact wraps_short n ws A c w he hr (sm_few hz h)
end Go.Proofs.YtdgkgmlnjolloaaDoor
