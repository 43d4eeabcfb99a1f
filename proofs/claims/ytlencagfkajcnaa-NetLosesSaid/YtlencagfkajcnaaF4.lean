import Derived.Test.YtlencagfkajcnaaF3
namespace Go.Proofs.Ytlencagfkajcnaa
open Go.RowKit Go.Ext Go.BigFrame Go.Maps
attribute [local go_sem] Ext.cell Ext.frozen Ext.lt Ext.le s1 s2 s3 s4 s5 s6 t1 t2 t3 t4 t5 t6
attribute [local go_sem ↓] Go.wp_at_zero Go.wp_at_succ

set_option maxRecDepth 100000 in
set_option maxHeartbeats 4000000 in
/-- The law NetLoses, whatever is asked. -/
theorem netloses_any (A : Option Addr) (c : Nat) (acts : List Ac) (a b : Int) (w : World) (hr : RowC w A acts) (hl : acts.length ≤ 4398046511103) : Calls Try.prog 4 #[.slice A acts.length c, .int .i64 a, .int .i64 b] w (RetE (.bool true) w) := by
  by_cases h1 : a < 0
  · have h1b : decide (a < 0) = true := decide_eq_true h1
    refine retE ?_
    have HR := hid hr
    clear hr
    go_enter Try.func4, Try.ntmps4
    go_wp2_with (go_at_call 7; refine (known_any _).mono ?_; rintro e _ ⟨rfl, y1, rfl⟩)
    refine (few_any A c acts y1.val (HR.out.gr y1.gr) hl).mono ?_
    rintro en _ ⟨r, rfl, hfew, rfl⟩
    clear hfew HR
    cases r <;> (go_wp2_with fail; go_ret; exact ⟨rfl, y1.gr⟩)
  have h1b : decide (a < 0) = false := decide_eq_false h1
  by_cases h2 : b < 0
  · have h2b : decide (b < 0) = true := decide_eq_true h2
    refine retE ?_
    have HR := hid hr
    clear hr
    go_enter Try.func4, Try.ntmps4
    go_wp2_with (go_at_call 7; refine (known_any _).mono ?_; rintro e _ ⟨rfl, y1, rfl⟩)
    refine (few_any A c acts y1.val (HR.out.gr y1.gr) hl).mono ?_
    rintro en _ ⟨r, rfl, hfew, rfl⟩
    clear hfew HR
    cases r <;> (go_wp2_with fail; go_ret; exact ⟨rfl, y1.gr⟩)
  have h2b : decide (b < 0) = false := decide_eq_false h2
  by_cases h3 : 3 < a
  · have h3b : decide (3 < a) = true := decide_eq_true h3
    refine retE ?_
    have HR := hid hr
    clear hr
    go_enter Try.func4, Try.ntmps4
    go_wp2_with (go_at_call 7; refine (known_any _).mono ?_; rintro e _ ⟨rfl, y1, rfl⟩)
    refine (few_any A c acts y1.val (HR.out.gr y1.gr) hl).mono ?_
    rintro en _ ⟨r, rfl, hfew, rfl⟩
    clear hfew HR
    cases r <;> (go_wp2_with fail; go_ret; exact ⟨rfl, y1.gr⟩)
  have h3b : decide (3 < a) = false := decide_eq_false h3
  by_cases h4 : 3 < b
  · have h4b : decide (3 < b) = true := decide_eq_true h4
    refine retE ?_
    have HR := hid hr
    clear hr
    go_enter Try.func4, Try.ntmps4
    go_wp2_with (go_at_call 7; refine (known_any _).mono ?_; rintro e _ ⟨rfl, y1, rfl⟩)
    refine (few_any A c acts y1.val (HR.out.gr y1.gr) hl).mono ?_
    rintro en _ ⟨r, rfl, hfew, rfl⟩
    clear hfew HR
    cases r <;> (go_wp2_with fail; go_ret; exact ⟨rfl, y1.gr⟩)
  have h4b : decide (3 < b) = false := decide_eq_false h4
  by_cases h5 : a = b
  · have h5b : (a == b) = true := by simpa using h5
    clear h5
    refine retE ?_
    have HR := hid hr
    clear hr
    go_enter Try.func4, Try.ntmps4
    go_wp2_with (go_at_call 7; refine (known_any _).mono ?_; rintro e _ ⟨rfl, y1, rfl⟩)
    refine (few_any A c acts y1.val (HR.out.gr y1.gr) hl).mono ?_
    rintro en _ ⟨r, rfl, hfew, rfl⟩
    clear hfew HR
    cases r <;> (go_wp2_with fail; go_ret; exact ⟨rfl, y1.gr⟩)
  exact loses_law A c acts a b w hr hl ⟨by omega, by omega⟩ ⟨by omega, by omega⟩ h5
end Go.Proofs.Ytlencagfkajcnaa
