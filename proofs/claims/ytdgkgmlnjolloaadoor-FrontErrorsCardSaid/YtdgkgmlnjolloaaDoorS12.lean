import Derived.Test.YtdgkgmlnjolloaaDoorS8
import Derived.Test.YtdgkgmlnjolloaaDoorS9
import Derived.Test.YtdgkgmlnjolloaaDoorS10
import Derived.Test.YtdgkgmlnjolloaaDoorS11
namespace Go.Proofs.YtdgkgmlnjolloaaDoor
open Go.RowKit Go.Ext Go.BigFrame
attribute [local go_sem] Ext.cell Ext.frozen Ext.lt Ext.le s1 s2 s3 s4 s5 s6 t1 t2 t3 t4 t5 t6
attribute [local go_sem ↓] Go.wp_at_zero Go.wp_at_succ

/-! ### known, wrapped -/
def bo (n : Int) : Option Int := if n = -1 then none else some n
theorem rd_new (W : World) (xs : List Value) (t : Nat) : Rd (W.alloc (.cells xs.toArray t)) (some ⟨W.heap.size, 0, none⟩) xs := fun _ => by
  refine ⟨_, _, rfl, fun j u hu => ?_⟩
  rw [World.cell?_alloc_at _ _ _ _ (by simp)]
  simpa using hu
theorem wrapped_any (n : Int) (ws : List ByteArray) (A : Option Addr) (c : Nat) (w : World) (hr : Rd w A (wc ws)) (hl : ws.length ≤ 1000000) :
    Calls Tryd.prog 6 #[.int .i64 n, .slice A ws.length c] w (fun e w' => ∃ v', e = .returned (.tuple #[v', .int .i64 n]) ∧ Gr w w' ∧ Ch w' ws (bo n) v') := by
  have HR := hid hr
  clear hr
  unfold bo
  by_cases h : n = -1
  · subst h
    rw [if_pos rfl]
    go_enter Tryd.func6, Tryd.ntmps6
    go_wp2_with (go_at_call 16; refine (wrap_any ws A c [] none _ w rfl HR.out hl).mono ?_; rintro e w1 ⟨v1, rfl, g1, h1⟩; have HG := hid g1; have HC := hid h1; clear g1 h1)
    go_ret2
    exact ⟨_, rfl, HG.out, by simpa using HC.out⟩
  · rw [if_neg h]
    have b0 : (n == -1) = false := by rw [beq_eq_false_iff_ne]; exact h
    go_enter Tryd.func6, Tryd.ntmps6
    go_wp2_with (go_at_call 16; refine (wrap_any ws A c [] (some n) _ w rfl HR.out hl).mono ?_; rintro e w1 ⟨v1, rfl, g1, h1⟩; have HG := hid g1; have HC := hid h1; clear g1 h1)
    go_ret2
    exact ⟨_, rfl, HG.out, by simpa using HC.out⟩

theorem name7 (w : World) : Calls Tryd.prog 7 #[.int .i64 7] w (RetE (.string ⟨#[112, 111, 108, 108, 100]⟩) w) := by
  refine retE ?_
  go_enter Tryd.func7, Tryd.ntmps7
  go_wp2_with fail
  go_ret
  exact ⟨rfl, (Gr.refl _).alloc _⟩
set_option maxRecDepth 100000 in
set_option maxHeartbeats 2000000 in
theorem known_any (w : World) (he : Et w) : Calls Tryd.prog 5 #[] w (RetE (.bool true) w) := by
  have HE := hid he
  clear he
  refine retE ?_
  go_enter Tryd.func5, Tryd.ntmps5
  go_wp2_with (first
    | (go_at_call 15; (with_reducible refine HI.out.mono ?_); rintro e _ ⟨rfl, rfl⟩)
    | (go_at_call 12; (with_reducible refine (HC.out _ y1.gr).mono ?_); rintro e _ ⟨rfl, y2, rfl⟩)
    | (go_at_call 7; (with_reducible refine (name7 _).mono ?_); rintro e _ ⟨rfl, y3, rfl⟩)
    | (go_at_call 10; (with_reducible refine HS.out.mono ?_); rintro e _ ⟨rfl, y1, rfl⟩)
    | (go_at_call 10; (with_reducible refine (sort_nil _).mono ?_); rintro e _ ⟨rfl, y4, rfl⟩)
    | (go_at_call 16
       refine (wrap_any [⟨#[97]⟩, ⟨#[98]⟩] _ _ [] (some 21) _ _ rfl (rd_new w [.string ⟨#[97]⟩, .string ⟨#[98]⟩] _) (by decide)).mono ?_
       rintro e w1 ⟨v1, rfl, g1, h1⟩
       obtain ⟨tt, xx, rfl⟩ := h1.shape
       have HG := hid (((Gr.refl w).alloc _).trans g1)
       have HI := hid (isTop_any _ (some 21) _ 21 w1 h1)
       have HS := hid (sort_any _ (some 21) _ w1 h1 (HE.out.gr HG.out))
       have HC := hid (fun W (g : Gr w1 W) => code_any _ (some 21) _ W (h1.gr g) ((HE.out.gr HG.out).gr g))
       rw [show decide (some (21 : Int) = some 21) = true by decide] at HI
       rw [show sortB (some 21) = 4 by decide] at HS
       rw [show codeB (some 21) = 409 by decide] at HC
       clear g1 h1))
  go_ret
  exact ⟨rfl, (((HG.out.ext y1).ext y2).ext y3).ext y4⟩
end Go.Proofs.YtdgkgmlnjolloaaDoor
