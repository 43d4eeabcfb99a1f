import Derived.Test.YtikmniokbliolaaD1
import Derived.Shelf.Abstract
namespace Go.Proofs.Ytikmniokbliolaa
open Go.RowKit Go.Ext Go.BigFrame
attribute [local go_sem] Ext.cell Ext.frozen Ext.lt Ext.le s1 s2 s3 s4 s5 s6 t1 t2 t3 t4 t5 t6
attribute [local go_sem ↓] Go.wp_at_zero Go.wp_at_succ

/-- Is it of the run that is dropped? -/
def gone (flow run : Int) (x : It) : Bool := (x.2.1 == flow) && (x.2.2.1 == run)

theorem gone6 (flow run a b c d e f : Int) (B1 B2 : Nat) (w : World) (h1 : w.cell? ⟨B1, 0, none⟩ = some (.int .i64 flow)) (h2 : w.cell? ⟨B2, 0, none⟩ = some (.int .i64 run)) :
    Calls Try.prog 36 #[.agg #[.int .i64 a, .int .i64 b, .int .i64 c, .int .i64 d, .int .i64 e, .int .i64 f], .pointer (some ⟨B1, 0, none⟩), .pointer (some ⟨B2, 0, none⟩)] w (RetE (.bool (gone flow run (a, b, c, d, e, f))) w) := by
  have l1 := World.block_lt_of_cell? w _ h1
  have l2 := World.block_lt_of_cell? w _ h2
  simp only at l1 l2
  refine retE ?_
  unfold gone
  simp only
  cases hb : b == flow
  · rw [Bool.false_and]
    go_enter Try.func36, Try.ntmps36
    go_wp2_with fail
    go_ret
    exact ⟨rfl, (Gr.refl w).alloc _⟩
  · rw [Bool.true_and]
    go_enter Try.func36, Try.ntmps36
    go_wp2_with fail
    go_ret
    exact ⟨rfl, (Gr.refl w).alloc _⟩

set_option maxHeartbeats 1000000 in
theorem index_any (flow run : Int) (A : Option Addr) (cp : Nat) (L : List It) (B1 B2 : Nat) (w : World) (hr : Row w A L) (hl : L.length ≤ 4398046511103) (h1 : w.cell? ⟨B1, 0, none⟩ = some (.int .i64 flow)) (h2 : w.cell? ⟨B2, 0, none⟩ = some (.int .i64 run)) :
    Calls Try.prog 44 #[.slice A L.length cp, .func (.func 36) #[] #[.pointer (some ⟨B1, 0, none⟩), .pointer (some ⟨B2, 0, none⟩)]] w
      (fun en w' => ∃ r, en = .returned (.int .i64 r) ∧ Gr w w' ∧ ((r = -1 ∧ ∀ x ∈ L, gone flow run x = false) ∨ ∃ i : Nat, r = i ∧ i < L.length ∧ gone flow run (L.getD i z0) = true ∧ ∀ j, j < i → gone flow run (L.getD j z0) = false)) := by
  have HR := hid hr
  have H1 := hid h1
  have H2 := hid h2
  have l1 := World.block_lt_of_cell? w _ h1
  have l2 := World.block_lt_of_cell? w _ h2
  simp only at l1 l2
  clear hr h1 h2
  go_enter Try.func44, Try.ntmps44
  go_wp2_with fail
  go_loopw [5, 8] (fun _ i wr => ∃ k : Nat, k ≤ L.length ∧ i = .int .i64 k ∧ Gr w wr ∧ ∀ j, j < k → gone flow run (L.getD j z0) = false) (fun _ i _ => L.length - (intOf i).toNat)
  case atStart => exact ⟨0, Nat.zero_le _, rfl, Gr.refl _, fun j hj => absurd hj (by omega)⟩
  case round =>
    obtain ⟨k, hk, rfl, hg, hall⟩ := hrel
    have HG := hid hg
    have HA := hid hall
    clear hg hall
    by_cases hlt : k < L.length
    · obtain ⟨bb, off, rfl, hbb, c0, c1, c2, c3, c4, c5⟩ := (HR.out.gr HG.out).at_ hlt
      obtain ⟨⟨a, b, c, d, e, f⟩, hy⟩ : ∃ y, L.getD k z0 = y := ⟨_, rfl⟩
      rw [hy] at c0 c1 c2 c3 c4 c5
      simp only at c0 c1 c2 c3 c4 c5
      have HY := hid hy
      clear hy
      have HGN := hid (gone6 flow run a b c d e f B1 B2 wr ((HG.out.cell (p := ⟨B1, 0, none⟩) l1).trans H1.out) ((HG.out.cell (p := ⟨B2, 0, none⟩) l2).trans H2.out))
      cases hgn : gone flow run (a, b, c, d, e, f)
      · rw [hgn] at HGN
        have HN := hid hgn
        clear hgn
        go_wp2_with (first | (go_at_fn 36; refine HGN.out.mono ?_; rintro en _ ⟨rfl, y1, rfl⟩) | (go_at_call 36; refine HGN.out.mono ?_; rintro en _ ⟨rfl, y1, rfl⟩))
        go_roundw
        case rel => exact ⟨k + 1, by omega, by go_num, HG.out.ext y1, fun j hj => by
          rcases Nat.lt_or_ge j k with h | h
          · exact HA.out j h
          · rw [show j = k by omega, HY.out]; exact HN.out⟩
        case measure => simp [intOf]; omega
      · rw [hgn] at HGN
        have HN := hid hgn
        clear hgn
        go_wp2_with (first | (go_at_fn 36; refine HGN.out.mono ?_; rintro en _ ⟨rfl, y1, rfl⟩) | (go_at_call 36; refine HGN.out.mono ?_; rintro en _ ⟨rfl, y1, rfl⟩))
        go_ret
        exact ⟨_, rfl, HG.out.ext y1, .inr ⟨k, rfl, hlt, by rw [HY.out]; exact HN.out, HA.out⟩⟩
    · go_wp2_with fail
      go_ret
      refine ⟨_, rfl, HG.out, .inl ⟨rfl, fun x hx => ?_⟩⟩
      obtain ⟨j, hj, rfl⟩ := List.getElem_of_mem hx
      have := HA.out j (by omega)
      simpa [List.getD, hj] using this
end Go.Proofs.Ytikmniokbliolaa
