import Derived.Test.YthiahnpijdkboaaR3
import Derived.Test.YthiahnpijdkboaaW4
namespace Go.Proofs.Ythiahnpijdkboaa
open Go.RowKit Go.Ext Go.BigFrame
attribute [local go_sem] Ext.cell Ext.frozen Ext.lt Ext.le s1 s2 s3 s4 s5 s6 t1 t2 t3 t4 t5 t6
attribute [local go_sem ↓] Go.wp_at_zero Go.wp_at_succ

set_option maxHeartbeats 1000000 in
theorem lastR_any (base g : Nat) (idx term : Int) (L : List Ent) (v : Value) (w : World) (h : RefAt base w g idx term L v) :
    Calls Try.prog 32 #[.pointer (some ⟨g, 0, none⟩)] w (RetE (.tuple #[.int .i64 (idx + L.length), .int .i64 (lastT term L)]) w) := by
  refine retE ?_
  obtain ⟨A, c, rfl, hs, hlc⟩ := h.row.shape
  have g0 := h.cell 0
  have g1 := h.cell 1
  have g2 := h.cell 2
  have hi0 := h.i0
  have hi1 := h.i1
  have hl := h.len
  have hlt := h.lt
  simp at g0 g1 g2
  clear h
  by_cases hn : 0 < L.length
  · obtain ⟨b, off, D, c', rfl, c1, _, _, c4⟩ := hs.at_ (i := L.length - 1) (by omega)
    have HT := hid (show lastT term L = (L.getD (L.length - 1) (0, [])).1 by unfold lastT; rw [if_neg (by omega)])
    generalize (L.getD (L.length - 1) (0, [])).1 = e at *
    clear hs
    have hb : ((L.length : Int) == 0) = false := by
      have : (L.length : Int) ≠ 0 := by omega
      simpa using this
    have k0 : (0 : Int) ≤ (L.length : Int) - 1 := by omega
    have k1 : (L.length : Int) - 1 < (L.length : Int) := by omega
    go_enter Try.func32, Try.ntmps32
    go_wp2_with fail
    refine wp_region_ext (by kernel_rfl) (by kernel_rfl) ?_
    repeat (go_big_quiet_step (fail))
    refine wpQuiet_nil ?_
    rintro _ ⟨x, rfl⟩
    go_wp2_with fail
    go_ret2
    exact ⟨by rw [HT.out]; rfl, x.gr⟩
  · have hn0 : L.length = 0 := by omega
    have HT := hid (show lastT term L = term by unfold lastT; rw [if_pos hn0])
    have HI := hid (show idx + (L.length : Int) = idx by omega)
    go_enter Try.func32, Try.ntmps32
    go_wp2_with fail
    refine wp_region_ext (by kernel_rfl) (by kernel_rfl) ?_
    repeat (go_big_quiet_step (fail))
    refine wpQuiet_nil ?_
    rintro _ ⟨x, rfl⟩
    go_wp2_with fail
    go_ret2
    exact ⟨by rw [HT.out, HI.out]; rfl, x.gr⟩

theorem matchR_any (base g : Nat) (idx term i t : Int) (L : List Ent) (v : Value) (w : World) (h : RefAt base w g idx term L v) (hm : i ≤ 9223372036854775807) :
    Calls Try.prog 41 #[.pointer (some ⟨g, 0, none⟩), .int .i64 i, .int .i64 t] w (RetE (.bool (mtB idx term L i t)) w) := by
  refine retE ?_
  have H := hid h
  clear h
  cases hb : tmB idx L.length i
  · have HM := hid (show mtB idx term L i t = false by unfold mtB; rw [hb]; rfl)
    have HT := hid ((termR_any base g idx term i L v _ H.out hm))
    rw [hb] at HT
    go_enter Try.func41, Try.ntmps41
    go_wp2_with (go_at_call 15; (with_reducible refine HT.out.mono ?_); rintro e _ ⟨rfl, y, rfl⟩)
    go_ret
    exact ⟨by rw [HM.out]; rfl, y.gr⟩
  · have HM := hid (show mtB idx term L i t = (tmT idx term L i == t) by unfold mtB; rw [hb]; rfl)
    have HT := hid ((termR_any base g idx term i L v _ H.out hm))
    rw [hb] at HT
    go_enter Try.func41, Try.ntmps41
    go_wp2_with (go_at_call 15; (with_reducible refine HT.out.mono ?_); rintro e _ ⟨rfl, y, rfl⟩)
    go_ret
    exact ⟨by rw [HM.out]; rfl, y.gr⟩

theorem newerR_any (base g : Nat) (idx term i t : Int) (L : List Ent) (v : Value) (w : World) (h : RefAt base w g idx term L v) :
    Calls Try.prog 43 #[.pointer (some ⟨g, 0, none⟩), .int .i64 i, .int .i64 t] w (RetE (.bool (nwB idx term L i t)) w) := by
  refine retE ?_
  have H := hid h
  clear h
  obtain ⟨q, hq⟩ : ∃ q, lastT term L = q := ⟨_, rfl⟩
  obtain ⟨m, hm⟩ : ∃ m, idx + (L.length : Int) = m := ⟨_, rfl⟩
  have HL := hid ((lastR_any base g idx term L v w H.out).mono (R' := RetE (.tuple #[.int .i64 m, .int .i64 q]) w) (fun _ _ h => by rwa [hq, hm] at h))
  have HN := hid (show nwB idx term L i t = (decide (q < t) || (t == q && decide (m ≤ i))) by unfold nwB; rw [hq, hm])
  clear hq hm
  by_cases h1 : q < t
  · go_enter Try.func43, Try.ntmps43
    go_wp2_with (go_at_call 32; (with_reducible refine HL.out.mono ?_); rintro e _ ⟨rfl, y, rfl⟩)
    go_ret
    exact ⟨by rw [HN.out]; simp [h1], y.gr⟩
  by_cases h2 : t = q
  · subst h2
    go_enter Try.func43, Try.ntmps43
    go_wp2_with (go_at_call 32; (with_reducible refine HL.out.mono ?_); rintro e _ ⟨rfl, y, rfl⟩)
    go_ret
    exact ⟨by rw [HN.out]; simp, y.gr⟩
  · have h3 : (t == q) = false := by simpa using h2
    go_enter Try.func43, Try.ntmps43
    go_wp2_with (go_at_call 32; (with_reducible refine HL.out.mono ?_); rintro e _ ⟨rfl, y, rfl⟩)
    go_ret
    exact ⟨by rw [HN.out]; simp [*], y.gr⟩
end Go.Proofs.Ythiahnpijdkboaa
