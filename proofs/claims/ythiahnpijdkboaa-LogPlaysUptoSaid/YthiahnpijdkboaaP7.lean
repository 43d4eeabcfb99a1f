import Derived.Test.YthiahnpijdkboaaP6
namespace Go.Proofs.Ythiahnpijdkboaa
open Go.RowKit Go.Ext Go.BigFrame
attribute [local go_sem] Ext.cell Ext.frozen Ext.lt Ext.le s1 s2 s3 s4 s5 s6 t1 t2 t3 t4 t5 t6
attribute [local go_sem ↓] Go.wp_at_zero Go.wp_at_succ

set_option maxHeartbeats 1000000 in
theorem mergeR_bad (base g : Nat) (idx term i : Int) (L : List Ent) (v : Value) (A : Option Addr) (c : Nat) (l : List Ent) (w : World) (h : RefAt base w g idx term L v) (hm : i ≤ 9223372036854775807) (hs : Sl base w A l) (hl : l.length ≤ 4398046511103)
    (hb : tmB idx L.length i = false ∨ rs (tmT idx term L i) l = false) :
    Calls Try.prog 35 #[.pointer (some ⟨g, 0, none⟩), .int .i64 i, .slice A l.length c] w (RetE (.tuple #[.int .i64 0, .slice none 0 0, .int .i64 6]) w) := by
  refine retE ?_
  have H := hid h
  have HS := hid hs
  clear h hs
  obtain ⟨t, ht⟩ : ∃ t, tmT idx term L i = t := ⟨_, rfl⟩
  obtain ⟨b, hbb⟩ : ∃ b, tmB idx L.length i = b := ⟨_, rfl⟩
  have HM := hid ((termR_any base g idx term i L v w H.out hm).mono (R' := RetE (.tuple #[.int .i64 t, .bool b]) w) (fun _ _ h => by rwa [ht, hbb] at h))
  rw [ht, hbb] at hb
  clear ht hbb
  cases b
  · clear hb
    go_enter Try.func35, Try.ntmps35
    go_wp2_with (go_at_call 15; (with_reducible refine HM.out.mono ?_); rintro e _ ⟨rfl, y1, rfl⟩)
    go_ret3
    exact ⟨rfl, y1.gr⟩
  · have hr := hid (show rs t l = false by rcases hb with h | h; · cases h
                                           · exact h)
    clear hb
    have HR := fun (y : Ext w) => hid ((risesR_any base t A c l y.val (HS.out.gr y.gr) hl).mono (R' := RetE (.bool false) y.val) (fun _ _ h => by rwa [hr.out] at h))
    go_enter Try.func35, Try.ntmps35
    go_wp2_with (first | (go_at_call 15; (with_reducible refine HM.out.mono ?_); rintro e _ ⟨rfl, y1, rfl⟩) | (go_at_call 29; (with_reducible refine (calls_ext _ (HR y1).out).mono ?_); rintro e _ ⟨rfl, y2, rfl⟩))
    go_ret3
    exact ⟨rfl, y2.gr⟩

theorem mt_t {idx term i t : Int} {L : List Ent} (h : mtB idx term L i t = true) : tmT idx term L i = t := by
  unfold mtB at h
  simp only [Bool.and_eq_true, beq_iff_eq] at h
  exact h.2

set_option maxHeartbeats 2000000 in
theorem mergeR_all (base g : Nat) (idx term i : Int) (L : List Ent) (v : Value) (A : Option Addr) (c : Nat) (l : List Ent) (w : World) (h : RefAt base w g idx term L v) (hs : Sl base w A l) (hl : l.length ≤ 4398046511103)
    (hb : tmB idx L.length i = true) (hr : rs (tmT idx term L i) l = true) (hall : ∀ j, j < l.length → mtB idx term L (i + 1 + j) (l.getD j (0, [])).1 = true) :
    Calls Try.prog 35 #[.pointer (some ⟨g, 0, none⟩), .int .i64 i, .slice A l.length c] w (RetE (.tuple #[.int .i64 0, .slice none 0 0, .int .i64 0]) w) := by
  refine retE ?_
  have b1 := tm_lo hb
  have b2 := h.i0
  have b3 := h.i1
  have b4 := h.len
  have H := hid h
  have HS := hid hs
  have HA := hid hall
  clear h hs hall
  obtain ⟨t, ht⟩ : ∃ t, tmT idx term L i = t := ⟨_, rfl⟩
  have HM := hid ((termR_any base g idx term i L v w H.out (by omega)).mono (R' := RetE (.tuple #[.int .i64 t, .bool true]) w) (fun _ _ h => by rwa [ht, hb] at h))
  have HR := fun (y : Ext w) => hid ((risesR_any base t A c l y.val (HS.out.gr y.gr) hl).mono (R' := RetE (.bool true) y.val) (fun _ _ h => by rwa [← ht, hr] at h))
  clear ht hb hr
  go_enter Try.func35, Try.ntmps35
  go_wp2_with (first | (go_at_call 15; (with_reducible refine HM.out.mono ?_); rintro e _ ⟨rfl, y1, rfl⟩) | (go_at_call 29; (with_reducible refine (calls_ext _ (HR y1).out).mono ?_); rintro e _ ⟨rfl, y2, rfl⟩))
  go_loopw [11] (fun i wr => ∃ k : Nat, k ≤ l.length ∧ i = .int .i64 k ∧ Gr w wr) (fun i _ => l.length - (intOf i).toNat)
  case atStart => exact ⟨0, Nat.zero_le _, rfl, y2.gr⟩
  case round =>
    obtain ⟨k, hk, rfl, hg⟩ := hrel
    have HG := hid hg
    clear hg
    by_cases hlt : k < l.length
    · obtain ⟨b, off, D, c', rfl, c1, c2, c3, c4⟩ := (HS.out.gr HG.out).at_ hlt
      have hmt := HA.out k hlt
      have htm := mt_tm hmt
      have htt := mt_t hmt
      clear c2 c3 hmt
      generalize (l.getD k (0, [])).1 = ek at *
      have b5 := tm_lo htm
      have HC := fun (W : World) (hW : Gr wr W) => hid ((termR_any base g idx term (i + 1 + k) L v W (H.out.gr (HG.out.trans hW)) (by omega)).mono (R' := RetE (.tuple #[.int .i64 ek, .bool true]) W) (fun _ _ h => by rwa [htt, htm] at h))
      clear htm htt
      go_wp2_with (go_at_call 15; (with_reducible refine (HC _ (Gr.refl _)).out.mono ?_); rintro e _ ⟨rfl, y4, rfl⟩)
      go_roundw
      case rel => exact ⟨k + 1, by omega, by go_num, HG.out.ext _⟩
      case measure => simp [intOf]; omega
    · have : k = l.length := by omega
      subst this
      go_wp2_with fail
      go_ret3
      exact ⟨rfl, HG.out⟩
end Go.Proofs.Ythiahnpijdkboaa
