import Derived.Test.YthiahnpijdkboaaW3
namespace Go.Proofs.Ythiahnpijdkboaa
open Go.RowKit Go.Ext Go.BigFrame
attribute [local go_sem] Ext.cell Ext.frozen Ext.lt Ext.le s1 s2 s3 s4 s5 s6 t1 t2 t3 t4 t5 t6
attribute [local go_sem ↓] Go.wp_at_zero Go.wp_at_succ

/-- Has an entry a term? -/
def mtB (idx term : Int) (L : List Ent) (i t : Int) : Bool := tmB idx L.length i && (tmT idx term L i == t)

theorem match_any (base g : Nat) (idx term i t : Int) (L : List Ent) (v : Value) (w : World) (h : LogAt base w g idx term L v) (hm : i ≤ 9223372036854775807) :
    Calls Try.prog 16 #[.pointer (some ⟨g, 0, none⟩), .int .i64 i, .int .i64 t] w (RetE (.bool (mtB idx term L i t)) w) := by
  refine retE ?_
  have H := hid h
  clear h
  cases hb : tmB idx L.length i
  · have HM := hid (show mtB idx term L i t = false by unfold mtB; rw [hb]; rfl)
    go_enter Try.func16, Try.ntmps16
    go_wp2_with (go_at_call 22; (with_reducible refine (term_any base g idx term i L v _ H.out hm).mono ?_); rintro e _ ⟨rfl, y, rfl⟩)
    go_ret
    exact ⟨by rw [HM.out]; rfl, y.gr⟩
  · have HM := hid (show mtB idx term L i t = (tmT idx term L i == t) by unfold mtB; rw [hb]; rfl)
    go_enter Try.func16, Try.ntmps16
    go_wp2_with (go_at_call 22; (with_reducible refine (term_any base g idx term i L v _ H.out hm).mono ?_); rintro e _ ⟨rfl, y, rfl⟩)
    go_ret
    exact ⟨by rw [HM.out]; rfl, y.gr⟩

/-- Is a log that ends so as new? -/
def nwB (idx term : Int) (L : List Ent) (i t : Int) : Bool := decide (lastT term L < t) || (t == lastT term L && decide (idx + L.length ≤ i))

theorem newer_any (base g : Nat) (idx term i t : Int) (L : List Ent) (v : Value) (w : World) (h : LogAt base w g idx term L v) :
    Calls Try.prog 12 #[.pointer (some ⟨g, 0, none⟩), .int .i64 i, .int .i64 t] w (RetE (.bool (nwB idx term L i t)) w) := by
  refine retE ?_
  have H := hid h
  clear h
  obtain ⟨q, hq⟩ : ∃ q, lastT term L = q := ⟨_, rfl⟩
  obtain ⟨m, hm⟩ : ∃ m, idx + (L.length : Int) = m := ⟨_, rfl⟩
  have HL := hid ((last_any base g idx term L v w H.out).mono (R' := RetE (.tuple #[.int .i64 m, .int .i64 q]) w) (fun _ _ h => by rwa [hq, hm] at h))
  have HN := hid (show nwB idx term L i t = (decide (q < t) || (t == q && decide (m ≤ i))) by unfold nwB; rw [hq, hm])
  clear hq hm
  by_cases h1 : q < t
  · go_enter Try.func12, Try.ntmps12
    go_wp2_with (go_at_call 11; (with_reducible refine HL.out.mono ?_); rintro e _ ⟨rfl, y, rfl⟩)
    go_ret
    exact ⟨by rw [HN.out]; simp [h1], y.gr⟩
  by_cases h2 : t = q
  · subst h2
    go_enter Try.func12, Try.ntmps12
    go_wp2_with (go_at_call 11; (with_reducible refine HL.out.mono ?_); rintro e _ ⟨rfl, y, rfl⟩)
    go_ret
    exact ⟨by rw [HN.out]; simp, y.gr⟩
  · have h3 : (t == q) = false := by simpa using h2
    go_enter Try.func12, Try.ntmps12
    go_wp2_with (go_at_call 11; (with_reducible refine HL.out.mono ?_); rintro e _ ⟨rfl, y, rfl⟩)
    go_ret
    exact ⟨by rw [HN.out]; simp [*], y.gr⟩

/-- From the place d behind the first one on down, as long as the entry ahead has the term. -/
def down (idx term : Int) (L : List Ent) (t : Int) : Nat → Int
  | 0 => idx + 1
  | d + 1 => if mtB idx term L (idx + 1 + d) t then down idx term L t d else idx + 1 + (d + 1 : Nat)
def hintT (idx term : Int) (L : List Ent) (i : Int) : Int := if i < idx + 1 then 0 else if idx + L.length < i then 0 else tmT idx term L i
def hintK (idx term : Int) (L : List Ent) (i : Int) : Int :=
  if i < idx + 1 then idx + 1 else if idx + L.length < i then idx + L.length + 1 else if 0 < tmT idx term L i then down idx term L (tmT idx term L i) (i - (idx + 1)).toNat else i
theorem down_yes (idx term : Int) (L : List Ent) (t : Int) (d : Nat) (h : mtB idx term L (idx + 1 + d) t = true) : down idx term L t (d + 1) = down idx term L t d := by simp only [down]; rw [if_pos h]
theorem down_no (idx term : Int) (L : List Ent) (t : Int) (d : Nat) (h : mtB idx term L (idx + 1 + d) t = false) : down idx term L t (d + 1) = idx + 1 + (d + 1 : Nat) := by simp only [down]; rw [if_neg (by rw [h]; exact Bool.false_ne_true)]

set_option maxHeartbeats 2000000 in
theorem hint_any (base g : Nat) (idx term i : Int) (L : List Ent) (v : Value) (w : World) (h : LogAt base w g idx term L v) (hm : i ≤ 9223372036854775807) :
    Calls Try.prog 20 #[.pointer (some ⟨g, 0, none⟩), .int .i64 i] w (RetE (.tuple #[.int .i64 (hintT idx term L i), .int .i64 (hintK idx term L i)]) w) := by
  refine retE ?_
  have hi0 := h.i0
  have hi1 := h.i1
  have hl := h.len
  have H := hid h
  clear h
  by_cases e1 : i < idx + 1
  · have HT := hid (show hintT idx term L i = 0 by unfold hintT; rw [if_pos e1])
    have HK := hid (show hintK idx term L i = idx + 1 by unfold hintK; rw [if_pos e1])
    go_enter Try.func20, Try.ntmps20
    go_wp2_with (first | (go_at_call 11; (with_reducible refine (last_any base g idx term L v _ H.out).mono ?_); rintro e _ ⟨rfl, y1, rfl⟩) | (go_at_call 22; (with_reducible refine (calls_ext _ (term_any base g idx term i L v _ (H.out.gr y1.gr) hm)).mono ?_); rintro e _ ⟨rfl, y2, rfl⟩) | (go_at_call 21; (with_reducible refine (calls_ext _ (first_any base g idx term L v _ (H.out.gr (Ext.gr _)))).mono ?_); rintro e _ ⟨rfl, y3, rfl⟩))
    go_ret2
    exact ⟨by rw [HT.out, HK.out]; rfl, Ext.gr _⟩
  by_cases e2 : idx + (L.length : Int) < i
  · have HT := hid (show hintT idx term L i = 0 by unfold hintT; rw [if_neg e1, if_pos e2])
    have HK := hid (show hintK idx term L i = idx + L.length + 1 by unfold hintK; rw [if_neg e1, if_pos e2])
    go_enter Try.func20, Try.ntmps20
    go_wp2_with (first | (go_at_call 11; (with_reducible refine (last_any base g idx term L v _ H.out).mono ?_); rintro e _ ⟨rfl, y1, rfl⟩) | (go_at_call 22; (with_reducible refine (calls_ext _ (term_any base g idx term i L v _ (H.out.gr y1.gr) hm)).mono ?_); rintro e _ ⟨rfl, y2, rfl⟩) | (go_at_call 21; (with_reducible refine (calls_ext _ (first_any base g idx term L v _ (H.out.gr (Ext.gr _)))).mono ?_); rintro e _ ⟨rfl, y3, rfl⟩))
    refine wp_loop_rounds 1 ?_
    rw [rounds_succ]
    go_wp2_with fail
    go_ret2
    exact ⟨by rw [HT.out, HK.out]; rfl, Ext.gr _⟩
  have HT := hid (show hintT idx term L i = tmT idx term L i by unfold hintT; rw [if_neg e1, if_neg e2])
  obtain ⟨t, ht⟩ : ∃ t, tmT idx term L i = t := ⟨_, rfl⟩
  obtain ⟨b, hb⟩ : ∃ b, tmB idx L.length i = b := ⟨_, rfl⟩
  have HM := fun (y : Ext w) => hid ((term_any base g idx term i L v y.val (H.out.gr y.gr) hm).mono (R' := RetE (.tuple #[.int .i64 t, .bool b]) y.val) (fun _ _ h => by rwa [ht, hb] at h))
  by_cases h0 : 0 < t
  · obtain ⟨d0, hd0⟩ : ∃ d0 : Nat, i = idx + 1 + d0 := ⟨(i - (idx + 1)).toNat, by omega⟩
    have hdl : d0 < L.length := by omega
    have HK := hid (show hintK idx term L i = down idx term L t d0 by unfold hintK; rw [if_neg e1, if_neg e2, ht, if_pos h0]; congr 1; omega)
    have HT2 := hid (HT.out.trans ht)
    have HD0 := hid hd0
    clear ht hb hd0
    go_enter Try.func20, Try.ntmps20
    go_wp2_with (first | (go_at_call 11; (with_reducible refine (last_any base g idx term L v _ H.out).mono ?_); rintro e _ ⟨rfl, y1, rfl⟩) | (go_at_call 22; (with_reducible refine (calls_ext _ (HM y1).out).mono ?_); rintro e _ ⟨rfl, y2, rfl⟩) | (go_at_call 21; (with_reducible refine (calls_ext _ (first_any base g idx term L v _ (H.out.gr (Ext.gr _)))).mono ?_); rintro e _ ⟨rfl, y3, rfl⟩))
    go_loopw [1] (fun k wr => ∃ d : Nat, d ≤ d0 ∧ k = .int .i64 (idx + 1 + d) ∧ down idx term L t d = down idx term L t d0 ∧ Gr w wr) (fun k _ => (intOf k - idx).toNat)
    case atStart => exact ⟨d0, Nat.le_refl _, by rw [HD0.out], rfl, Ext.gr _⟩
    case round =>
      obtain ⟨d, hd, rfl, hdn, hg⟩ := hrel
      have HG := hid hg
      have HN := hid hdn
      clear hg hdn
      cases d with
      | zero =>
        simp only [Int.natCast_zero, Int.add_zero]
        go_wp2_with (go_at_call 21; (with_reducible refine (first_any base g idx term L v _ (H.out.gr HG.out)).mono ?_); rintro e _ ⟨rfl, y4, rfl⟩)
        go_ret2
        exact ⟨by rw [HT2.out, HK.out, ← HN.out]; rfl, HG.out.ext _⟩
      | succ d =>
        have ec : ((d + 1 : Nat) : Int) = (d : Int) + 1 := by omega
        rw [ec]
        have es : idx + 1 + ((d : Int) + 1) - 1 = idx + 1 + d := by omega
        cases hb : mtB idx term L (idx + 1 + d) t
        · have HY := hid (down_no idx term L t d hb)
          have HC := fun (y : Ext wr) => hid ((match_any base g idx term (idx + 1 + d) t L v y.val (H.out.gr (HG.out.ext y)) (by omega)).mono (R' := RetE (.bool false) y.val) (fun _ _ h => by rwa [hb] at h))
          clear hb
          go_wp2_with (first | (go_at_call 21; (with_reducible refine (first_any base g idx term L v _ (H.out.gr HG.out)).mono ?_); rintro e _ ⟨rfl, y4, rfl⟩) | (go_at_call 16; (with_reducible refine (calls_ext _ (HC y4).out).mono ?_); rintro e _ ⟨rfl, y5, rfl⟩))
          go_ret2
          exact ⟨by rw [HT2.out, HK.out, ← HN.out, HY.out, ec, Int.add_assoc]; rfl, HG.out.ext _⟩
        · have HY := hid (down_yes idx term L t d hb)
          have HC := fun (y : Ext wr) => hid ((match_any base g idx term (idx + 1 + d) t L v y.val (H.out.gr (HG.out.ext y)) (by omega)).mono (R' := RetE (.bool true) y.val) (fun _ _ h => by rwa [hb] at h))
          clear hb
          go_wp2_with (first | (go_at_call 21; (with_reducible refine (first_any base g idx term L v _ (H.out.gr HG.out)).mono ?_); rintro e _ ⟨rfl, y4, rfl⟩) | (go_at_call 16; (with_reducible refine (calls_ext _ (HC y4).out).mono ?_); rintro e _ ⟨rfl, y5, rfl⟩))
          go_roundw
          case rel => exact ⟨d, by omega, rfl, by rw [← HN.out, HY.out], HG.out.ext _⟩
          case measure => simp [intOf]; omega
  · have HK := hid (show hintK idx term L i = i by unfold hintK; rw [if_neg e1, if_neg e2, ht, if_neg h0])
    have HT2 := hid (HT.out.trans ht)
    clear ht hb
    go_enter Try.func20, Try.ntmps20
    go_wp2_with (first | (go_at_call 11; (with_reducible refine (last_any base g idx term L v _ H.out).mono ?_); rintro e _ ⟨rfl, y1, rfl⟩) | (go_at_call 22; (with_reducible refine (calls_ext _ (HM y1).out).mono ?_); rintro e _ ⟨rfl, y2, rfl⟩) | (go_at_call 21; (with_reducible refine (calls_ext _ (first_any base g idx term L v _ (H.out.gr (Ext.gr _)))).mono ?_); rintro e _ ⟨rfl, y3, rfl⟩))
    refine wp_loop_rounds 1 ?_
    rw [rounds_succ]
    go_wp2_with fail
    go_ret2
    exact ⟨by rw [HT2.out, HK.out]; rfl, Ext.gr _⟩
end Go.Proofs.Ythiahnpijdkboaa
