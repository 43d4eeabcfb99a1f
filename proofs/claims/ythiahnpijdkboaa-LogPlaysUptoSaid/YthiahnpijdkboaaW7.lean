import Derived.Test.YthiahnpijdkboaaW6
import Derived.Deep.RegionLawGrows
namespace Go.Proofs.Ythiahnpijdkboaa
open Go.RowKit Go.Ext Go.BigFrame
attribute [local go_sem] Ext.cell Ext.frozen Ext.lt Ext.le s1 s2 s3 s4 s5 s6 t1 t2 t3 t4 t5 t6
attribute [local go_sem ↓] Go.wp_at_zero Go.wp_at_succ

theorem tm_lo {idx i : Int} {n : Nat} (h : tmB idx n i = true) : idx ≤ i ∧ i ≤ idx + n := of_decide_eq_true h
theorem mt_tm {idx term i t : Int} {L : List Ent} (h : mtB idx term L i t = true) : tmB idx L.length i = true := by
  unfold mtB at h
  cases hb : tmB idx L.length i
  · rw [hb] at h; cases h
  · rfl

set_option maxHeartbeats 1000000 in
theorem merge_bad (base g : Nat) (idx term i : Int) (L : List Ent) (v : Value) (A : Option Addr) (c : Nat) (l : List Ent) (w : World) (h : LogAt base w g idx term L v) (hm : i ≤ 9223372036854775807) (hs : Sl base w A l) (hl : l.length ≤ 4398046511103)
    (hb : tmB idx L.length i = false ∨ rs (tmT idx term L i) l = false) :
    Calls Try.prog 17 #[.pointer (some ⟨g, 0, none⟩), .int .i64 i, .slice A l.length c] w (RetE (.tuple #[.int .i64 0, .slice none 0 0, .int .i64 6]) w) := by
  refine retE ?_
  have H := hid h
  have HS := hid hs
  clear h hs
  obtain ⟨t, ht⟩ : ∃ t, tmT idx term L i = t := ⟨_, rfl⟩
  obtain ⟨b, hbb⟩ : ∃ b, tmB idx L.length i = b := ⟨_, rfl⟩
  have HM := hid ((term_any base g idx term i L v w H.out hm).mono (R' := RetE (.tuple #[.int .i64 t, .bool b]) w) (fun _ _ h => by rwa [ht, hbb] at h))
  rw [ht, hbb] at hb
  clear ht hbb
  cases b
  · clear hb
    go_enter Try.func17, Try.ntmps17
    go_wp2_with (go_at_call 22; (with_reducible refine HM.out.mono ?_); rintro e _ ⟨rfl, y1, rfl⟩)
    go_ret3
    exact ⟨rfl, y1.gr⟩
  · have hr := hid (show rs t l = false by rcases hb with h | h; · cases h
                                           · exact h)
    clear hb
    have HR := fun (y : Ext w) => hid ((rises_any base t A c l y.val (HS.out.gr y.gr) hl).mono (R' := RetE (.bool false) y.val) (fun _ _ h => by rwa [hr.out] at h))
    go_enter Try.func17, Try.ntmps17
    go_wp2_with (first | (go_at_call 22; (with_reducible refine HM.out.mono ?_); rintro e _ ⟨rfl, y1, rfl⟩) | (go_at_call 27; (with_reducible refine (calls_ext _ (HR y1).out).mono ?_); rintro e _ ⟨rfl, y2, rfl⟩))
    go_ret3
    exact ⟨rfl, y2.gr⟩

theorem getD_drop (l : List Ent) (k j : Nat) : (l.drop k).getD j (0, []) = l.getD (k + j) (0, []) := by simp [List.getD, List.getElem?_drop]
theorem Ents.drop {base : Nat} {w : World} {xs : List Value} {L : List Ent} (h : Ents base w xs L) (k : Nat) : Ents base w (xs.drop (k * 2)) (L.drop k) := by
  refine ⟨by simp [h.1, Nat.sub_mul], fun i hi => ?_⟩
  rw [List.length_drop] at hi
  obtain ⟨e1, d, e2, e3⟩ := h.2 (k + i) (by omega)
  rw [getD_drop]
  refine ⟨by rw [List.getElem?_drop, ← e1]; congr 1; omega, d, by rw [List.getElem?_drop, ← e2]; congr 1; omega, e3⟩
theorem Ents.take {base : Nat} {w : World} {xs : List Value} {L : List Ent} (h : Ents base w xs L) (k : Nat) (hk : k ≤ L.length) : Ents base w (xs.take (k * 2)) (L.take k) := by
  have hx := h.1
  refine ⟨by simp [h.1], fun i hi => ?_⟩
  rw [List.length_take] at hi
  obtain ⟨e1, d, e2, e3⟩ := h.2 i (by omega)
  have g : (L.take k).getD i (0, []) = L.getD i (0, []) := by simp only [List.getD, List.getElem?_take]; rw [if_pos (by omega)]
  rw [g]
  refine ⟨by rw [List.getElem?_take, if_pos (by omega)]; exact e1, d, by rw [List.getElem?_take, if_pos (by omega)]; exact e2, e3⟩
theorem Ents.append {base : Nat} {w : World} {xs ys : List Value} {L M : List Ent} (h : Ents base w xs L) (k : Ents base w ys M) : Ents base w (xs ++ ys) (L ++ M) := by
  have hx := h.1
  refine ⟨by simp [h.1, k.1]; omega, fun i hi => ?_⟩
  rw [List.length_append] at hi
  by_cases hlt : i < L.length
  · obtain ⟨e1, d, e2, e3⟩ := h.2 i hlt
    have g : (L ++ M).getD i (0, []) = L.getD i (0, []) := by simp [List.getD, List.getElem?_append_left hlt]
    rw [g]
    exact ⟨by rw [List.getElem?_append_left (by omega)]; exact e1, d, by rw [List.getElem?_append_left (by omega)]; exact e2, e3⟩
  · obtain ⟨e1, d, e2, e3⟩ := k.2 (i - L.length) (by omega)
    have g : (L ++ M).getD i (0, []) = M.getD (i - L.length) (0, []) := by simp [List.getD, List.getElem?_append_right (show L.length ≤ i by omega)]
    rw [g]
    refine ⟨by rw [List.getElem?_append_right (by omega), ← e1]; congr 1; omega, d, by rw [List.getElem?_append_right (by omega), ← e2]; congr 1; omega, e3⟩
/-- The rest of a slice. -/
theorem Sl.drop {base : Nat} {w : World} {b off : Nat} {L : List Ent} (h : Sl base w (some ⟨b, off, none⟩) L) (k : Nat) : Sl base w (some ⟨b, off + k * 2, none⟩) (L.drop k) := by
  obtain ⟨xs, h1, h2⟩ := h
  refine ⟨xs.drop (k * 2), fun hn => ?_, h2.drop k⟩
  obtain ⟨b', off', e, hc⟩ := h1 (by rintro rfl; simp at hn)
  injection e with e
  injection e with e1 e2
  subst e1 e2
  exact ⟨b, off + k * 2, rfl, fun j u hu => by rw [List.getElem?_drop] at hu; rw [Nat.add_assoc]; exact hc _ u hu⟩

set_option maxHeartbeats 2000000 in
theorem merge_all (base g : Nat) (idx term i : Int) (L : List Ent) (v : Value) (A : Option Addr) (c : Nat) (l : List Ent) (w : World) (h : LogAt base w g idx term L v) (hs : Sl base w A l) (hl : l.length ≤ 4398046511103)
    (hb : tmB idx L.length i = true) (hr : rs (tmT idx term L i) l = true) (hall : ∀ j, j < l.length → mtB idx term L (i + 1 + j) (l.getD j (0, [])).1 = true) :
    Calls Try.prog 17 #[.pointer (some ⟨g, 0, none⟩), .int .i64 i, .slice A l.length c] w (RetE (.tuple #[.int .i64 0, .slice none 0 0, .int .i64 0]) w) := by
  refine retE ?_
  have b1 := tm_lo hb
  have b2 := h.i0
  have b3 := h.i1
  have b4 := h.len
  have H := hid h
  have HS := hid hs
  have HA := hid hall
  clear h hs hall
  obtain ⟨t, ht⟩ : ∃ t, tmT idx term L i = t := ⟨_, rfl⟩
  have HM := hid ((term_any base g idx term i L v w H.out (by omega)).mono (R' := RetE (.tuple #[.int .i64 t, .bool true]) w) (fun _ _ h => by rwa [ht, hb] at h))
  have HR := fun (y : Ext w) => hid ((rises_any base t A c l y.val (HS.out.gr y.gr) hl).mono (R' := RetE (.bool true) y.val) (fun _ _ h => by rwa [← ht, hr] at h))
  clear ht hb hr
  go_enter Try.func17, Try.ntmps17
  go_wp2_with (first | (go_at_call 22; (with_reducible refine HM.out.mono ?_); rintro e _ ⟨rfl, y1, rfl⟩) | (go_at_call 27; (with_reducible refine (calls_ext _ (HR y1).out).mono ?_); rintro e _ ⟨rfl, y2, rfl⟩))
  go_loopw [11, 12, 13, 31] (fun _ _ _ i wr => ∃ k : Nat, k ≤ l.length ∧ i = .int .i64 k ∧ Gr w wr) (fun _ _ _ i _ => l.length - (intOf i).toNat)
  case atStart => exact ⟨0, Nat.zero_le _, rfl, y2.gr⟩
  case round =>
    obtain ⟨k, hk, rfl, hg⟩ := hrel
    have HG := hid hg
    clear hg
    by_cases hlt : k < l.length
    · obtain ⟨b, off, D, c', rfl, c1, c2, c3, c4⟩ := (HS.out.gr HG.out).at_ hlt
      have hmt := HA.out k hlt
      clear c3
      generalize (l.getD k (0, [])).1 = ek at *
      generalize (l.getD k (0, [])).2.length = dk at *
      have b5 := tm_lo (mt_tm hmt)
      have HC := fun (W : World) (hW : Gr wr W) => hid ((match_any base g idx term (i + 1 + k) ek L v W (H.out.gr (HG.out.trans hW)) (by omega)).mono (R' := RetE (.bool true) W) (fun _ _ h => by rwa [hmt] at h))
      clear hmt
      go_wp2_with (go_at_call 16; (with_reducible refine (HC _ ((Gr.refl _).alloc _)).out.mono ?_); rintro e _ ⟨rfl, y4, rfl⟩)
      go_roundw
      case rel => exact ⟨k + 1, by omega, by go_num, (HG.out.alloc _).ext _⟩
      case measure => simp [intOf]; omega
    · have : k = l.length := by omega
      subst this
      go_wp2_with fail
      go_ret3
      exact ⟨rfl, HG.out⟩
end Go.Proofs.Ythiahnpijdkboaa
