import Derived.Test.YthiahnpijdkboaaQ1
namespace Go.Proofs.Ythiahnpijdkboaa
open Go.RowKit Go.Ext Go.BigFrame
attribute [local go_sem] Ext.cell Ext.frozen Ext.lt Ext.le s1 s2 s3 s4 s5 s6 t1 t2 t3 t4 t5 t6
attribute [local go_sem ↓] Go.wp_at_zero Go.wp_at_succ

def RetO (base g : Nat) (idx term : Int) (L : List Ent) (r : Value) (w : World) (e : Ending) (w' : World) : Prop := e = .returned r ∧ O base w' g idx term L ∧ MY ZO base w w'
def RetT (base g : Nat) (idx term : Int) (L : List Ent) (r : Value) (w : World) (e : Ending) (w' : World) : Prop := e = .returned r ∧ R base w' g idx term L ∧ MY ZT base w w'

set_option maxRecDepth 100000 in
set_option maxHeartbeats 2000000 in
theorem add_any (base g : Nat) (idx term : Int) (L l : List Ent) (A : Option Addr) (c : Nat) (w : World) (h : O base w g idx term L) (hs : Sl base w A l) (hl : L.length + l.length ≤ 4398046511103) (hbase : base ≤ w.heap.size) :
    Calls Try.prog 33 #[.pointer (some ⟨g, 0, none⟩), .slice A l.length c] w (RetO base g idx term (L ++ l) (.int .i64 (idx + (L ++ l).length)) w) := by
  obtain ⟨v, h⟩ := h
  have hlt := h.lt
  have b2 := h.i0
  have b3 := h.i1
  have H := hid h
  have HS := hid hs
  obtain ⟨Av, cv, rfl, _, _⟩ := h.slice
  have k2 : w.cell? ⟨g, 2, none⟩ = some (.slice Av L.length cv) := by have := h.cell 2; simpa using this
  obtain ⟨i0, hi0, hz0, hz1, hz2⟩ := info_parts info46
  obtain ⟨ys, hy, he⟩ := h.row
  have HY := hid hy
  have HE := hid he
  clear h hs hy he
  go_enter Try.func33, Try.ntmps33
  go_wp2_with fail
  refine wp_region_noPanic ?_
  refine wp_region_planM [(0, false), (1, false), (2, false), (3, false), (4, false), (5, false), (6, true), (7, true), (8, false), (9, false), (10, true)] (fun w' => w'.cell? ⟨g, 2, none⟩ = some (.slice Av L.length cv)) (by kernel_rfl) (by kernel_rfl) (fun _ _ _ _ _ h => h) k2 (fun hHeld => ?_)
  iterate 6 (refine pm_take (v := ?_) rfl (by rfl) ?_ ?_; rotate_left; (focus (intro W9 hW9; (try dsimp only at hW9); go_simp; (try with_reducible rfl); done)); (try simp only [Act.put, List.setIfInBounds_toArray, List.set_cons_zero, List.set_cons_succ]))
  refine pm_call rfl (by rfl) (fun K hK => ?_)
  go_simp
  go_at_call 28
  refine (twins_any base A c l w.drew (HS.out.gr (Gr.refl w).drew) (by omega) hbase).mono ?_
  rintro e _ ⟨v7, y7, rfl, rfl, ho7⟩
  have G7 := hid (show Gr w y7.val from (Gr.refl w).drew.trans y7.gr)
  generalize y7.val = w7 at *
  obtain ⟨A7, c7, rfl⟩ := ho7.shape
  obtain ⟨ys7, hy7, he7⟩ := id ho7
  have HY7 := hid hy7
  have HE7 := hid he7
  have hn7 : A7 = none → l.length = 0 ∧ c7 = 0 := fun e => by
    subst e
    rcases hy7.2 with ⟨e1, h0⟩ | ⟨_, _, _, e1, _⟩
    · injection e1 with _ _ e2; exact ⟨h0, e2⟩
    · injection e1 with e1; cases e1
  have HN7 := hid hn7
  refine hK.out _ _ _ ((G7.out.cell (p := ⟨g, 2, none⟩) hlt).trans k2) (fun _ h => h) (fun _ => ?_)
  clear hK K ho7 hy7 he7 hHeld hn7
  (try simp only [Act.put, List.setIfInBounds_toArray, List.set_cons_zero, List.set_cons_succ])
  refine pm_law rfl (by rfl) (fun K hK => ?_)
  refine step_append_any (by rfl) (.tmp 11) (.tmp 13) 22 (by rfl) base 46 i0 _ 2 32 Try.underlying22 hi0 hz0 hz1 hz2 rfl (by decide) none22 (.slice Av L.length cv) L.length ys (by rfl) (own_gr HY.out G7.out) A7 l.length c7 ys7 (by rfl) HE7.out.1 (Rd.of_own HY7.out) HN7.out (ents_one HE7.out) (by unfold maxLen; omega) (by omega) (Nat.le_trans hbase G7.out.size) ?_
  intro v8 w8 hown8 hgrow8
  obtain ⟨A8, c8, rfl⟩ : ∃ A8 c8, v8 = .slice A8 (L.length + l.length) c8 := by
    rcases hown8.2 with ⟨rfl, h0⟩ | ⟨_, _, _, rfl, _⟩
    · exact ⟨none, 0, by rw [h0]⟩
    · exact ⟨_, _, rfl⟩
  have HO8 := hid hown8
  have M8 := hid (show Mod (fun b => b = g ∨ (Value.slice Av L.length cv).ownBlock = some b) w w8 from (G7.out.mod _).trans (mod_grown hgrow8) (fun _ _ e => .inr e.symm))
  have hHB8 : w8.heap[g]? = w.heap[g]? := by
    rw [hgrow8.block g (Nat.lt_of_lt_of_le hlt G7.out.size) (fun e => by
      have := IsT.ne (own_typ HY.out e.symm).2 ⟨_, _, H.out.blk⟩
      cases this)]
    exact G7.out.block g hlt
  have HB8 := hid hHB8
  have hk8 : Kp TB base w7 w8 := Kp.grown (Kp.refl _ _ _) hgrow8 (own_not_imm (own_gr HY.out G7.out) (Nat.le_refl _) rfl)
  have HK8 := hid hk8
  have gc8 : w8.cell? ⟨g, 2, none⟩ = some (.slice Av L.length cv) := by have := cell_of_row w8 g 2 _ 65 (0, 0) (HB8.out.trans H.out.blk); simpa using this
  have gf8 : w8.frozen? ⟨g, 2, none⟩ = false := by simp [World.frozen?, HB8.out.trans H.out.blk]
  have hg8 : g < w8.heap.size := Nat.lt_of_lt_of_le hlt M8.out.size
  refine hK.out _ _ _ gc8 (fun _ h => h) (fun _ => ?_)
  clear hK K hown8 hgrow8 hHB8 hk8
  (try simp only [Act.put, List.setIfInBounds_toArray, List.set_cons_zero, List.set_cons_succ])
  iterate 2 (refine pm_take (v := ?_) rfl (by rfl) ?_ ?_; rotate_left; (focus (intro W9 hW9; (try dsimp only at hW9); go_simp; (try with_reducible rfl); done)); (try simp only [Act.put, List.setIfInBounds_toArray, List.set_cons_zero, List.set_cons_succ]))
  refine pm_last rfl (by rfl) (fun K hK => ?_)
  go_simp
  refine hK.out _ _ (NoPanic.normal ?_)
  clear hK K
  have hput := LogAt.putI (M := L ++ l) H.out HB8.out (by rw [List.length_append]; exact hl) (by rw [List.length_append]; exact HO8.out) (((HE.out.kp G7.out.kp).kp HK8.out).append (HE7.out.kp HK8.out))
  have HPUT := hid hput
  clear hput
  go_wp2_with (go_at_call 11; refine (last_any base g idx term (L ++ l) _ _ HPUT.out).mono ?_; rintro e _ ⟨rfl, y9, rfl⟩)
  go_ret
  exact ⟨by rw [List.length_append]; rfl, ⟨_, HPUT.out.gr y9.gr⟩, H.out.my ((M8.out.set (p := ⟨g, 2, none⟩) (fun _ => .inl rfl) _).gr y9.gr)⟩

theorem LogAt.clear {base g : Nat} {idx term i t : Int} {L : List Ent} {v : Value} {w : World} (h : LogAt base w g idx term L v) (h0 : 0 ≤ i) (h1 : i ≤ 1125899906842624) :
    LogAt base (((w.setCell ⟨g, 0, none⟩ (.int .i64 i)).setCell ⟨g, 1, none⟩ (.int .i64 t)).setCell ⟨g, 2, none⟩ (.slice none 0 0)) g i t [] (.slice none 0 0) := by
  have e1 := heap_set _ _ 0 _ _ _ (.int .i64 i) h.blk
  have e2 := heap_set _ _ 1 _ _ _ (.int .i64 t) e1
  have e3 := heap_set _ _ 2 _ _ _ (.slice none 0 0) e2
  exact ⟨by rw [e3]; rfl, h.lo, ⟨[], World.ownsRow_nil _ _ _ _, ents_nil _ _⟩, h0, h1, by simp⟩

set_option maxHeartbeats 2000000 in
theorem restore_any (base g : Nat) (idx term i t : Int) (L : List Ent) (w : World) (h : O base w g idx term L) (hi : idx < i) (him : i ≤ 1125899906842624) (hbase : base ≤ w.heap.size) :
    Calls Try.prog 37 #[.pointer (some ⟨g, 0, none⟩), .int .i64 i, .int .i64 t] w (RetO base g i t (restL idx term i t L) (.tuple #[]) w) := by
  obtain ⟨v, h⟩ := h
  have b2 := h.i0
  have b3 := h.i1
  have b4 := h.len
  have b6 := h.lt
  have H := hid h
  clear h
  cases hb : mtB idx term L i t
  · have hr : restL idx term i t L = [] := by unfold restL; rw [hb]; rfl
    rw [hr]
    have HM := hid ((match_any base g idx term i t L v w H.out (by omega)).mono (R' := RetE (.bool false) w) (fun _ _ h => by rwa [hb] at h))
    clear hb hr
    have g0 : w.cell? ⟨g, 0, none⟩ = some (.int .i64 idx) := by have := H.out.cell 0; simpa using this
    have g1 : w.cell? ⟨g, 1, none⟩ = some (.int .i64 term) := by have := H.out.cell 1; simpa using this
    have g2 : w.cell? ⟨g, 2, none⟩ = some v := by have := H.out.cell 2; simpa using this
    have f0 : w.frozen? ⟨g, 0, none⟩ = false := H.out.frozen 0
    have f1 : w.frozen? ⟨g, 1, none⟩ = false := H.out.frozen 1
    have f2 : w.frozen? ⟨g, 2, none⟩ = false := H.out.frozen 2
    go_enter Try.func37, Try.ntmps37
    go_wp2_with (go_at_call 16; (with_reducible refine HM.out.mono ?_); rintro e _ ⟨rfl, y, rfl⟩)
    refine bodyPost_ret (results_none rfl _ _ _) rfl ?_
    refine ⟨rfl, ⟨.slice none 0 0, ?_⟩, ?_⟩
    · exact (H.out.gr y.gr).clear (by omega) him
    · exact H.out.myg ((((y.gr.mod (fun b => b = g)).set (fun _ => rfl) _).set (fun _ => rfl) _).set (fun _ => rfl) _)
  · have hr : restL idx term i t L = L.drop (i - idx).toNat := by unfold restL; rw [hb]; rfl
    rw [hr]
    have hb2 := tm_lo (mt_tm hb)
    have ht : tmT idx term L i = t := mt_t hb
    obtain ⟨k, hk⟩ : ∃ k : Nat, i = idx + k := ⟨(i - idx).toNat, by omega⟩
    have HM := hid ((match_any base g idx term i t L v w H.out (by omega)).mono (R' := RetE (.bool true) w) (fun _ _ h => by rwa [hb] at h))
    have HC := fun (y : Ext w) => hid ((compact_any base g k idx term i L v y.val (H.out.gr y.gr) (by omega) (by omega) hk him (Nat.le_trans hbase y.gr.size)))
    rw [ht] at HC
    have hkk : (i - idx).toNat = k := by omega
    rw [hkk]
    clear hb hr ht hkk hk
    go_enter Try.func37, Try.ntmps37
    go_wp2_with (first | (go_at_call 16; (with_reducible refine HM.out.mono ?_); rintro e _ ⟨rfl, y, rfl⟩) | (go_at_call 23; (with_reducible refine (HC y).out.mono ?_); rintro e w2 ⟨v2, rfl, hR, hm⟩))
    refine bodyPost_ret (results_none rfl _ _ _) rfl ?_
    exact ⟨rfl, ⟨v2, hR⟩, H.out.myg (mod_gr y.gr hm)⟩

/-! ### The others, in one form -/
theorem addT_any (base g : Nat) (idx term : Int) (L l : List Ent) (A : Option Addr) (c : Nat) (w : World) (h : R base w g idx term L) (hs : Sl base w A l) (hl : L.length + l.length ≤ 4398046511103) (hbase : base ≤ w.heap.size) :
    Calls Try.prog 34 #[.pointer (some ⟨g, 0, none⟩), .slice A l.length c] w (RetT base g idx term (L ++ l) (.int .i64 (idx + (L ++ l).length)) w) := by
  obtain ⟨v, h⟩ := h
  by_cases h0 : l.length = 0
  · have hl0 : l = [] := List.eq_nil_of_length_eq_zero h0
    subst hl0
    refine (addR_nil base g idx term L v A c w h).mono ?_
    rintro e w' ⟨v', rfl, h1, m⟩
    rw [List.append_nil]
    exact ⟨rfl, ⟨v', h1⟩, h.my m⟩
  · refine (addR_any base g idx term L l v A c w h hs (by omega) hl hbase).mono ?_
    rintro e w' ⟨v', rfl, h1, m⟩
    exact ⟨rfl, ⟨v', h1⟩, h.my m⟩
theorem restoreT_any (base g : Nat) (idx term i t : Int) (L : List Ent) (w : World) (h : R base w g idx term L) (hi : idx < i) (him : i ≤ 1125899906842624) (hbase : base ≤ w.heap.size) :
    Calls Try.prog 38 #[.pointer (some ⟨g, 0, none⟩), .int .i64 i, .int .i64 t] w (RetT base g i t (restL idx term i t L) (.tuple #[]) w) := by
  obtain ⟨v, h⟩ := h
  refine (restoreR_any base g idx term i t L v w h hi him hbase).mono ?_
  rintro e w' ⟨v', rfl, h1, m⟩
  exact ⟨rfl, ⟨v', h1⟩, h.myg m⟩
/-- What Compact answers, leaves. -/
def okI (idx : Int) (L : List Ent) (i : Int) : Bool := decide (idx + 1 ≤ i) && decide (i ≤ idx + L.length)
def cI (idx : Int) (L : List Ent) (i : Int) : Int := if okI idx L i then i else idx
def cT (idx term : Int) (L : List Ent) (i : Int) : Int := if okI idx L i then tmT idx term L i else term
def cL (idx : Int) (L : List Ent) (i : Int) : List Ent := if okI idx L i then L.drop (i - idx).toNat else L
theorem okI_yes {idx i : Int} {L : List Ent} (h : okI idx L i = true) : idx + 1 ≤ i ∧ i ≤ idx + L.length := by
  unfold okI at h; simpa using h
theorem okI_no {idx i : Int} {L : List Ent} (h : okI idx L i = false) : i < idx + 1 ∨ idx + L.length < i := by
  unfold okI at h; simp at h; omega
theorem compactO_any (base g : Nat) (idx term i : Int) (L : List Ent) (w : World) (h : O base w g idx term L) (hb : idx + L.length ≤ 1125899906842624) (hbase : base ≤ w.heap.size) :
    Calls Try.prog 23 #[.pointer (some ⟨g, 0, none⟩), .int .i64 i] w (RetO base g (cI idx L i) (cT idx term L i) (cL idx L i) (.int .i64 (if okI idx L i then 0 else 1)) w) := by
  obtain ⟨v, h⟩ := h
  unfold cI cT cL
  cases ho : okI idx L i
  · refine (compact_bad base g idx term i L v w h (okI_no ho)).mono ?_
    rintro e _ ⟨rfl, y, rfl⟩
    exact ⟨rfl, ⟨v, h.gr y.gr⟩, MY.of_gr y.gr⟩
  · obtain ⟨h1, h2⟩ := okI_yes ho
    obtain ⟨k, hk⟩ : ∃ k : Nat, i = idx + k := ⟨(i - idx).toNat, by omega⟩
    have hkk : (i - idx).toNat = k := by omega
    rw [hkk]
    refine (compact_any base g k idx term i L v w h (by omega) (by omega) hk (by omega) hbase).mono ?_
    rintro e w' ⟨v', rfl, h1, m⟩
    exact ⟨rfl, ⟨v', h1⟩, h.myg m⟩
theorem compactT_any (base g : Nat) (idx term i : Int) (L : List Ent) (w : World) (h : R base w g idx term L) (hb : idx + L.length ≤ 1125899906842624) (hbase : base ≤ w.heap.size) :
    Calls Try.prog 36 #[.pointer (some ⟨g, 0, none⟩), .int .i64 i] w (RetT base g (cI idx L i) (cT idx term L i) (cL idx L i) (.int .i64 (if okI idx L i then 0 else 1)) w) := by
  obtain ⟨v, h⟩ := h
  unfold cI cT cL
  cases ho : okI idx L i
  · refine (compactR_bad base g idx term i L v w h (okI_no ho)).mono ?_
    rintro e _ ⟨rfl, y, rfl⟩
    exact ⟨rfl, ⟨v, h.gr y.gr⟩, MY.of_gr y.gr⟩
  · obtain ⟨h1, h2⟩ := okI_yes ho
    obtain ⟨k, hk⟩ : ∃ k : Nat, i = idx + k := ⟨(i - idx).toNat, by omega⟩
    have hkk : (i - idx).toNat = k := by omega
    rw [hkk]
    refine (compactR_any base g k idx term i L v w h (by omega) (by omega) hk (by omega) hbase).mono ?_
    rintro e w' ⟨v', rfl, h1, m⟩
    exact ⟨rfl, ⟨v', h1⟩, h.myg m⟩
end Go.Proofs.Ythiahnpijdkboaa
