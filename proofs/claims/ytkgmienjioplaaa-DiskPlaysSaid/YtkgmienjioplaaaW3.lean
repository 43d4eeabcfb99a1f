import Derived.Test.YtkgmienjioplaaaW2
namespace Go.Proofs.Ytkgmienjioplaaa
open Go.RowKit Go.Ext Go.BigFrame
attribute [local go_sem] Ext.cell Ext.frozen Ext.lt Ext.le s1 s2 s3 s4 s5 s6 t1 t2 t3 t4 t5 t6
attribute [local go_sem ↓] Go.wp_at_zero Go.wp_at_succ

section
variable {w w' : World} {g kb : Nat} {off : Bool} {armed : Int} {keep : Value} {sz n : Nat} {pend : Value} {writes : Int}

/-- What a call is answered ahead of all. -/
def chk (off : Bool) (S : Nat) (i : Int) (ok : Bool) : Int := if off then 5 else if i < 0 ∨ (S : Int) ≤ i ∨ ok = false then 1 else 0

set_option maxHeartbeats 1000000 in
theorem check_any (S : Nat) (i : Int) (ok : Bool) (h : DB w g kb off armed keep sz n pend writes) (hS : n = S * sz) (hz : 0 < sz) (hb : n ≤ 16777216) :
    Calls Try.prog 29 #[.pointer (some ⟨g, 0, none⟩), .int .i64 i, .bool ok] w (RetE (.int .i64 (chk off S i ok)) w) := by
  refine retE ?_
  have H := hid h
  clear h
  have CS := hid (shape_any S H.out hS hz hb)
  have CO := fun (y : Ext w) => hid (off_any (H.out.gr y.gr))
  cases off
  · by_cases h1 : i < 0
    · have E := hid (show chk false S i ok = 1 by unfold chk; rw [if_neg (by simp), if_pos (.inl h1)])
      go_enter Try.func29, Try.ntmps29
      go_wp2_with (first | (go_at_call 28; (with_reducible refine CS.out.mono ?_); rintro e _ ⟨rfl, y1, rfl⟩) | (go_at_call 21; (with_reducible refine (CO y1).out.mono ?_); rintro e _ ⟨rfl, y2, rfl⟩))
      go_ret
      exact ⟨by rw [E.out]; rfl, y1.gr.trans y2.gr⟩
    · by_cases h2 : (S : Int) ≤ i
      · have E := hid (show chk false S i ok = 1 by unfold chk; rw [if_neg (by simp), if_pos (.inr (.inl h2))])
        go_enter Try.func29, Try.ntmps29
        go_wp2_with (first | (go_at_call 28; (with_reducible refine CS.out.mono ?_); rintro e _ ⟨rfl, y1, rfl⟩) | (go_at_call 21; (with_reducible refine (CO y1).out.mono ?_); rintro e _ ⟨rfl, y2, rfl⟩))
        go_ret
        exact ⟨by rw [E.out]; rfl, y1.gr.trans y2.gr⟩
      · cases ok
        · have E := hid (show chk false S i false = 1 by unfold chk; rw [if_neg (by simp), if_pos (.inr (.inr rfl))])
          go_enter Try.func29, Try.ntmps29
          go_wp2_with (first | (go_at_call 28; (with_reducible refine CS.out.mono ?_); rintro e _ ⟨rfl, y1, rfl⟩) | (go_at_call 21; (with_reducible refine (CO y1).out.mono ?_); rintro e _ ⟨rfl, y2, rfl⟩))
          go_ret
          exact ⟨by rw [E.out]; rfl, y1.gr.trans y2.gr⟩
        · have E := hid (show chk false S i true = 0 by unfold chk; rw [if_neg (by simp), if_neg (by rintro (h | h | h); exact h1 h; exact h2 h; cases h)])
          go_enter Try.func29, Try.ntmps29
          go_wp2_with (first | (go_at_call 28; (with_reducible refine CS.out.mono ?_); rintro e _ ⟨rfl, y1, rfl⟩) | (go_at_call 21; (with_reducible refine (CO y1).out.mono ?_); rintro e _ ⟨rfl, y2, rfl⟩))
          go_ret
          exact ⟨by rw [E.out]; rfl, y1.gr.trans y2.gr⟩
  · have E := hid (show chk true S i ok = 5 by unfold chk; rw [if_pos rfl])
    go_enter Try.func29, Try.ntmps29
    go_wp2_with (first | (go_at_call 28; (with_reducible refine CS.out.mono ?_); rintro e _ ⟨rfl, y1, rfl⟩) | (go_at_call 21; (with_reducible refine (CO y1).out.mono ?_); rintro e _ ⟨rfl, y2, rfl⟩))
    go_ret
    exact ⟨by rw [E.out]; rfl, y1.gr.trans y2.gr⟩

set_option maxHeartbeats 1000000 in
/-- Where a sector lies. -/
theorem place_any (S i : Nat) (h : DB w g kb off armed keep sz n pend writes) (hS : n = S * sz) (hi : i < S) (hb : n ≤ 16777216) (hz : 0 < sz) :
    Calls Try.prog 35 #[.pointer (some ⟨g, 0, none⟩), .int .i64 i] w (RetE (.slice (some ⟨kb, i * sz, none⟩) sz sz) w) := by
  refine retE ?_
  have c3 := h.cell 3
  have c4 := h.cell 4
  have hlt := h.lt
  simp at c3 c4
  clear h
  have h1 : i * sz + sz ≤ n := by
    rw [hS, ← Nat.succ_mul]
    exact Nat.mul_le_mul_right _ hi
  obtain ⟨p, hp⟩ : ∃ p, i * sz = p := ⟨_, rfl⟩
  have hm : (i : Int) * (sz : Int) = (p : Int) := by rw [← hp, Int.natCast_mul]
  have hm2 : (sz : Int) * (i : Int) = (p : Int) := by rw [Int.mul_comm]; exact hm
  rw [hp] at h1 ⊢
  clear hS hp
  go_enter Try.func35, Try.ntmps35
  go_wp2_with fail
  refine wp_region_ext (by kernel_rfl) (by kernel_rfl) ?_
  repeat (go_big_quiet_step (fail))
  refine wpQuiet_nil ?_
  rintro _ ⟨x, rfl⟩
  go_wp2_with fail
  go_ret
  refine ⟨?_, x.gr⟩
  show Ending.returned (.slice _ (p + sz - p) (p + sz - p)) = _
  rw [show p + sz - p = sz by omega]

/-- A disk's block after it is written to. -/
theorem DB.kp {T : Nat → TypeId → Bool} {base i : Nat} (h : DB w g kb off armed keep sz n pend writes) (hlo : base ≤ g) (hT : T g 35 = false) (u : Value) : Kp T base w (w.setCell ⟨g, i, none⟩ u) := by
  refine Kp.set (Kp.refl _ _ _) ?_ _
  rintro ⟨_, h1 | ⟨cs, t, fz, h1, h2⟩⟩
  · have : g < base := h1
    omega
  · rw [h] at h1
    injection h1 with h1
    injection h1 with _ ht _
    subst ht
    rw [hT] at h2
    cases h2
theorem DB.set0 (h : DB w g kb off armed keep sz n pend writes) (b : Bool) : DB (w.setCell ⟨g, 0, none⟩ (.bool b)) g kb b armed keep sz n pend writes := heap_set _ _ 0 _ _ _ _ h
theorem DB.set1 (h : DB w g kb off armed keep sz n pend writes) (a : Int) : DB (w.setCell ⟨g, 1, none⟩ (.int .i64 a)) g kb off a keep sz n pend writes := heap_set _ _ 1 _ _ _ _ h
theorem DB.set2 (h : DB w g kb off armed keep sz n pend writes) (v : Value) : DB (w.setCell ⟨g, 2, none⟩ v) g kb off armed v sz n pend writes := heap_set _ _ 2 _ _ _ _ h
theorem DB.set5 (h : DB w g kb off armed keep sz n pend writes) (v : Value) : DB (w.setCell ⟨g, 5, none⟩ v) g kb off armed keep sz n v writes := heap_set _ _ 5 _ _ _ _ h
theorem DB.set6 (h : DB w g kb off armed keep sz n pend writes) (a : Int) : DB (w.setCell ⟨g, 6, none⟩ (.int .i64 a)) g kb off armed keep sz n pend a := heap_set _ _ 6 _ _ _ _ h

/-- It has only written to the disk's own block. -/
def RetD (p : World → Prop) (g : Nat) (v : Value) (w : World) (e : Ending) (w' : World) : Prop := e = .returned v ∧ p w' ∧ Mod (fun b => b = g) w w'

theorem on_any (h : DB w g kb off armed keep sz n pend writes) : Calls Try.prog 12 #[.pointer (some ⟨g, 0, none⟩)] w (RetD (fun w' => DB w' g kb false armed keep sz n pend writes) g (.tuple #[]) w) := by
  have c0 := h.cell 0
  have f0 := h.frozen 0
  have hlt := h.lt
  simp at c0
  have H := hid h
  clear h
  go_enter Try.func12, Try.ntmps12
  go_wp2_with fail
  refine bodyPost_ret (results_none rfl _ _ _) rfl ?_
  exact ⟨rfl, H.out.set0 false, ((Gr.refl w).mod (fun b => b = g)).set (fun _ => rfl) _⟩

set_option maxHeartbeats 1000000 in
theorem goes_any (h : DB w g kb off armed keep sz n pend writes) (ha : 0 ≤ armed) (hb : armed ≤ 9223372036854775807) : Calls Try.prog 30 #[.pointer (some ⟨g, 0, none⟩)] w
    (RetD (fun w' => DB w' g kb off (if armed = 1 then 1 else if armed = 0 then 0 else armed - 1) keep sz n pend writes) g (.bool (decide (armed = 1))) w) := by
  have c0 := h.cell 1
  have f0 := h.frozen 1
  have hlt := h.lt
  simp at c0
  have H := hid h
  clear h
  by_cases h1 : armed = 1
  · subst h1
    go_enter Try.func30, Try.ntmps30
    go_wp2_with fail
    go_ret
    exact ⟨rfl, H.out, (Gr.refl w).mod _⟩
  · by_cases h0 : armed = 0
    · subst h0
      go_enter Try.func30, Try.ntmps30
      go_wp2_with fail
      go_ret
      exact ⟨rfl, H.out.set1 0, ((Gr.refl w).mod (fun b => b = g)).set (fun _ => rfl) _⟩
    · have e1 : (if armed = 1 then 1 else if armed = 0 then 0 else armed - 1) = armed - 1 := by rw [if_neg h1, if_neg h0]
      rw [e1, decide_eq_false h1]
      clear e1
      have h1' : (armed == 1) = false := by simpa using h1
      have h2 : 1 < armed := by omega
      go_enter Try.func30, Try.ntmps30
      go_wp2_with fail
      go_ret
      exact ⟨rfl, H.out.set1 _, ((Gr.refl w).mod (fun b => b = g)).set (fun _ => rfl) _⟩
end
end Go.Proofs.Ytkgmienjioplaaa
