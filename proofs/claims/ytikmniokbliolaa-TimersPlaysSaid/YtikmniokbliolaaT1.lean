import Derived.Test.YtikmniokbliolaaW1
import Derived.Maps.OwnOps
import Derived.Maps.Views
import Derived.Maps.OwnSet
namespace Go.Proofs.Ytikmniokbliolaa
open Go.RowKit Go.Ext Go.BigFrame Go.Maps
attribute [local go_sem] Ext.cell Ext.frozen Ext.lt Ext.le s1 s2 s3 s4 s5 s6 t1 t2 t3 t4 t5 t6
attribute [local go_sem ↓] Go.wp_at_zero Go.wp_at_succ

theorem lawI : Keyed Try.prog 3 := int_keyed Try.underlying3
theorem zeroB (w : World) : (zeroValue 4).run Try.prog w = .ok (.bool false) w := by kernel_rfl

def I64 (x : Int) : Prop := -9223372036854775808 ≤ x ∧ x ≤ 9223372036854775807
theorem I64.wf {x : Int} (h : I64 x) : (Lit.int .i64 x).wf = true := WalkArith.wf_i64 h

theorem plainElem_bool_inv {H : Type} {P : Program} {e : TypeId} (he : P.underlying e = some .bool) {v : Value} {z : DataW H × List MemPlace} (h : plainElem P e v = some z) : ∃ a, v = .bool a ∧ z = (.lit (.bool a), []) := by
  unfold plainElem at h
  cases v <;> simp_all

/-- The block is a map that tells of each number whether S holds. -/
def MB (w : World) (b n : Nat) (S : Int → Bool) : Prop :=
  ∃ D : DataW Empty, w.ownsMap Try.prog 3 (plainElem Try.prog 4) b n D ∧ ∀ x, I64 x → D.atKey (.int .i64 x) (.lit (.bool false)) = .lit (.bool (S x))
theorem MB.made (w : World) : MB (w.alloc (.map #[] 0)) w.heap.size 0 (fun _ => false) :=
  ⟨.map [], World.ownsMap_made _ _ _ _, fun _ _ => rfl⟩
theorem MB.gr {w w' : World} {b n : Nat} {S : Int → Bool} (h : MB w b n S) (g : w.grownBy w' none) : MB w' b n S := by
  obtain ⟨D, h1, h2⟩ := h
  exact ⟨D, h1.kept g (by simp), h2⟩
theorem MB.look {w : World} {b n : Nat} {S : Int → Bool} (h : MB w b n S) {x : Int} (hx : I64 x) : (Instr.lookup 62 (.map (some b)) (.int .i64 x) false).run Try.prog w = .ok (.bool (S x)) w := by
  obtain ⟨D, h1, h2⟩ := h
  obtain ⟨v, ps, hrun, hv⟩ := h1.lookup lawI Try.underlying62 (zeroB w) (zd := .lit (.bool false)) (zp := []) (plainElem_bool Try.underlying4 false) (keyOf_int_mk Try.underlying3 hx.wf)
  obtain ⟨a, rfl, e⟩ := plainElem_bool_inv Try.underlying4 hv
  rw [h2 x hx] at e
  injection e with e _
  injection e with e
  injection e with e
  rw [hrun, e]
theorem MB.put {w : World} {b n : Nat} {S : Int → Bool} {D : DataW Empty} {w0 : World} {n0 : Nat} (h1 : w0.ownsMap Try.prog 3 (plainElem Try.prog 4) b n0 D) (h2 : ∀ x, I64 x → D.atKey (.int .i64 x) (.lit (.bool false)) = .lit (.bool (S x))) {k : Int}
    (h : w.ownsMap Try.prog 3 (plainElem Try.prog 4) b n (D.put (.int .i64 k) (.lit (.bool true)))) (hk : I64 k) : MB w b n (fun x => decide (x = k) || S x) :=
  ⟨_, h, fun x hx => by
    by_cases e : x = k
    · subst e
      rw [atKey_put_same h1.isMap (by exact True.intro)]
      simp
    · rw [atKey_put_other (by intro e'; injection e' with _ e'; exact e e'), h2 x hx]
      simp [e]⟩

/-- Is it on the list? -/
def on (l : List Int) (x : Int) : Bool := l.any fun y => decide (y = x)
theorem on_nil (x : Int) : on [] x = false := rfl
theorem on_mem {l : List Int} {x : Int} : on l x = true ↔ x ∈ l := by simp [on]
theorem on_snoc (l : List Int) (k : Nat) (hk : k < l.length) (x : Int) : on (l.take (k + 1)) x = (decide (x = l.getD k 0) || on (l.take k) x) := by
  unfold on
  rw [List.take_succ_eq_append_getElem hk, List.any_append, Bool.or_comm]
  congr 1
  simp [List.getD, hk, eq_comm]

/-- As many numbers in a row are no more than the list is long. -/
theorem row_le : ∀ (m : Nat) (l : List Int) (a : Int), (∀ j, j < m → on l (a + 1 + (j : Nat)) = true) → m ≤ l.length
  | 0, _, _, _ => Nat.zero_le _
  | m + 1, l, a, h => by
    have h0 := on_mem.1 (h 0 (by omega))
    have h1 := row_le m (l.erase (a + 1 + (0 : Nat))) (a + 1) (fun j hj => by
      have := on_mem.1 (h (j + 1) (by omega))
      rw [on_mem, List.mem_erase_of_ne (by omega)]
      rwa [show a + 1 + 1 + (j : Nat) = a + 1 + ((j + 1 : Nat) : Int) by omega])
    rw [List.length_erase_of_mem h0] at h1
    have := List.length_pos_of_mem h0
    omega

/-- The level behind what was done. -/
def IsLev (l : List Int) (a r : Int) : Prop :=
  ((a < 0 ∨ 1099511627776 < a) ∧ r = a) ∨ (0 ≤ a ∧ a ≤ 1099511627776 ∧ ∃ k : Nat, r = a + k ∧ (∀ j, j < k → on l (a + 1 + (j : Nat)) = true) ∧ on l (a + 1 + (k : Nat)) = false)
theorem IsLev.eq {l : List Int} {a r r' : Int} (h : IsLev l a r) (h' : IsLev l a r') : r = r' := by
  rcases h with ⟨h1, rfl⟩ | ⟨h1, h2, k, rfl, h3, h4⟩
  · rcases h' with ⟨_, rfl⟩ | ⟨_, _, _, _, _, _⟩
    · rfl
    · omega
  · rcases h' with ⟨_, rfl⟩ | ⟨_, _, k', rfl, h3', h4'⟩
    · omega
    · have : k = k' := by
        rcases Nat.lt_trichotomy k k' with h | h | h
        · rw [h3' k h] at h4; cases h4
        · exact h
        · rw [h3 k' h] at h4'; cases h4'
      rw [this]

def RetI (p : Int → Prop) (w : World) (e : Ending) (w' : World) : Prop := ∃ r, ∃ y : Ext w, e = .returned (.int .i64 r) ∧ w' = y.val ∧ p r

set_option maxHeartbeats 1000000 in
theorem block_any (a : Int) (l : List Int) (v : Value) (w : World) (hv : Ints w v l) (hl : ∀ x ∈ l, I64 x) (hlen : l.length ≤ 1000) :
    Calls Try.prog 9 #[.int .i64 a, v] w (RetI (IsLev l a) w) := by
  obtain ⟨A, c, rfl, hl0, hr⟩ := hv
  have HR := hid hr
  have HL := hid hl
  have hmm := @run_makeMap Try.prog
  clear hr hl
  by_cases ha : a < 0
  · go_enter Try.func9, Try.ntmps9
    go_wp2_with fail
    go_ret
    exact ⟨a, ⟨w, Gr.refl _⟩, rfl, rfl, .inl ⟨.inl ha, rfl⟩⟩
  · by_cases hb : 1099511627776 < a
    · go_enter Try.func9, Try.ntmps9
      go_wp2_with fail
      go_ret
      exact ⟨a, ⟨w, Gr.refl _⟩, rfl, rfl, .inl ⟨.inr hb, rfl⟩⟩
    · go_enter Try.func9, Try.ntmps9
      go_wp2_with fail
      have M0 := hid (MB.made w)
      go_loopw [7, 19] (fun _ i wr => ∃ k : Nat, k ≤ l.length ∧ i = .int .i64 k ∧ Gr w wr ∧ MB wr w.heap.size k (on (l.take k))) (fun _ i _ => l.length - (intOf i).toNat)
      case atStart => exact ⟨0, Nat.zero_le _, rfl, (Gr.refl _).alloc _, M0.out⟩
      case round =>
        obtain ⟨k, hk, rfl, hg, D, hown, hD⟩ := hrel
        have HG := hid hg
        have HD := hid hD
        clear hg hD
        by_cases hlt : k < l.length
        · obtain ⟨b, off, rfl, hcs⟩ := HR.out (by rintro rfl; simp at hlt)
          have c1 := hcs k hlt
          rw [← HG.out.cell (World.block_lt_of_cell? w _ c1)] at c1
          have HX := hid (show I64 (l.getD k 0) from HL.out _ (by simp [List.getD, hlt]))
          have HS := hid (on_snoc l k hlt)
          clear hcs
          generalize l.getD k 0 = x at *
          go_wp2_with (at_mapUpdate; refine wpList_mapUpdate_own _ rfl _ _ _ 62 rfl 3 4 lawI Try.underlying62 _ w.heap.size k _ rfl hown (by unfold maxLen; omega) _ _ _ rfl rfl (keyOf_int_mk Try.underlying3 HX.out.wf) _ [] (plainElem_bool Try.underlying4 true) ?_; intro w1 hown1 hgrow1)
          go_roundw
          case rel => exact ⟨k + 1, by omega, by go_num, gr_grown HG.out hgrow1 (by intro r hr; injection hr with hr; omega), by
            obtain ⟨D', e1, e2⟩ := MB.put hown HD.out hown1 HX.out
            exact ⟨D', e1, fun y hy => by rw [e2 y hy, HS.out y]⟩⟩
          case measure => simp [intOf]; omega
        · have hke : k = l.length := by omega
          have HM := hid (show MB wr w.heap.size k (on l) from ⟨D, hown, fun y hy => by have := HD.out y hy; rwa [hke, List.take_length] at this⟩)
          clear hke hown HD
          go_wp2_with fail
          go_loopw [0, 8] (fun s n wr' => ∃ k : Nat, s = .int .i64 (a + k) ∧ n = .int .i64 (a + 1 + k) ∧ (∀ j, j < k → on l (a + 1 + (j : Nat)) = true) ∧ wr = wr') (fun s _ _ => l.length - (intOf s - a).toNat)
          case atStart => exact ⟨0, by simp, by go_num, fun j hj => absurd hj (by omega), rfl⟩
          case round =>
            obtain ⟨k, rfl, rfl, hall, rfl⟩ := hrel
            have HA := hid hall
            clear hall
            have hkl := row_le k l a HA.out
            cases hon : on l (a + 1 + (k : Nat))
            · have hlook := HM.out.look (x := a + 1 + (k : Nat)) ⟨by omega, by omega⟩
              rw [hon] at hlook
              have HON := hid hon
              clear hon
              have hgt : a + (k : Int) < a + 1 + (k : Int) := by omega
              go_wp2_with fail
              go_ret
              exact ⟨_, ⟨wr, HG.out⟩, rfl, rfl, .inr ⟨by omega, by omega, k, rfl, HA.out, HON.out⟩⟩
            · have hlook := HM.out.look (x := a + 1 + (k : Nat)) ⟨by omega, by omega⟩
              rw [hon] at hlook
              have HA2 := hid (show ∀ j, j < k + 1 → on l (a + 1 + (j : Nat)) = true from fun j hj => by
                rcases Nat.lt_or_ge j k with h | h
                · exact HA.out j h
                · rw [show j = k by omega]; exact hon)
              have hkl2 := row_le (k + 1) l a HA2.out
              clear hon
              have hgt : a + (k : Int) < a + 1 + (k : Int) := by omega
              go_wp2_with fail
              go_roundw
              case rel => exact ⟨k + 1, by go_num, by go_num, HA2.out, by first | rfl | trivial⟩
              case measure => simp [intOf]; omega

set_option maxHeartbeats 1000000 in
theorem blockR_any (a : Int) (l : List Int) (v : Value) (w : World) (hv : Ints w v l) (hlen : l.length ≤ 1000) :
    Calls Try.prog 10 #[.int .i64 a, v] w (RetI (IsLev l a) w) := by
  obtain ⟨A, c, rfl, hl0, hr⟩ := hv
  have HR := hid hr
  clear hr
  by_cases ha : a < 0
  · go_enter Try.func10, Try.ntmps10
    go_wp2_with fail
    go_ret
    exact ⟨a, ⟨w, Gr.refl _⟩, rfl, rfl, .inl ⟨.inl ha, rfl⟩⟩
  · by_cases hb : 1099511627776 < a
    · go_enter Try.func10, Try.ntmps10
      go_wp2_with fail
      go_ret
      exact ⟨a, ⟨w, Gr.refl _⟩, rfl, rfl, .inl ⟨.inr hb, rfl⟩⟩
    · go_enter Try.func10, Try.ntmps10
      go_wp2_with fail
      go_loopw [0, 5, 6, 7] (fun s i _ _ wr => ∃ k : Nat, k ≤ l.length ∧ s = .int .i64 (a + k) ∧ i = .int .i64 k ∧ (∀ j, j < k → on l (a + 1 + (j : Nat)) = true) ∧ w = wr) (fun _ i _ _ _ => l.length - (intOf i).toNat)
      case atStart => exact ⟨0, Nat.zero_le _, by simp, rfl, fun j hj => absurd hj (by omega), rfl⟩
      case round =>
        obtain ⟨k, hk, rfl, rfl, hall, rfl⟩ := hrel
        have HA := hid hall
        clear hall
        by_cases hlt : k < l.length
        · obtain ⟨b, off, rfl, hcs⟩ := HR.out (by rintro rfl; simp at hlt)
          have HC := hid hcs
          clear hcs
          go_wp2_with fail
          go_loopw [6, 7] (fun f i wr' => ∃ m : Nat, m ≤ l.length ∧ i = .int .i64 m ∧ f = .bool (on (l.take m) (a + 1 + (k : Nat))) ∧ w = wr') (fun _ i _ => l.length - (intOf i).toNat)
          case atStart => exact ⟨0, Nat.zero_le _, rfl, rfl, rfl⟩
          case round =>
            obtain ⟨m, hm, rfl, rfl, rfl⟩ := hrel
            by_cases hlt2 : m < l.length
            · have c1 := HC.out m hlt2
              have HS := hid (on_snoc l m hlt2 (a + 1 + (k : Nat)))
              generalize l.getD m 0 = x at *
              cases hon : on (l.take m) (a + 1 + (k : Nat))
              · have HON := hid hon
                clear hon
                go_wp2_with fail
                go_roundw
                case rel => exact ⟨m + 1, by omega, by go_num, by rw [HS.out, HON.out]; simp [eq_comm]; congr 1; omega, by first | rfl | trivial⟩
                case measure => simp [intOf]; omega
              · have HON := hid hon
                clear hon
                go_wp2_with fail
                go_roundw
                case rel => exact ⟨m + 1, by omega, by go_num, by rw [HS.out, HON.out]; simp, by first | rfl | trivial⟩
                case measure => simp [intOf]; omega
            · have hme : m = l.length := by omega
              have HT := hid (show on (l.take m) (a + 1 + (k : Nat)) = on l (a + 1 + (k : Nat)) by rw [hme, List.take_length])
              clear hme
              cases hon : on (l.take m) (a + 1 + (k : Nat))
              · have HON := hid hon
                clear hon
                go_wp2_with fail
                go_ret
                exact ⟨_, ⟨w, Gr.refl _⟩, rfl, rfl, .inr ⟨by omega, by omega, k, rfl, HA.out, by rw [← HT.out]; exact HON.out⟩⟩
              · have HA2 := hid (show ∀ j, j < k + 1 → on l (a + 1 + (j : Nat)) = true from fun j hj => by
                  rcases Nat.lt_or_ge j k with h | h
                  · exact HA.out j h
                  · rw [show j = k by omega, ← HT.out]; exact hon)
                clear hon
                go_wp2_with fail
                go_roundw
                case rel => exact ⟨k + 1, by omega, by go_num, by go_num, HA2.out, by first | rfl | trivial⟩
                case measure => simp [intOf]; omega
        · have hke : k = l.length := by omega
          have HKE := hid hke
          clear hke
          go_wp2_with fail
          go_ret
          exact ⟨_, ⟨w, Gr.refl _⟩, rfl, rfl, .inr ⟨by omega, by omega, k, rfl, HA.out, by
            cases hon : on l (a + 1 + (k : Nat))
            · rfl
            · have := row_le (k + 1) l a (fun j hj => by
                rcases Nat.lt_or_ge j k with h | h
                · exact HA.out j h
                · rw [show j = k by omega]; exact hon)
              have := HKE.out
              omega⟩⟩
end Go.Proofs.Ytikmniokbliolaa
