import Derived.Test.YtikmniokbliolaaRows
import Derived.Test.YtikmniokbliolaaMem
namespace Go.Proofs.Ytikmniokbliolaa
open Go.RowKit Go.Ext Go.BigFrame
attribute [local go_sem] Ext.cell Ext.frozen Ext.lt Ext.le s1 s2 s3 s4 s5 s6 t1 t2 t3 t4 t5 t6
attribute [local go_sem ↓] Go.wp_at_zero Go.wp_at_succ

/-- It returned a value of which p holds, in a grown world. -/
def RetP (p : World → Value → Prop) (w : World) (e : Ending) (w' : World) : Prop := ∃ v, ∃ y : Ext w, e = .returned v ∧ w' = y.val ∧ p y.val v

/-- The slice reads as these numbers. -/
def Ints (w : World) (v : Value) (xs : List Int) : Prop :=
  ∃ A c, v = .slice A xs.length c ∧ xs.length ≤ 17592186044416 ∧ (xs ≠ [] → ∃ b off, A = some ⟨b, off, none⟩ ∧ ∀ j, j < xs.length → w.cell? ⟨b, off + j, none⟩ = some (.int .i64 (xs.getD j 0)))
theorem Ints.gr {w w' : World} {v : Value} {xs : List Int} (h : Ints w v xs) (g : Gr w w') : Ints w' v xs := by
  obtain ⟨A, c, rfl, hl, hr⟩ := h
  refine ⟨A, c, rfl, hl, fun hn => ?_⟩
  obtain ⟨b, off, rfl, hc⟩ := hr hn
  exact ⟨b, off, rfl, fun j hj => (g.cell (World.block_lt_of_cell? w _ (hc j hj))).trans (hc j hj)⟩

/-- An item: six numbers. -/
abbrev It := Int × Int × Int × Int × Int × Int
def il (x : It) : List Int := [x.1, x.2.1, x.2.2.1, x.2.2.2.1, x.2.2.2.2.1, x.2.2.2.2.2]
def ic (x : It) : List Value := [.int .i64 x.1, .int .i64 x.2.1, .int .i64 x.2.2.1, .int .i64 x.2.2.2.1, .int .i64 x.2.2.2.2.1, .int .i64 x.2.2.2.2.2]
def iv (x : It) : Value := .agg #[.int .i64 x.1, .int .i64 x.2.1, .int .i64 x.2.2.1, .int .i64 x.2.2.2.1, .int .i64 x.2.2.2.2.1, .int .i64 x.2.2.2.2.2]

/-- The order of rows of numbers. -/
def cmpL : List Int → List Int → Int
  | [], [] => 0
  | [], _ :: _ => -1
  | _ :: _, [] => 1
  | x :: xs, y :: ys => if x < y then -1 else if y < x then 1 else cmpL xs ys
def cmp1 (x y : Int) : Int := if x < y then -1 else if y < x then 1 else 0

theorem nan_any (x : Int) (w : World) : Calls Try.prog 46 #[.int .i64 x] w (fun e w' => e = .returned (.bool false) ∧ w = w') := by
  go_enter Try.func46, Try.ntmps46
  go_wp2_with fail
  go_ret
  simp
theorem cmp_any (x y : Int) (w : World) : Calls Try.prog 43 #[.int .i64 x, .int .i64 y] w (fun e w' => e = .returned (.int .i64 (cmp1 x y)) ∧ w = w') := by
  by_cases h1 : x < y
  · have e : cmp1 x y = -1 := by simp [cmp1, h1]
    rw [e]
    go_enter Try.func43, Try.ntmps43
    go_wp2_with (go_at_call 46; refine (nan_any _ _).mono ?_; rintro e _ ⟨rfl, rfl⟩)
    go_ret
    simp
  · by_cases h2 : y < x
    · have e : cmp1 x y = 1 := by simp [cmp1, h1, h2]
      rw [e]
      go_enter Try.func43, Try.ntmps43
      go_wp2_with (go_at_call 46; refine (nan_any _ _).mono ?_; rintro e _ ⟨rfl, rfl⟩)
      go_ret
      simp
    · have e : cmp1 x y = 0 := by simp [cmp1, h1, h2]
      rw [e]
      go_enter Try.func43, Try.ntmps43
      go_wp2_with (go_at_call 46; refine (nan_any _ _).mono ?_; rintro e _ ⟨rfl, rfl⟩)
      go_ret
      simp

theorem cmpL_step (xs ys : List Int) (k : Nat) (hx : k < xs.length) (hy : k < ys.length) : cmpL (xs.drop k) (ys.drop k) = if cmp1 (xs.getD k 0) (ys.getD k 0) = 0 then cmpL (xs.drop (k + 1)) (ys.drop (k + 1)) else cmp1 (xs.getD k 0) (ys.getD k 0) := by
  rw [List.drop_eq_getElem_cons hx, List.drop_eq_getElem_cons hy]
  simp only [cmpL, cmp1, List.getD, List.getElem?_eq_getElem hx, List.getElem?_eq_getElem hy, Option.getD_some]
  split
  · simp
  · split <;> simp_all

theorem compare_any (xs ys : List Int) (u v : Value) (w : World) (hx : Ints w u xs) (hy : Ints w v ys) :
    Calls Try.prog 32 #[u, v] w (fun e w' => e = .returned (.int .i64 (cmpL xs ys)) ∧ w = w') := by
  obtain ⟨A, c, rfl, hl, hr⟩ := hx
  obtain ⟨A2, c2, rfl, hl2, hr2⟩ := hy
  have HR := hid hr
  have HR2 := hid hr2
  clear hr hr2
  obtain ⟨res, hres⟩ : ∃ res, cmpL xs ys = res := ⟨_, rfl⟩
  rw [hres]
  have HRES := hid hres
  clear hres
  go_enter Try.func32, Try.ntmps32
  go_wp2_with fail
  go_loopw [11] (fun i wr => ∃ k : Nat, k ≤ xs.length ∧ k ≤ ys.length ∧ i = .int .i64 k ∧ cmpL (xs.drop k) (ys.drop k) = res ∧ w = wr) (fun i _ => xs.length - (intOf i).toNat)
  case atStart => exact ⟨0, Nat.zero_le _, Nat.zero_le _, rfl, HRES.out, rfl⟩
  case round =>
    obtain ⟨k, hk, hk2, rfl, hc, rfl⟩ := hrel
    have HC := hid hc
    clear hc
    by_cases hlt : k < xs.length
    · obtain ⟨b, off, rfl, hcs⟩ := HR.out (by rintro rfl; simp at hlt)
      have c1 := hcs k hlt
      by_cases hlt2 : k < ys.length
      · obtain ⟨b2, off2, rfl, hcs2⟩ := HR2.out (by rintro rfl; simp at hlt2)
        have c2 := hcs2 k hlt2
        have HS := hid (cmpL_step xs ys k hlt hlt2)
        clear hcs hcs2
        generalize xs.getD k 0 = x at *
        generalize ys.getD k 0 = y at *
        by_cases hz : cmp1 x y = 0
        · go_wp2_with (go_at_call 43; refine (cmp_any _ _ _).mono ?_; rintro e _ ⟨rfl, rfl⟩)
          go_roundw
          case rel => exact ⟨k + 1, by omega, by omega, by go_num, by rw [← HC.out, HS.out, if_pos hz], by first | rfl | trivial⟩
          case measure => simp [intOf]; omega
        · go_wp2_with (go_at_call 43; refine (cmp_any _ _ _).mono ?_; rintro e _ ⟨rfl, rfl⟩)
          go_ret
          exact ⟨by rw [← HC.out, HS.out, if_neg hz]; rfl, rfl⟩
      · have hd : ys.drop k = [] := List.drop_eq_nil_of_le (by omega)
        go_wp2_with fail
        go_ret
        exact ⟨by rw [← HC.out, hd, List.drop_eq_getElem_cons hlt]; rfl, rfl⟩
    · have hd : xs.drop k = [] := List.drop_eq_nil_of_le (by omega)
      by_cases hlt2 : k < ys.length
      · have hxy : (xs.length : Int) < ys.length := by omega
        go_wp2_with fail
        go_ret
        exact ⟨by rw [← HC.out, hd, List.drop_eq_getElem_cons hlt2]; rfl, rfl⟩
      · have hd2 : ys.drop k = [] := List.drop_eq_nil_of_le (by omega)
        go_wp2_with fail
        go_ret
        exact ⟨by rw [← HC.out, hd, hd2]; rfl, rfl⟩

theorem numbers_any (x : It) (w : World) : Calls Try.prog 33 #[iv x] w (RetP (fun w' v => Ints w' v (il x)) w) := by
  obtain ⟨a, b, c, d, e, f⟩ := x
  simp only [iv]
  go_enter Try.func33, Try.ntmps33
  go_wp2_with fail
  go_ret
  refine ⟨_, ⟨_, ((Gr.refl w).alloc _).alloc _⟩, rfl, rfl, _, _, rfl, by simp [il], fun _ => ⟨_, _, rfl, ?_⟩⟩
  intro j hj
  simp only [il, List.length_cons, List.length_nil] at hj
  have : j = 0 ∨ j = 1 ∨ j = 2 ∨ j = 3 ∨ j = 4 ∨ j = 5 := by omega
  rcases this with rfl | rfl | rfl | rfl | rfl | rfl <;> (simp only [il, List.getD, List.getElem?_cons_zero, List.getElem?_cons_succ, Option.getD_some]; go_simp)
end Go.Proofs.Ytikmniokbliolaa
