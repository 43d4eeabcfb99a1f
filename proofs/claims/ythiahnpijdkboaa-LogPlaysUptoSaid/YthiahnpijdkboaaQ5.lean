import Derived.Test.YthiahnpijdkboaaQ2
namespace Go.Proofs.Ythiahnpijdkboaa
open Go.RowKit Go.Ext Go.BigFrame
attribute [local go_sem] Ext.cell Ext.frozen Ext.lt Ext.le s1 s2 s3 s4 s5 s6 t1 t2 t3 t4 t5 t6
attribute [local go_sem ↓] Go.wp_at_zero Go.wp_at_succ

/-- An act: its kind, its index, is that counted from the end, its term, is that the one that is there, its entries. -/
structure Ac where
  op : Int
  index : Int
  own : Bool
  term : Int
  know : Bool
  l : List Ent
abbrev a0 : Ac := ⟨0, 0, false, 0, false, []⟩
/-- A slice of entries that came in. -/
def In (base : Nat) (w : World) (A : Option Addr) (c : Nat) (l : List Ent) : Prop := Sl base w A l ∧ l.length ≤ c ∧ (A = none → c = 0) ∧ (l ≠ [] → ∀ b off, A = some ⟨b, off, none⟩ → b < base) ∧ l.length ≤ 1048576
theorem In.gr {base : Nat} {w w' : World} {A : Option Addr} {c : Nat} {l : List Ent} (h : In base w A c l) (y : Gr w w') : In base w' A c l := ⟨h.1.gr y, h.2⟩
theorem In.my {Z : Nat → Bool} {base : Nat} {w w' : World} {A : Option Addr} {c : Nat} {l : List Ent} (h : In base w A c l) (m : MY Z base w w') (hZ : Z 5 = false) : In base w' A c l := by
  refine ⟨?_, h.2⟩
  by_cases e : l = []
  · subst e; exact ⟨[], Rd.nil _ _, ents_nil _ _⟩
  · exact h.1.my m hZ (h.2.2.2.1 e)
/-- The slice at A reads as acts. -/
def RowC (base : Nat) (w : World) (A : Option Addr) (L : List Ac) : Prop := L ≠ [] → ∃ b off, A = some ⟨b, off, none⟩ ∧ b < base ∧ ∀ i, i < L.length →
  w.cell? ⟨b, off + i * 6, none⟩ = some (.int .i64 (L.getD i a0).op) ∧ w.cell? ⟨b, off + i * 6 + 1, none⟩ = some (.int .i64 (L.getD i a0).index) ∧ w.cell? ⟨b, off + i * 6 + 2, none⟩ = some (.bool (L.getD i a0).own) ∧
  w.cell? ⟨b, off + i * 6 + 3, none⟩ = some (.int .i64 (L.getD i a0).term) ∧ w.cell? ⟨b, off + i * 6 + 4, none⟩ = some (.bool (L.getD i a0).know) ∧
  (-9223372036854775808 ≤ (L.getD i a0).index ∧ (L.getD i a0).index ≤ 9223372036854775807) ∧
  ∃ A' c', w.cell? ⟨b, off + i * 6 + 5, none⟩ = some (.slice A' (L.getD i a0).l.length c') ∧ In base w A' c' (L.getD i a0).l
theorem RowC.at_ {base : Nat} {w : World} {A : Option Addr} {L : List Ac} (h : RowC base w A L) {i : Nat} (hi : i < L.length) : ∃ b off A' c', A = some ⟨b, off, none⟩ ∧ b < base ∧ b < w.heap.size ∧
    w.cell? ⟨b, off + i * 6, none⟩ = some (.int .i64 (L.getD i a0).op) ∧ w.cell? ⟨b, off + i * 6 + 1, none⟩ = some (.int .i64 (L.getD i a0).index) ∧ w.cell? ⟨b, off + i * 6 + 2, none⟩ = some (.bool (L.getD i a0).own) ∧
    w.cell? ⟨b, off + i * 6 + 3, none⟩ = some (.int .i64 (L.getD i a0).term) ∧ w.cell? ⟨b, off + i * 6 + 4, none⟩ = some (.bool (L.getD i a0).know) ∧
    w.cell? ⟨b, off + i * 6 + 5, none⟩ = some (.slice A' (L.getD i a0).l.length c') ∧ In base w A' c' (L.getD i a0).l ∧ (-9223372036854775808 ≤ (L.getD i a0).index ∧ (L.getD i a0).index ≤ 9223372036854775807) := by
  obtain ⟨b, off, rfl, hb, hc⟩ := h (by rintro rfl; simp at hi)
  obtain ⟨h1, h2, h3, h4, h5, h6, A', c', h7, h8⟩ := hc i hi
  exact ⟨b, off, A', c', rfl, hb, World.block_lt_of_cell? w _ h1, h1, h2, h3, h4, h5, h7, h8, h6⟩
theorem RowC.gr {base : Nat} {w w' : World} {A : Option Addr} {L : List Ac} (h : RowC base w A L) (g : Gr w w') : RowC base w' A L := fun hn => by
  obtain ⟨b, off, rfl, hb, hc⟩ := h hn
  refine ⟨b, off, rfl, hb, fun i hi => ?_⟩
  obtain ⟨h1, h2, h3, h4, h5, h6, A', c', h7, h8⟩ := hc i hi
  have e := fun {v : Value} {o : Nat} (hh : w.cell? ⟨b, o, none⟩ = some v) => (g.cell (World.block_lt_of_cell? w _ hh)).trans hh
  exact ⟨e h1, e h2, e h3, e h4, e h5, h6, A', c', e h7, h8.gr g⟩

/-- What few says. -/
def RetF (acts : List Ac) (w : World) (e : Ending) (w' : World) : Prop := ∃ r, e = .returned (.bool r) ∧ (r = true → acts.length ≤ 150) ∧ w = w'
set_option maxRecDepth 100000 in
set_option maxHeartbeats 2000000 in
theorem few_any (base : Nat) (A : Option Addr) (c : Nat) (L : List Ent) (B : Option Addr) (cb : Nat) (acts : List Ac) (w : World) (hs : Sl base w A L) (hl : L.length ≤ 4398046511103) (hr : RowC base w B acts) (hb : acts.length ≤ 4398046511103) :
    Calls Try.prog 9 #[.slice A L.length c, .slice B acts.length cb] w (RetF acts w) := by
  have HS := hid hs
  have HR := hid hr
  clear hs hr
  go_enter Try.func9, Try.ntmps9
  go_wp2_with fail
  go_loop [5, 6] (fun n i => ∃ (k : Nat) (s : Int), k ≤ L.length ∧ i = .int .i64 k ∧ n = .int .i64 s) (fun _ i => L.length - (intOf i).toNat)
  case atStart => exact ⟨0, _, Nat.zero_le _, rfl, rfl⟩
  case round =>
    obtain ⟨k, s, hk, rfl, rfl⟩ := hrel
    by_cases hlt : k < L.length
    · obtain ⟨b, off, D, c', rfl, c1, c2, _, c4⟩ := HS.out.at_ hlt
      generalize (L.getD k (0, [])).2.length = m at *
      clear c1
      go_wp2_with fail
      go_round
      case rel => exact ⟨k + 1, _, by omega, by go_num, rfl⟩
      case measure => simp [intOf]; omega
    · have : k = L.length := by omega
      subst this
      go_wp2_with fail
      go_loop [5, 7, 8] (fun n i j => ∃ (k : Nat) (s : Int), k ≤ acts.length ∧ i = .int .i64 k ∧ n = .int .i64 s) (fun _ i _ => acts.length - (intOf i).toNat)
      case atStart => exact ⟨0, _, Nat.zero_le _, rfl, rfl⟩
      case round =>
        obtain ⟨k, s, hk, rfl, rfl⟩ := hrel
        by_cases hlt : k < acts.length
        · obtain ⟨b, off, A', c', rfl, hb1, hb2, d0, d1, d2, d3, d4, d5, d6, _⟩ := HR.out.at_ hlt
          have HI := hid d6
          have hli : (acts.getD k a0).l.length ≤ 1048576 := d6.2.2.2.2
          generalize (acts.getD k a0).l = li at *
          clear d0 d1 d2 d3 d4 d6
          go_wp2_with fail
          go_loop [5, 8] (fun n j => ∃ (q : Nat) (s : Int), q ≤ li.length ∧ j = .int .i64 q ∧ n = .int .i64 s) (fun _ j => li.length - (intOf j).toNat)
          case atStart => exact ⟨0, _, Nat.zero_le _, rfl, rfl⟩
          case round =>
            obtain ⟨q, s, hq, rfl, rfl⟩ := hrel
            by_cases hlt2 : q < li.length
            · obtain ⟨b2, off2, D, c2, rfl, c1, c2, _, c4⟩ := HI.out.1.at_ hlt2
              generalize (li.getD q (0, [])).2.length = m at *
              clear c1
              go_wp2_with fail
              go_round
              case rel => exact ⟨q + 1, _, by omega, by go_num, rfl⟩
              case measure => simp [intOf]; omega
            · have : q = li.length := by omega
              subst this
              go_wp2_with fail
              go_round
              case rel => exact ⟨k + 1, _, by omega, by go_num, rfl⟩
              case measure => simp [intOf]; omega
        · have : k = acts.length := by omega
          subst this
          by_cases h150 : acts.length ≤ 150
          · by_cases hs : s ≤ 8192
            · go_wp2_with fail
              go_ret
              exact ⟨_, rfl, fun _ => h150, rfl⟩
            · have hs' : decide (s ≤ 8192) = false := decide_eq_false hs
              go_wp2_with fail
              go_ret
              exact ⟨_, rfl, fun _ => h150, rfl⟩
          · have hd : decide ((acts.length : Int) ≤ 150) = false := decide_eq_false (by omega)
            go_wp2_with fail
            go_ret
            exact ⟨false, rfl, (fun e => by cases e), rfl⟩
end Go.Proofs.Ythiahnpijdkboaa
