import Derived.Test.YthiahnpijdkboaaRows
import Derived.Test.YthiahnpijdkboaaMem
namespace Go.Proofs.Ythiahnpijdkboaa
open Go.RowKit Go.Ext Go.BigFrame
attribute [local go_sem] Ext.cell Ext.frozen Ext.lt Ext.le s1 s2 s3 s4 s5 s6 t1 t2 t3 t4 t5 t6
attribute [local go_sem ↓] Go.wp_at_zero Go.wp_at_succ

/-- Only bytes stay. -/
def TB : TypeId → Bool := fun t => t == 5
theorem info5 : (Try.prog.info? 5).map (fun i => (i.zero, i.size, i.bytes)) = some (some (.int .u8 0), 1, 1) := by kernel_rfl

/-- It returned a value of which p holds, in a grown world. -/
def RetP (p : World → Value → Prop) (w : World) (e : Ending) (w' : World) : Prop := ∃ v, ∃ y : Ext w, e = .returned v ∧ w' = y.val ∧ p y.val v

theorem byt_own {base B : Nat} {w : World} {v : Value} {n : Nat} {bs : List UInt8} (h : w.ownsRow B 5 1 v n (bc bs)) (hn : n = bs.length) (hl : bs.length ≤ 140737488351232) : Byt TB base w v bs := by
  subst hn
  rcases h.2 with ⟨rfl, h0⟩ | ⟨g, cap, cur, rfl, hb, hh, hnc, hcm, hcs, ht⟩
  · have : bs = [] := List.eq_nil_of_length_eq_zero h0
    subst this
    exact Byt.nil _ _ _
  · exact ⟨_, _, rfl, hl, Rd.of_own h, fun _ => ⟨g, 0, rfl, (Array.getElem?_eq_some_iff.1 hh).1, .inr ⟨cur, 5, (0, 0), hh, rfl⟩⟩, fun e => by cases e⟩

set_option maxHeartbeats 1000000 in
theorem clone_any (base : Nat) (d : Value) (bs : List UInt8) (w : World) (hd : Byt TB base w d bs) :
    Calls Try.prog 40 #[d] w (RetP (fun w' v => Byt TB base w' v bs) w) := by
  obtain ⟨A, c, rfl, hl, hr, hi, hnc⟩ := hd
  obtain ⟨i0, hi0, hz0, hz1, hz2⟩ := info_parts info5
  have he := fun (w : World) (n c n' c' : Nat) (a : Option Addr) => Lib.run_eql_slice_nil (P := Try.prog) w 44 5 a n c n' c' Try.underlying44
  rcases A with _ | ad
  · have : bs = [] := by
      by_cases hb : bs = []
      · exact hb
      · obtain ⟨b, off, e, _⟩ := hi hb; cases e
    subst this
    have hc0 := hnc rfl
    subst hc0
    go_enter Try.func40, Try.ntmps40
    go_wp2_with fail
    go_ret
    exact ⟨.slice none 0 0, ⟨w, Gr.refl _⟩, rfl, rfl, Byt.nil _ _ _⟩
  · have hr1 := hid (hr.gr ((Gr.refl w).alloc (.cells #[] 5)))
    clear hr hi hnc
    go_enter Try.func40, Try.ntmps40
    go_wp2_with (at_builtin; refine wpList_append_own _ rfl _ _ 44 rfl w.heap.size 5 i0 _ 1 1 Try.underlying44 hi0 hz0 hz1 hz2 rfl (by decide) (.slice (some ⟨w.heap.size, 0, none⟩) 0 0) 0 [] rfl (World.ownsRow_made w #[] 0 (Nat.le_refl _) (by decide) rfl) ad bs.length c (bc bs) rfl (by simp [bc_length]) hr1.out.add (bc_one bs) (by unfold maxLen; omega) (by omega) (by simp) ?_; intro v1 w1 hown1 hg1 _)
    go_ret
    have hgr : Gr w w1 := gr_grown ((Gr.refl w).alloc _) hg1 (by intro k hk; simp [Value.ownBlock] at hk; omega)
    exact ⟨v1, ⟨w1, hgr⟩, rfl, rfl, byt_own hown1 (by omega) hl⟩

/-- An entry: its term, its bytes. -/
abbrev Ent := Int × List UInt8
/-- The cells read as entries. -/
def Ents (base : Nat) (w : World) (xs : List Value) (L : List Ent) : Prop :=
  xs.length = L.length * 2 ∧ ∀ i, i < L.length → xs[i * 2]? = some (.int .i64 (L.getD i (0, [])).1) ∧ ∃ d, xs[i * 2 + 1]? = some d ∧ Byt TB base w d (L.getD i (0, [])).2
theorem Ents.kp {base : Nat} {w w' : World} {xs : List Value} {L : List Ent} (h : Ents base w xs L) (k : Kp TB base w w') : Ents base w' xs L :=
  ⟨h.1, fun i hi => ⟨(h.2 i hi).1, by obtain ⟨d, h1, h2⟩ := (h.2 i hi).2; exact ⟨d, h1, h2.kp k⟩⟩⟩
/-- A slice that reads as entries. -/
def Sl (base : Nat) (w : World) (A : Option Addr) (L : List Ent) : Prop := ∃ xs, Rd w A xs ∧ Ents base w xs L
theorem Sl.gr {base : Nat} {w w' : World} {A : Option Addr} {L : List Ent} (h : Sl base w A L) (g : Gr w w') : Sl base w' A L := by
  obtain ⟨xs, h1, h2⟩ := h
  exact ⟨xs, h1.gr g, h2.kp g.kp⟩
theorem Sl.at_ {base : Nat} {w : World} {A : Option Addr} {L : List Ent} (h : Sl base w A L) {i : Nat} (hi : i < L.length) :
    ∃ b off D c, A = some ⟨b, off, none⟩ ∧ w.cell? ⟨b, off + i * 2, none⟩ = some (.int .i64 (L.getD i (0, [])).1) ∧ w.cell? ⟨b, off + i * 2 + 1, none⟩ = some (.slice D (L.getD i (0, [])).2.length c) ∧ Byt TB base w (.slice D (L.getD i (0, [])).2.length c) (L.getD i (0, [])).2 ∧ b < w.heap.size := by
  obtain ⟨xs, h1, h2⟩ := h
  obtain ⟨e1, d, e2, e3⟩ := h2.2 i hi
  obtain ⟨b, off, rfl, hc⟩ := h1 (by rintro rfl; simp at e1)
  obtain ⟨D, c, rfl, _⟩ := id e3
  exact ⟨b, off, D, c, rfl, hc _ _ e1, hc _ _ e2, e3, World.block_lt_of_cell? w _ (hc _ _ e1)⟩

/-- Do terms rise, from one on? -/
def risesF (t : Int) : List Ent → Bool
  | [] => true
  | e :: r => if e.1 < t then false else risesF e.1 r
theorem rises_no (t : Int) (L : List Ent) (k : Nat) (hk : k < L.length) (h : (L.getD k (0, [])).1 < t) : risesF t (L.drop k) = false := by
  rw [List.drop_eq_getElem_cons hk]
  simp only [risesF]
  rw [if_pos (by simpa [List.getD, hk] using h)]
theorem rises_yes (t : Int) (L : List Ent) (k : Nat) (hk : k < L.length) (h : ¬ (L.getD k (0, [])).1 < t) : risesF t (L.drop k) = risesF (L.getD k (0, [])).1 (L.drop (k + 1)) := by
  rw [List.drop_eq_getElem_cons hk]
  simp only [risesF]
  rw [if_neg (by simpa [List.getD, hk] using h)]
  simp [List.getD, hk]

/-- .. from 1 on at least. -/
def rs (term : Int) (L : List Ent) : Bool := risesF (if term < 1 then 1 else term) L

set_option maxHeartbeats 1000000 in
theorem rises_any (base : Nat) (term : Int) (A : Option Addr) (c : Nat) (L : List Ent) (w : World) (hs : Sl base w A L) (hl : L.length ≤ 4398046511103) :
    Calls Try.prog 27 #[.int .i64 term, .slice A L.length c] w (RetE (.bool (rs term L)) w) := by
  refine retE ?_
  have hs' := hid hs
  clear hs
  obtain ⟨t0, ht0⟩ : ∃ t0, (if term < 1 then 1 else term) = t0 := ⟨_, rfl⟩
  go_enter Try.func27, Try.ntmps27
  go_wp2_with fail
  have HT := hid (show risesF t0 L = rs term L by rw [← ht0]; rfl)
  clear ht0
  go_loopw [0, 6, 11] (fun t _ i wr => ∃ (k : Nat) (tk : Int), k ≤ L.length ∧ i = .int .i64 k ∧ t = .int .i64 tk ∧ risesF tk (L.drop k) = risesF t0 L ∧ Gr w wr) (fun _ _ i _ => L.length - (intOf i).toNat)
  case atStart => exact ⟨0, t0, Nat.zero_le _, rfl, rfl, rfl, Gr.refl _⟩
  case round =>
    obtain ⟨k, tk, hk, rfl, rfl, hr, hg⟩ := hrel
    have HR := hid hr
    have HG := hid hg
    clear hr hg
    by_cases hlt : k < L.length
    · obtain ⟨b, off, D, c', rfl, c1, c2, c3, c4⟩ := (hs'.out.gr HG.out).at_ hlt
      clear c3
      by_cases hno : (L.getD k (0, [])).1 < tk
      · have E := hid (rises_no tk L k hlt hno)
        generalize (L.getD k (0, [])).1 = ek at *
        go_wp2_with fail
        go_ret
        exact ⟨by rw [← HT.out, ← HR.out, E.out]; rfl, HG.out.alloc _⟩
      · have E := hid (rises_yes tk L k hlt hno)
        generalize (L.getD k (0, [])).1 = ek at *
        go_wp2_with fail
        go_roundw
        case rel => exact ⟨k + 1, ek, by omega, by go_num, rfl, by rw [← HR.out, E.out], HG.out.alloc _⟩
        case measure => simp [intOf]; omega
    · have : k = L.length := by omega
      subst this
      go_wp2_with fail
      go_ret
      exact ⟨by rw [← HT.out, ← HR.out, List.drop_length]; rfl, HG.out⟩
end Go.Proofs.Ythiahnpijdkboaa
