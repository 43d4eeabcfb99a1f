import Derived.Test.YtkgmienjioplaaaD2
namespace Go.Proofs.Ytkgmienjioplaaa
open Go.RowKit Go.Ext Go.BigFrame
attribute [local go_sem] Ext.cell Ext.frozen Ext.lt Ext.le s1 s2 s3 s4 s5 s6 t1 t2 t3 t4 t5 t6
attribute [local go_sem ↓] Go.wp_at_zero Go.wp_at_succ

section
variable {base : Nat} {w w' : World} {g kb : Nat} {off : Bool} {armed : Int} {keep : Value} {S sz : Nat} {K : List UInt8} {P : List Ent} {pend : Value} {writes : Int} {n : Nat}

/-- A disk, with the bools that it keeps for its cut. -/
def Dsk (base : Nat) (w : World) (g kb : Nat) (off : Bool) (armed : Int) (ks : List Bool) (S sz : Nat) (K : List UInt8) (P : List Ent) (writes : Int) : Prop :=
  ∃ keep pend, DkAt base w g kb off armed keep S sz K P pend writes ∧ KeepAt base w keep ks
theorem Dsk.gr {ks : List Bool} (h : Dsk base w g kb off armed ks S sz K P writes) (k : Gr w w') : Dsk base w' g kb off armed ks S sz K P writes := by
  obtain ⟨keep, pend, h1, h2⟩ := h
  exact ⟨keep, pend, h1.gr k, h2.gr k⟩
theorem keep_nil : KeepAt base w (.slice none 0 0) [] := World.ownsRow_nil _ _ _ _
theorem KeepAt.modk {S : Nat → Prop} {v : Value} {ks : List Bool} (h : KeepAt base w v ks) (m : Mod S w w') (hS : ∀ q, S q → ∃ cs t fz, w.heap[q]? = some (.cells cs t fz) ∧ t ≠ 4) : KeepAt base w' v ks :=
  own_mod h m (fun k hk hs => by
    obtain ⟨cs, t, fz, h1, h2⟩ := hS k hs
    exact own_ne h h1 h2 hk.symm)

/-- A write of a disk that is on. -/
def afterW (armed : Int) (P : List Ent) (e : Ent) : List Ent := if armed = 1 then [] else P ++ [e]
theorem write_dsk {ks : List Bool} (i : Int) (A : Option Addr) (c n : Nat) (bs : List UInt8) (h : Dsk base w g kb false armed ks S sz K P writes) (hi0 : 0 ≤ i) (hi : i < S) (hb : Bts w (.slice A n c) bs) (hn : bs.length = n) (hbs : n = sz) (ha : 0 ≤ armed) (ha2 : armed ≤ 9223372036854775807)
    (hl : P.length < 4398046511000) (hw0 : 0 ≤ writes) (hw : writes ≤ 4611686018427387904) :
    Calls Try.prog 10 #[.pointer (some ⟨g, 0, none⟩), .int .i64 i, .slice A n c] w (fun e w' => e = .returned (.int .i64 (if armed = 1 then 5 else 0)) ∧
      Dsk base w' g kb (decide (armed = 1)) (less armed) (if armed = 1 then [] else ks) S sz (if armed = 1 then layF sz (fun j => ks.getD j false) K P P.length else K) (afterW armed P (i, bs)) (if armed = 1 then writes else writes + 1) ∧ Kp (TK kb) base w w') := by
  obtain ⟨keep, pend, h1, h2⟩ := h
  by_cases h3 : armed = 1
  · subst h3
    obtain ⟨k, rfl⟩ : ∃ k : Nat, i = k := ⟨i.toNat, by omega⟩
    subst hn
    refine (write_goes k A c bs ks h1 h2 (by omega) hbs).mono fun e w' ⟨he, hd, hm⟩ => ?_
    exact ⟨he, ⟨_, _, hd, keep_nil⟩, h1.kp_mod hm⟩
  · refine (write_ok' i A c n bs h1 hi0 hi hb hn hbs ha ha2 h3 hl hw0 hw).mono fun e w' ⟨p, he, hd, hk, hm, ys, q, c', ho, _⟩ => ?_
    unfold afterW
    rw [if_neg h3, if_neg h3, if_neg h3, if_neg h3, if_neg h3, decide_eq_false h3]
    refine ⟨he, ⟨_, _, hd, h2.modk hm ?_⟩, hk⟩
    rintro q (rfl | hq)
    · exact ⟨_, _, _, h1.db, by decide⟩
    · rcases ho.2 with ⟨rfl, _⟩ | ⟨g', cap, cur, rfl, _, hh, _⟩
      · simp [Value.ownBlock] at hq
      · simp [Value.ownBlock] at hq
        subst hq
        exact ⟨_, _, _, hh, by decide⟩
theorem sync_dsk {ks : List Bool} (h : Dsk base w g kb off armed ks S sz K P writes) : Calls Try.prog 15 #[.pointer (some ⟨g, 0, none⟩)] w (fun e w' => e = .returned (.int .i64 (if off then 5 else 0)) ∧
      Dsk base w' g kb off armed ks S sz (if off then K else layF sz (fun _ => true) K P P.length) (if off then P else []) writes ∧ Kp (TK kb) base w w') := by
  obtain ⟨keep, pend, h1, h2⟩ := h
  cases off
  · refine (sync_on h1).mono fun e w' ⟨he, hd, hm⟩ => ?_
    refine ⟨he, ⟨_, _, hd, h2.modk hm ?_⟩, h1.kp_mod hm⟩
    rintro q (rfl | rfl)
    · exact ⟨_, _, _, h1.kept, by decide⟩
    · exact ⟨_, _, _, h1.db, by decide⟩
  · refine (sync_off h1).mono fun e w' ⟨he, y, hy⟩ => ?_
    subst hy
    exact ⟨he, ⟨_, _, h1.gr y.gr, h2.gr y.gr⟩, y.gr.kp⟩
theorem cut_dsk {ks : List Bool} (A : Option Addr) (c n : Nat) (kt : List Bool) (h : Dsk base w g kb off armed ks S sz K P writes) (hb : Bls w A kt) (hn : kt.length = n) (hA : kt ≠ [] → ∀ b off, A = some ⟨b, off, none⟩ → b ≠ kb) :
    Calls Try.prog 11 #[.pointer (some ⟨g, 0, none⟩), .slice A n c] w (fun e w' => e = .returned (.tuple #[]) ∧ Dsk base w' g kb true 0 [] S sz (layF sz (fun j => kt.getD j false) K P P.length) [] writes ∧ Kp (TK kb) base w w') := by
  obtain ⟨keep, pend, h1, h2⟩ := h
  subst hn
  exact (cut_any A c kt h1 hb hA).mono fun e w' ⟨he, hd, hm⟩ => ⟨he, ⟨_, _, hd, keep_nil⟩, h1.kp_mod hm⟩
theorem on_dsk {ks : List Bool} (h : Dsk base w g kb off armed ks S sz K P writes) : Calls Try.prog 12 #[.pointer (some ⟨g, 0, none⟩)] w
    (fun e w' => e = .returned (.tuple #[]) ∧ Dsk base w' g kb false armed ks S sz K P writes ∧ Kp (TK kb) base w w') := by
  obtain ⟨keep, pend, h1, h2⟩ := h
  exact (on_any h1.db).mono fun _ _ ⟨he, hd, hm⟩ => ⟨he, ⟨_, _, h1.upd hm hd, h2.mod h1.db hm⟩, g_kp h1.db hm h1.lg⟩
theorem arm_dsk {ks : List Bool} (m : Int) (A : Option Addr) (c n : Nat) (kt : List Bool) (h : Dsk base w g kb off armed ks S sz K P writes) (hb : Bls w A kt) (hn : kt.length = n) (hl : n ≤ 140737488351232) (hnc : A = none → c = 0) (hbase : base ≤ w.heap.size) :
    Calls Try.prog 20 #[.pointer (some ⟨g, 0, none⟩), .int .i64 m, .slice A n c] w
      (fun e w' => e = .returned (.tuple #[]) ∧ Dsk base w' g kb off (if m < 1 then 1 else m) kt S sz K P writes ∧ Kp (TK kb) base w w') := by
  obtain ⟨keep, pend, h1, h2⟩ := h
  subst hn
  exact (arm_any m A c kt h1 hb hl hnc hbase).mono fun _ _ ⟨v, he, hd, hk, hv⟩ => ⟨he, ⟨_, _, hd, hv⟩, hk⟩
theorem read_dsk {ks : List Bool} (i : Int) (h : Dsk base w g kb off armed ks S sz K P writes) (hbase : base ≤ w.heap.size) :
    Calls Try.prog 13 #[.pointer (some ⟨g, 0, none⟩), .int .i64 i] w (fun e w' => ∃ v, e = .returned (.tuple #[v, .int .i64 (chk off S i true)]) ∧ Byt (TK kb) base w' v (if chk off S i true = 0 then sector sz K P i.toNat else []) ∧ Gr w w') := by
  obtain ⟨keep, pend, h1, h2⟩ := h
  by_cases hc : chk off S i true = 0
  · rw [if_pos hc, hc]
    have ho : off = false := by cases off; rfl; simp [chk] at hc
    subst ho
    have hi : 0 ≤ i ∧ i < S := by
      unfold chk at hc
      rw [if_neg (by simp)] at hc
      by_cases h3 : i < 0 ∨ (S : Int) ≤ i ∨ true = false
      · rw [if_pos h3] at hc; omega
      · simp at h3; exact h3
    exact (read_ok' i h1 hi.1 hi.2 hbase).mono fun e w' ⟨v, he, hb, _, hg⟩ => ⟨v, he, hb, hg⟩
  · rw [if_neg hc]
    exact (read_bad i h1 hc).mono fun e w' ⟨he, y, hy⟩ => ⟨_, he, Byt.nil _ _ _, hy ▸ y.gr⟩
theorem Dsk.lt {ks : List Bool} (h : Dsk base w g kb off armed ks S sz K P writes) : g < w.heap.size := by
  obtain ⟨keep, pend, h1, h2⟩ := h
  exact h1.db.lt
theorem Dsk.klt {ks : List Bool} (h : Dsk base w g kb off armed ks S sz K P writes) : kb < w.heap.size := by
  obtain ⟨keep, pend, h1, h2⟩ := h
  exact (Array.getElem?_eq_some_iff.1 h1.kept).1
theorem Dsk.lg {ks : List Bool} (h : Dsk base w g kb off armed ks S sz K P writes) : base ≤ g := by
  obtain ⟨keep, pend, h1, h2⟩ := h
  exact h1.lg
theorem off_dsk {ks : List Bool} (h : Dsk base w g kb off armed ks S sz K P writes) : Calls Try.prog 21 #[.pointer (some ⟨g, 0, none⟩)] w (RetE (.bool off) w) := by
  obtain ⟨keep, pend, h1, h2⟩ := h
  exact off_any h1.db
theorem writes_dsk {ks : List Bool} (h : Dsk base w g kb off armed ks S sz K P writes) : Calls Try.prog 14 #[.pointer (some ⟨g, 0, none⟩)] w (RetE (.int .i64 writes) w) := by
  obtain ⟨keep, pend, h1, h2⟩ := h
  exact writes_any h1.db
theorem pending_dsk {ks : List Bool} (h : Dsk base w g kb off armed ks S sz K P writes) : Calls Try.prog 19 #[.pointer (some ⟨g, 0, none⟩)] w (RetE (.int .i64 P.length) w) := by
  obtain ⟨keep, pend, h1, h2⟩ := h
  obtain ⟨A, c, rfl⟩ := h1.row.shape
  exact pending_any h1.db
theorem bytes_dsk {ks : List Bool} (h : Dsk base w g kb off armed ks S sz K P writes) : Calls Try.prog 16 #[.pointer (some ⟨g, 0, none⟩)] w (RetP (fun w' v => Byt (TK kb) base w' v K) w) := by
  obtain ⟨keep, pend, h1, h2⟩ := h
  exact (bytes_any h1).mono fun _ _ ⟨v, y, a, b, c, _⟩ => ⟨v, y, a, b, c⟩
theorem shape_dsk {ks : List Bool} (h : Dsk base w g kb off armed ks S sz K P writes) : Calls Try.prog 28 #[.pointer (some ⟨g, 0, none⟩)] w (RetE (.tuple #[.int .i64 S, .int .i64 sz]) w) := by
  obtain ⟨keep, pend, h1, h2⟩ := h
  exact shape_any S h1.db rfl (by have := h1.z1; omega) h1.max
/-- A new disk. -/
theorem new_dsk (base S sz : Nat) (w : World) (hb : base ≤ w.heap.size) (h1 : 1 ≤ S) (h2 : S ≤ 16384) (h3 : 64 ≤ sz) (h4 : sz ≤ 1024) :
    Calls Try.prog 9 #[.int .i64 S, .int .i64 sz] w (fun e w' => ∃ g kb, e = .returned (.tuple #[.pointer (some ⟨g, 0, none⟩), .int .i64 0]) ∧ Dsk base w' g kb false 0 [] S sz (List.replicate (S * sz) 0) [] 0 ∧ Gr w w') :=
  (new_dk base S sz w hb h1 h2 h3 h4).mono fun _ _ ⟨g, kb, he, hd, hg⟩ => ⟨g, kb, he, ⟨_, _, hd, keep_nil⟩, hg⟩
end
end Go.Proofs.Ytkgmienjioplaaa
