import Derived.Test.YtkgmienjioplaaaD8
import Derived.Test.YtkgmienjioplaaaPlan
import Derived.IntWalk
namespace Go.Proofs.Ytkgmienjioplaaa
open Go.RowKit Go.Ext Go.BigFrame
attribute [local go_sem] Ext.cell Ext.frozen Ext.lt Ext.le s1 s2 s3 s4 s5 s6 t1 t2 t3 t4 t5 t6
attribute [local go_sem ↓] Go.wp_at_zero Go.wp_at_succ

/-! ### The document's disk -/

/-- Bytes stay, but those of the two disks' own sectors. -/
def TR (kb rkb : Nat) : Nat → TypeId → Bool := fun b t => t == 5 && b != kb && b != rkb

/-- The document's disk's block. -/
def RB (w : World) (rg rkb : Nat) (S sz n : Nat) (pend : Value) (off : Bool) (armed : Int) (keep : Value) (writes : Int) : Prop :=
  w.heap[rg]? = some (.cells #[.int .i64 S, .int .i64 sz, .slice (some ⟨rkb, 0, none⟩) n n, pend, .bool off, .int .i64 armed, keep, .int .i64 writes] 59 (0, 0))
section
variable {w w' : World} {rg rkb : Nat} {S sz n : Nat} {pend : Value} {off : Bool} {armed : Int} {keep : Value} {writes : Int}
theorem RB.lt (h : RB w rg rkb S sz n pend off armed keep writes) : rg < w.heap.size := (Array.getElem?_eq_some_iff.1 h).1
theorem RB.gr (h : RB w rg rkb S sz n pend off armed keep writes) (k : Gr w w') : RB w' rg rkb S sz n pend off armed keep writes := (k.block rg h.lt).trans h
theorem RB.cell (h : RB w rg rkb S sz n pend off armed keep writes) (i : Nat) : w.cell? ⟨rg, i, none⟩ = (#[.int .i64 S, .int .i64 sz, .slice (some ⟨rkb, 0, none⟩) n n, pend, .bool off, .int .i64 armed, keep, .int .i64 writes] : Array Value)[i]? := cell_of_row w rg i _ 59 (0, 0) h
theorem RB.frozen (h : RB w rg rkb S sz n pend off armed keep writes) (i : Nat) : w.frozen? ⟨rg, i, none⟩ = false := by
  unfold RB at h
  simp [World.frozen?, h]
theorem RB.set3 (h : RB w rg rkb S sz n pend off armed keep writes) (v : Value) : RB (w.setCell ⟨rg, 3, none⟩ v) rg rkb S sz n v off armed keep writes := heap_set _ _ 3 _ _ _ _ h
theorem RB.set4 (h : RB w rg rkb S sz n pend off armed keep writes) (b : Bool) : RB (w.setCell ⟨rg, 4, none⟩ (.bool b)) rg rkb S sz n pend b armed keep writes := heap_set _ _ 4 _ _ _ _ h
theorem RB.set5 (h : RB w rg rkb S sz n pend off armed keep writes) (a : Int) : RB (w.setCell ⟨rg, 5, none⟩ (.int .i64 a)) rg rkb S sz n pend off a keep writes := heap_set _ _ 5 _ _ _ _ h
theorem RB.set6 (h : RB w rg rkb S sz n pend off armed keep writes) (v : Value) : RB (w.setCell ⟨rg, 6, none⟩ v) rg rkb S sz n pend off armed v writes := heap_set _ _ 6 _ _ _ _ h
theorem RB.set7 (h : RB w rg rkb S sz n pend off armed keep writes) (a : Int) : RB (w.setCell ⟨rg, 7, none⟩ (.int .i64 a)) rg rkb S sz n pend off armed keep a := heap_set _ _ 7 _ _ _ _ h
end

theorem splice_step (K bs : List UInt8) (o j : Nat) (h : o + bs.length ≤ K.length) (hj : j < bs.length) : (bc (splice K o (bs.take j))).set (o + j) (.int .u8 ((bs.getD j 0).toNat : Int)) = bc (splice K o (bs.take (j + 1))) := by
  rw [bc_set]
  congr 1
  have hl1 : (bs.take j).length = j := by simp; omega
  have hl2 : (bs.take (j + 1)).length = j + 1 := by simp; omega
  apply List.ext_getElem?
  intro k
  rw [List.getElem?_set, splice_at _ _ _ (by rw [hl1]; omega), splice_at _ _ _ (by rw [hl2]; omega), length_splice _ _ _ (by rw [hl1]; omega), hl1, hl2]
  by_cases e : o + j = k
  · subst e
    rw [if_pos rfl, if_pos (by omega), if_neg (by omega), if_pos (by omega), List.getElem?_take, if_pos (by omega), show o + j - o = j by omega, List.getElem?_eq_getElem hj]
    simp [List.getD, hj]
  · rw [if_neg e]
    by_cases h1 : k < o
    · rw [if_pos h1, if_pos h1]
    · rw [if_neg h1, if_neg h1]
      by_cases h2 : k < o + j
      · rw [if_pos h2, if_pos (by omega), List.getElem?_take, List.getElem?_take, if_pos (by omega), if_pos (by omega)]
      · rw [if_neg h2, if_neg (by omega)]
theorem splice_zero (K bs : List UInt8) (o : Nat) : splice K o (bs.take 0) = K := by
  unfold splice
  simp

section
variable {w w' : World} {rg rkb : Nat} {S sz n : Nat} {pend : Value} {off : Bool} {armed : Int} {keep : Value} {writes : Int}
set_option maxRecDepth 100000 in
set_option maxHeartbeats 4000000 in
/-- A write is kept. -/
theorem rkeep_any (s : Nat) (D : Option Addr) (c : Nat) (bs K : List UInt8) (h : RB w rg rkb S sz (S * sz) pend off armed keep writes) (hk : KB w rkb K) (hK : K.length = S * sz) (hs : s < S) (hb : Bts w (.slice D sz c) bs) (hbs : bs.length = sz) (hD : ∀ b o, D = some ⟨b, o, none⟩ → b ≠ rkb) (hm : S * sz ≤ 16777216) (hz : 0 < sz) :
    Calls Try.prog 38 #[.pointer (some ⟨rg, 0, none⟩), .agg #[.int .i64 s, .slice D sz c]] w (fun e w' => e = .returned (.tuple #[]) ∧ KB w' rkb (put1 sz K ((s : Int), bs)) ∧ Mod (fun b => b = rkb) w w') := by
  have hne : rkb ≠ rg := by
    rintro rfl
    unfold RB at h
    unfold KB at hk
    rw [h] at hk
    injection hk with hk
    injection hk with _ ht _
    cases ht
  have hgl := h.lt
  have hkl : rkb < w.heap.size := (Array.getElem?_eq_some_iff.1 hk).1
  have hfit : s * sz + bs.length ≤ K.length := by
    rw [hK, hbs, ← Nat.succ_mul]
    exact Nat.mul_le_mul_right _ hs
  obtain ⟨p, hp⟩ : ∃ p, s * sz = p := ⟨_, rfl⟩
  have hpm : (s : Int) * (sz : Int) = (p : Int) := by rw [← hp, Int.natCast_mul]
  have hpu : put1 sz K ((s : Int), bs) = splice K p (bs.take sz) := by
    unfold put1
    rw [← hbs, List.take_length, hbs]
    simp [hp]
  rw [hp] at hfit
  have HPU := hid hpu
  rw [HPU.out]
  obtain ⟨N, hN⟩ : ∃ N, S * sz = N := ⟨_, rfl⟩
  rw [hN] at h hK hm
  have hpl : p + sz ≤ N := by omega
  obtain ⟨bD, oD, rfl, hcD⟩ : ∃ bD oD, D = some ⟨bD, oD, none⟩ ∧ ∀ j, j < sz → w.cell? ⟨bD, oD + j, none⟩ = some (.int .u8 ((bs.getD j 0).toNat : Int)) := by
    obtain ⟨b, o, rfl, _⟩ := Bts.byte hb (j := 0) (by omega)
    refine ⟨b, o, rfl, fun j hj => ?_⟩
    obtain ⟨b', o', e, h2, _⟩ := Bts.byte hb (j := j) (by omega)
    injection e with e
    injection e with e1 e2
    subst e1 e2
    exact h2
  have hbD := hD bD oD rfl
  have hbl : bD < w.heap.size := World.block_lt_of_cell? w _ (hcD 0 hz)
  have HR := hid h
  have HKB := hid hk
  have HCD := hid hcD
  have HST := hid (fun j (hj : j < bs.length) => splice_step K bs p j hfit hj)
  have HBS := hid hbs
  have HKL := hid hK
  clear h hk hb hD hcD hpu hp hN
  go_enter Try.func38, Try.ntmps38
  go_wp2_with fail
  go_loopw [4] (fun i wr => ∃ j : Nat, j ≤ sz ∧ i = .int .i64 j ∧ KB wr rkb (splice K p (bs.take j)) ∧ Mod (fun b => b = rkb) (w.alloc (.cells #[.int .i64 s, .slice (some ⟨bD, oD, none⟩) sz c] 77)) wr) (fun i _ => sz - (intOf i).toNat)
  case atStart => exact ⟨0, Nat.zero_le _, rfl, by rw [splice_zero]; exact (((Gr.refl w).alloc _).block rkb hkl).trans HKB.out, (Gr.refl _).mod _⟩
  case round =>
    obtain ⟨j, hj, rfl, hk, hm2⟩ := hrel
    have HKJ := hid hk
    have HMJ := hid hm2
    clear hk hm2
    have hsz := HMJ.out.size
    simp at hsz
    have hR : RB wr rg rkb S sz N pend off armed keep writes := (HMJ.out.block rg (by simp; omega) (Ne.symm hne)).trans (HR.out.gr ((Gr.refl w).alloc _))
    have r1 := hR.cell 1
    have r2 := hR.cell 2
    simp at r1 r2
    have hgl2 := hR.lt
    have bx := (HMJ.out.block w.heap.size (by simp) (by omega)).trans (heap_alloc_new w (.cells #[.int .i64 s, .slice (some ⟨bD, oD, none⟩) sz c] 77))
    have x0 := cell_of_row wr w.heap.size 0 _ 77 (0, 0) bx
    have x1 := cell_of_row wr w.heap.size 1 _ 77 (0, 0) bx
    simp only [List.getElem?_toArray, List.getElem?_cons_zero, List.getElem?_cons_succ] at x0 x1
    clear hR bx
    by_cases hlt : j < sz
    · have cD : wr.cell? ⟨bD, oD + j, none⟩ = some (.int .u8 ((bs.getD j 0).toNat : Int)) := (World.cell?_of_block ((HMJ.out.block bD (by simp; omega) hbD).trans (((Gr.refl w).alloc _).block bD hbl))).trans (HCD.out j hlt)
      have hblr : bD < wr.heap.size := by omega
      obtain ⟨x, hx⟩ : ∃ x : Int, ((bs.getD j 0).toNat : Int) = x := ⟨_, rfl⟩
      have HX := hid hx
      rw [hx] at cD
      clear hx
      have hlk : rkb < wr.heap.size := by omega
      have hlj : p + j < N := by omega
      have cK : ∃ u, wr.cell? ⟨rkb, p + j, none⟩ = some u := by
        rw [cell_of_row wr rkb (p + j) _ 5 (0, 0) HKJ.out]
        have : p + j < (splice K p (bs.take j)).length := by
          have := HBS.out
          have := HKL.out
          rw [length_splice _ _ _ (by simp; omega)]
          omega
        exact ⟨_, by rw [List.getElem?_toArray]; exact List.getElem?_eq_getElem (by rw [bc_length]; exact this)⟩
      obtain ⟨u0, cK⟩ := cK
      have fK : wr.frozen? ⟨rkb, p + j, none⟩ = false := by
        have := HKJ.out
        unfold KB at this
        simp [World.frozen?, this]
      go_wp2_with fail
      have i1 : IntKind.i64.wrap ((s : Int) * (sz : Int)) = (p : Int) := by rw [hpm]; exact IntWalk.i64_in _ (by omega)
      have i0 : IntKind.i64.wrap (p : Int) = (p : Int) := IntWalk.i64_in _ (by omega)
      have i2 : IntKind.i64.wrap ((p : Int) + (j : Int)) = (p : Int) + (j : Int) := IntWalk.i64_in _ (by omega)
      have i3 : (0 : Int) ≤ (p : Int) + (j : Int) := by omega
      have i4 : (p : Int) + (j : Int) < (N : Int) := by omega
      have i5 : ((p : Int) + (j : Int)).toNat = p + j := by omega
      have hw9 : ∀ (b o : Nat) (u : Value), b ≠ rkb → (wr.setCell ⟨rkb, p + j, none⟩ u).drew.cell? ⟨b, o, none⟩ = wr.cell? ⟨b, o, none⟩ := fun b o u hb => World.cell?_of_block (Below.heap_setCell wr ⟨rkb, p + j, none⟩ u b hb)
      have y0 := fun u => (hw9 w.heap.size 0 u (by omega)).trans x0
      have y1 := fun u => (hw9 w.heap.size 1 u (by omega)).trans x1
      have y2 := fun u => (hw9 rg 1 u (Ne.symm hne)).trans r1
      have y3 := fun u => (hw9 rg 2 u (Ne.symm hne)).trans r2
      have y4 := fun u => (hw9 bD (oD + j) u hbD).trans cD
      have HY := hid (fun u => And.intro (y2 u) (And.intro (y3 u) (And.intro (y0 u) (And.intro (y1 u) (y4 u)))))
      clear y0 y1 y2 y3 y4
      refine wp_region_noPanic ?_
      refine wp_region_plan ((List.range 19).map (·, false) ++ [(19, true)]) (fun w' => w'.cell? ⟨rg, 1, none⟩ = some (.int .i64 sz) ∧ w'.cell? ⟨rg, 2, none⟩ = some (.slice (some ⟨rkb, 0, none⟩) N N) ∧ w'.cell? ⟨w.heap.size, 0, none⟩ = some (.int .i64 s) ∧ w'.cell? ⟨w.heap.size, 1, none⟩ = some (.slice (some ⟨bD, oD, none⟩) sz c) ∧ w'.cell? ⟨bD, oD + j, none⟩ = some (.int .u8 x)) (by kernel_rfl) (by kernel_rfl) (fun _ _ _ _ _ h => h) (by refine ⟨?_, ?_, ?_, ?_, ?_⟩ <;> go_simp; done) (fun hHeld => ?_)
      have e14 : (List.range 19).map (fun i => (i, false)) = [(0, false), (1, false), (2, false), (3, false), (4, false), (5, false), (6, false), (7, false), (8, false), (9, false), (10, false), (11, false), (12, false), (13, false), (14, false), (15, false), (16, false), (17, false), (18, false)] := rfl
      rw [e14]
      simp only [List.cons_append, List.nil_append]
      iterate 19 (refine pl_take (v := ?_) rfl (by rfl) ?_ ?_; rotate_left; (focus (intro W9 hW9; (try dsimp only at hW9); go_simp; (try with_reducible rfl); done)); (try simp only [Act.put, List.setIfInBounds_toArray, List.set_cons_zero, List.set_cons_succ]))
      refine pl_call rfl (by rfl) (fun K hK => ?_)
      go_simp
      refine hK.out (fun W => W = _) _ _ rfl (fun W e => by subst e; exact HY.out (.int .u8 x)) (fun _ => pl_done (NoPanic.normal ?_))
      clear hK K hHeld
      clear hw9 HY i0 i1 i2 i3 i4 i5 e14
      go_wp2_with fail
      go_roundw
      case rel =>
        refine ⟨j + 1, by omega, by go_num, ?_, (HMJ.out.trans (((Gr.refl wr).mod (fun b => b = rkb)).set (p := ⟨rkb, p + j, none⟩) (fun _ => rfl) (.int .u8 x)) (fun _ _ h => h)).gr (Gr.refl _).drew⟩
        have h1 := heap_set wr rkb (p + j) _ 5 (0, 0) (.int .u8 x) HKJ.out
        have h2 := HST.out j (by rw [HBS.out]; exact hlt)
        rw [HX.out] at h2
        unfold KB
        rw [← h2]
        refine Eq.trans h1 ?_
        simp
      case measure => simp [intOf]; omega
    · have hje : sz = j := by omega
      subst hje
      go_wp2_with fail
      go_end0
      exact ⟨rfl, HKJ.out, ((((Gr.refl w).alloc _).mod (fun b => b = rkb)).trans HMJ.out (fun _ _ h => h))⟩
end
end Go.Proofs.Ytkgmienjioplaaa
