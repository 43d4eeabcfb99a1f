import Derived.Test.YtlencagfkajcnaaO
import Derived.Laws.StructEq
import Derived.ChangeKeysEq
import Derived.DeepKeys4
namespace Go.Proofs.Ytlencagfkajcnaa
open Go.RowKit Go.Ext Go.BigFrame Go.Maps
attribute [local go_sem] Ext.cell Ext.frozen Ext.lt Ext.le s1 s2 s3 s4 s5 s6 t1 t2 t3 t4 t5 t6
attribute [local go_sem ↓] Go.wp_at_zero Go.wp_at_succ

def I64 (x : Int) : Prop := -9223372036854775808 ≤ x ∧ x ≤ 9223372036854775807
theorem I64.wf {x : Int} (h : I64 x) : (Lit.int .i64 x).wf = true := WalkArith.wf_i64 h

/-- A pair of nodes, in one order. -/
def pr (a b : Int) : Int × Int := (if b < a then b else a, if a < b then b else a)
def pv (p : Int × Int) : Value := .agg #[.int .i64 p.1, .int .i64 p.2]

theorem pair_any (a b : Int) (w : World) : Calls Try.prog 29 #[.int .i64 a, .int .i64 b] w (RetE (pv (pr a b)) w) := by
  refine retE ?_
  unfold pv pr
  by_cases h1 : a < b
  · have h2 : ¬ b < a := by omega
    rw [if_pos h1, if_neg h2]
    go_enter Try.func29, Try.ntmps29
    go_wp2_with fail
    refine bodyPost_ret (v := .agg #[.int .i64 a, .int .i64 b]) (by simp [results, Try.results29, go_sem]) rfl ⟨rfl, ?_⟩
    repeat (first | exact Gr.refl _ | refine Gr.set ?_ (by simp) _ | refine Gr.alloc ?_ _)
  · rw [if_neg h1]
    by_cases h2 : b < a
    · rw [if_pos h2]
      go_enter Try.func29, Try.ntmps29
      go_wp2_with fail
      refine bodyPost_ret (v := .agg #[.int .i64 b, .int .i64 a]) (by simp [results, Try.results29, go_sem]) rfl ⟨rfl, ?_⟩
      repeat (first | exact Gr.refl _ | refine Gr.set ?_ (by simp) _ | refine Gr.alloc ?_ _)
    · rw [if_neg h2]
      obtain rfl : a = b := by omega
      go_enter Try.func29, Try.ntmps29
      go_wp2_with fail
      refine bodyPost_ret (v := .agg #[.int .i64 a, .int .i64 a]) (by simp [results, Try.results29, go_sem]) rfl ⟨rfl, ?_⟩
      repeat (first | exact Gr.refl _ | refine Gr.set ?_ (by simp) _ | refine Gr.alloc ?_ _)

theorem guard66 : Try.prog.eqGuardType Try.prog.depth 66 = false := by kernel_rfl
theorem arr66 : Try.prog.underlying 66 = some (.array 2 3) := by kernel_rfl
theorem cells3 : Try.prog.cellsOf 3 = 1 := by kernel_rfl
theorem eq66 (a b c d : Int) (w : World) : (binOp .eql 66 (.agg #[.int .i64 a, .int .i64 b]) (.agg #[.int .i64 c, .int .i64 d])).run Try.prog w = .ok (.bool (decide ((a, b) = (c, d)))) w := by
  obtain ⟨i, hi, _⟩ : ∃ i, Try.prog.info? 3 = some i ∧ True := ⟨_, rfl, trivial⟩
  have u3 := Try.underlying3
  have a3 := Try.isAgg3
  have z3 := Try.sizeOf3
  rw [run_eql_struct, show (10000 : Nat) = 9999 + 1 from rfl, run_equalIn_array w 9999 _ _ arr66 hi, cells3]
  have e : decide ((a, b) = (c, d)) = ((a == c) && (b == d)) := by
    rw [Bool.eq_iff_iff]
    simp only [decide_eq_true_eq, Prod.mk.injEq, Bool.and_eq_true, beq_iff_eq]
  rw [e]
  show ((Op.eqItems 9999 3 1 _ _ [0, 1]).run Try.prog w).andThen _ = _
  simp only [Op.eqItems]
  go_simp
  cases h1 : a == c <;> cases h2 : b == d <;> simp_all

theorem row66 : 66 < Try.prog.types.size := of_decide_eq_true (by kernel_rfl)
theorem keyed66 : Keyed Try.prog 66 := Keyed.of_law (deep_law_laid (show laidOutB Try.prog = true by kernel_rfl) (m := 2) (by omega) row66 (by kernel_rfl) (by kernel_rfl))
theorem keyType66 : Try.prog.keyType 66 = true := by kernel_rfl
theorem cellsOf66 : Try.prog.cellsOf 66 = 2 := by kernel_rfl
theorem lits_int (d : Nat) {n : Int} (h : I64 n) : Try.prog.keyLits (d + 1) 3 [.int .i64 n] = some [.int .i64 n] := by simp [Program.keyLits, Try.underlying3, h.wf]
theorem key66 {p : Int × Int} (h1 : I64 p.1) (h2 : I64 p.2) : ∃ l, keyOf Try.prog 66 (pv p) = some l := by
  obtain ⟨a, b⟩ := p
  simp only at h1 h2
  obtain ⟨M, hM⟩ : ∃ M, Try.prog.types.size = M + 1 := ⟨Try.prog.types.size - 1, by have := row66; omega⟩
  have e1 := lits_int M h1
  have e2 := lits_int M h2
  refine ⟨.string (keyBytes [.int .i64 a, .int .i64 b]), ?_⟩
  unfold keyOf
  rw [arr66]
  simp only [keyType66, pv, Value.formed, arr66, cellsOf66, Value.cells, hM, Bool.true_and]
  unfold Program.keyLits
  rw [arr66]
  simp only [cellsOf66, cells3, show List.range 2 = [0, 1] from rfl]
  simp [e1, e2]
theorem plainElem_bool_inv {H : Type} {P : Program} {e : TypeId} (he : P.underlying e = some .bool) {v : Value} {z : DataW H × List MemPlace} (h : plainElem P e v = some z) : ∃ a, v = .bool a ∧ z = (.lit (.bool a), []) := by
  unfold plainElem at h
  cases v <;> simp_all

theorem zeroB (w : World) : (zeroValue 4).run Try.prog w = .ok (.bool false) w := by kernel_rfl

/-- The block is a map that tells of each pair whether S holds. -/
def MP (w : World) (b n : Nat) (S : Int × Int → Bool) : Prop :=
  ∃ D : DataW Empty, w.ownsMap Try.prog 66 (plainElem Try.prog 4) b n D ∧ ∀ x l, keyOf Try.prog 66 (pv x) = some l → D.atKey l (.lit (.bool false)) = .lit (.bool (S x))
theorem MP.made (w : World) : MP (w.alloc (.map #[] 0)) w.heap.size 0 (fun _ => false) :=
  ⟨.map [], World.ownsMap_made _ _ _ _, fun _ _ _ => rfl⟩
theorem MP.lt {w : World} {b n : Nat} {S : Int × Int → Bool} (h : MP w b n S) : b < w.heap.size := by
  obtain ⟨D, h1, _⟩ := h
  exact h1.lt
theorem MP.isMap {w : World} {b n : Nat} {S : Int × Int → Bool} (h : MP w b n S) : ∃ es c, w.heap[b]? = some (.map es c) := by
  obtain ⟨D, ⟨es, clock, hb, _⟩, _⟩ := h
  exact ⟨es, clock, hb⟩
theorem MP.keep {w w' : World} {b n : Nat} {S : Int × Int → Bool} (h : MP w b n S) (hb : w'.heap[b]? = w.heap[b]?) : MP w' b n S := by
  obtain ⟨D, ⟨es, clock, h0, F, hs, hD⟩, h1⟩ := h
  exact ⟨D, ⟨es, clock, hb.trans h0, F, hs, hD⟩, h1⟩
theorem MP.gr {w w' : World} {b n : Nat} {S : Int × Int → Bool} (h : MP w b n S) (g : Gr w w') : MP w' b n S := h.keep (g.block b h.lt)
theorem MP.look {w : World} {b n : Nat} {S : Int × Int → Bool} (h : MP w b n S) {x : Int × Int} (h1 : I64 x.1) (h2 : I64 x.2) : (Instr.lookup 56 (.map (some b)) (pv x) false).run Try.prog w = .ok (.bool (S x)) w := by
  obtain ⟨D, hD, hS⟩ := h
  obtain ⟨l, hl⟩ := key66 h1 h2
  obtain ⟨v, ps, hrun, hv⟩ := hD.lookup keyed66 Try.underlying56 (zeroB w) (zd := .lit (.bool false)) (zp := []) (plainElem_bool Try.underlying4 false) hl
  obtain ⟨a, rfl, e⟩ := plainElem_bool_inv Try.underlying4 hv
  rw [hS x l hl] at e
  injection e with e _
  injection e with e
  injection e with e
  rw [hrun, e]
theorem MP.put {b n n0 : Nat} {S : Int × Int → Bool} {D : DataW Empty} {w w0 : World} (h1 : w0.ownsMap Try.prog 66 (plainElem Try.prog 4) b n0 D) (h2 : ∀ x l, keyOf Try.prog 66 (pv x) = some l → D.atKey l (.lit (.bool false)) = .lit (.bool (S x)))
    {x : Int × Int} {l : Lit} (hl : keyOf Try.prog 66 (pv x) = some l) (h : w.ownsMap Try.prog 66 (plainElem Try.prog 4) b n (D.put l (.lit (.bool true)))) : MP w b n (fun y => decide (y = x) || S y) := by
  refine ⟨_, h, fun y ly hy => ?_⟩
  by_cases e : y = x
  · subst e
    have : ly = l := by rw [hl] at hy; injection hy with hy; exact hy.symm
    subst this
    rw [atKey_put_same h1.isMap (keyed66.key hl)]
    simp
  · have hne : ly ≠ l := by
      rintro rfl
      have := keyed66.inj hy hl
      obtain ⟨a, b⟩ := y
      obtain ⟨a', b'⟩ := x
      simp only [pv] at this
      injection this with this
      simp at this
      obtain ⟨rfl, rfl⟩ := this
      exact e rfl
    rw [atKey_put_other hne, h2 y ly hy]
    simp [e]

/-- Is there such a node? -/
def isN (nodes x : Int) : Bool := decide (0 ≤ x) && decide (x < nodes)

theorem there_any (g : Nat) (nodes x : Int) (w : World) (hc : w.cell? ⟨g, 0, none⟩ = some (.int .i64 nodes)) : Calls Try.prog 21 #[.pointer (some ⟨g, 0, none⟩), .int .i64 x] w (RetE (.bool (isN nodes x)) w) := by
  have hlt := World.block_lt_of_cell? _ _ hc
  simp only at hlt
  refine retE ?_
  unfold isN
  by_cases h1 : 0 ≤ x
  · rw [decide_eq_true h1, Bool.true_and]
    go_enter Try.func21, Try.ntmps21
    go_wp2_with fail
    go_ret
    exact ⟨rfl, Gr.refl _⟩
  · rw [decide_eq_false h1, Bool.false_and]
    go_enter Try.func21, Try.ntmps21
    go_wp2_with fail
    go_ret
    exact ⟨rfl, Gr.refl _⟩

/-- Are they joined? -/
def opF (nodes : Int) (S : Int × Int → Bool) (a b : Int) : Bool := isN nodes a && isN nodes b && !S (pr a b)
theorem isN_ok {nodes x : Int} (hn : nodes ≤ 9) (h : isN nodes x = true) : I64 x := by
  unfold isN at h
  simp at h
  exact ⟨by omega, by omega⟩
theorem pr_ok {a b : Int} (h1 : I64 a) (h2 : I64 b) : I64 (pr a b).1 ∧ I64 (pr a b).2 := by
  unfold pr
  constructor <;> (simp only; split <;> assumption)

set_option maxHeartbeats 2000000 in
theorem open_any (g mb n : Nat) (nodes a b : Int) (S : Int × Int → Bool) (w : World) (hc : w.cell? ⟨g, 0, none⟩ = some (.int .i64 nodes)) (hm : w.cell? ⟨g, 1, none⟩ = some (.map (some mb))) (hM : MP w mb n S) (hn : nodes ≤ 9) :
    Calls Try.prog 19 #[.pointer (some ⟨g, 0, none⟩), .int .i64 a, .int .i64 b] w (RetE (.bool (opF nodes S a b)) w) := by
  have hlt := World.block_lt_of_cell? _ _ hc
  simp only at hlt
  have HA := hid (fun W (y : Gr w W) => there_any g nodes a W ((y.cell (p := ⟨g, 0, none⟩) hlt).trans hc))
  have HB := hid (fun W (y : Gr w W) => there_any g nodes b W ((y.cell (p := ⟨g, 0, none⟩) hlt).trans hc))
  have HM := hid hM
  refine retE ?_
  unfold opF
  have hia := fun (h : isN nodes a = true) => isN_ok hn h
  have hib := fun (h : isN nodes b = true) => isN_ok hn h
  have HIA := hid hia
  have HIB := hid hib
  clear hia hib hM hc
  cases ha : isN nodes a
  · rw [ha] at HA
    clear ha
    simp only [Bool.false_and]
    go_enter Try.func19, Try.ntmps19
    go_wp2_with fail
    refine wp_region_ext (by kernel_rfl) (by kernel_rfl) ?_
    repeat (go_big_quiet_step ((go_at_call 21; exact calls_ext _ (HA.out _ (Ext.gr _)))))
    refine wpQuiet_nil ?_
    rintro _ ⟨x, rfl⟩
    go_wp2_with fail
    go_ret
    exact ⟨rfl, x.gr⟩
  · have hoa := HIA.out ha
    rw [ha] at HA
    clear ha
    cases hb : isN nodes b
    · rw [hb] at HB
      clear hb
      simp only [Bool.true_and, Bool.false_and]
      go_enter Try.func19, Try.ntmps19
      go_wp2_with fail
      refine wp_region_ext (by kernel_rfl) (by kernel_rfl) ?_
      repeat (go_big_quiet_step ((go_at_call 21; first | (with_reducible exact calls_ext _ (HA.out _ (Ext.gr _))) | (with_reducible exact calls_ext _ (HB.out _ (Ext.gr _))))))
      refine wpQuiet_nil ?_
      rintro _ ⟨x, rfl⟩
      go_wp2_with fail
      go_ret
      exact ⟨rfl, x.gr⟩
    · have hob := HIB.out hb
      rw [hb] at HB
      clear hb
      obtain ⟨o1, o2⟩ := pr_ok hoa hob
      have look := fun (x : Ext w) => (HM.out.gr x.gr).look o1 o2
      simp only [Bool.true_and]
      obtain ⟨q, hq⟩ : ∃ q, S (pr a b) = q := ⟨_, rfl⟩
      rw [hq] at look ⊢
      have HP := hid (fun W => pair_any a b W)
      generalize pr a b = P at *
      obtain ⟨p1, p2⟩ := P
      simp only [pv] at look HP
      clear hq
      go_enter Try.func19, Try.ntmps19
      go_wp2_with fail
      refine wp_region_ext (by kernel_rfl) (by kernel_rfl) ?_
      repeat (go_big_quiet_step (first | (go_at_call 21; first | (with_reducible exact calls_ext _ (HA.out _ (Ext.gr _))) | (with_reducible exact calls_ext _ (HB.out _ (Ext.gr _)))) | (go_at_call 29; exact calls_ext _ (HP.out _))))
      refine wpQuiet_nil ?_
      rintro _ ⟨x, rfl⟩
      go_wp2_with fail
      go_ret
      exact ⟨rfl, x.gr⟩
end Go.Proofs.Ytlencagfkajcnaa
