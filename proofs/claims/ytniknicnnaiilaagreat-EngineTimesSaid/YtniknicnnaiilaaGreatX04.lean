/- Lemmas: what the functions of the engine answer, and which blocks they write. -/
import Derived.Laws.CopyOwn
import Derived.Laws.Externs
import Derived.Laws.StructEq
import Derived.Lib.AppendZerosOnto
import Derived.Lib.Overlaps
import Derived.Shelf.Abstract
import Derived.Test.YtniknicnnaiilaaGreatX01
import Derived.Test.YtniknicnnaiilaaGreatX02
import Derived.Test.YtniknicnnaiilaaGreatX03
section
namespace Go.Proofs.YtniknicnnaiilaaGreat
set_option maxRecDepth 100000
open Go.RowKit Go.Ext Go.BigFrame Go.Maps Go.MapKept
attribute [local go_sem] Ext.cell Ext.frozen Ext.lt Ext.le s1 s2 s3 s4 s5 s6 t1 t2 t3 t4 t5 t6
attribute [local go_sem ↓] Go.wp_at_zero Go.wp_at_succ
theorem zero185 (w : World) : (zeroValue 185).run Tryz.prog w = .ok (.agg #[.int .i64 0, .int .i64 0, .int .i64 0]) w := by kernel_rfl
theorem lookup_open {w : World} {mb : Nat} {op : List (Int × Opn)} (h : MI w mb (mp opV op)) (k : Int) : (Instr.lookup 155 (.map (some mb)) (.int .i64 k) true).run Tryz.prog w = .ok (.tuple #[opV ((lk op k).getD ⟨0, 0, 0⟩), .bool (lk op k).isSome]) w := by
  have := h.lookup (P := Tryz.prog) Tryz.underlying155 Tryz.underlying3 (zero185 w) k true
  rw [this]
  simp only [if_true, lk_mp]
  cases lk op k <;> rfl
set_option maxHeartbeats 2000000 in
theorem wantsO_any (k mb : Nat) (F : FS) (M : Bl) (ref turn : Int) (w : World) (h : FlowR w M k mb F) :
    Calls Tryz.prog 136 #[.pointer (some ⟨k, 0, none⟩), .int .i64 ref, .int .i64 turn] w (RetE (.bool (wantsF F ref turn)) w) := by
  obtain ⟨A, c, hc, hf, hr, hk⟩ := h.parts
  obtain ⟨c0, c1, c2, c3, c4, c5, c6, c7, c8, c9, c10, c11⟩ := hf
  have hlk := lookup_open h.map ref
  clear h hr
  refine retE ?_
  unfold wantsF
  by_cases ht : turn = -1
  · subst ht
    rw [if_pos rfl]
    cases hx : lk F.op ref with
    | none =>
      rw [hx] at hlk
      simp only [Option.getD_none, Option.isSome_none, opV] at hlk
      go_enter Tryz.func136, Tryz.ntmps136
      go_wp2_with fail
      go_ret
      exact ⟨rfl, (Gr.refl w).alloc _⟩
    | some x =>
      rw [hx] at hlk
      rcases x with ⟨xk, xi, xw⟩
      simp only [Option.getD_some, Option.isSome_some, opV] at hlk
      by_cases h1 : xk = 7
      · by_cases h2 : xw = 0
        · subst h1 h2
          go_enter Tryz.func136, Tryz.ntmps136
          go_wp2_with fail
          go_ret
          exact ⟨rfl, (Gr.refl w).alloc _⟩
        · subst h1
          go_enter Tryz.func136, Tryz.ntmps136
          go_wp2_with fail
          go_ret
          exact ⟨by simp, (Gr.refl w).alloc _⟩
      · go_enter Tryz.func136, Tryz.ntmps136
        go_wp2_with fail
        go_ret
        exact ⟨by simp [h1], (Gr.refl w).alloc _⟩
  · rw [if_neg ht]
    clear hlk
    by_cases h1 : F.task = 1 <;> by_cases h2 : F.place = ref <;> by_cases h3 : F.turn = turn
    all_goals
      go_enter Tryz.func136, Tryz.ntmps136
      go_wp2_with fail
      go_ret
      exact ⟨by simp_all, Gr.refl w⟩
set_option maxHeartbeats 2000000 in
theorem rightO_any (k mb : Nat) (F : FS) (M : Bl) (d : Value) (data : List UInt8) (now : Int) (w : World) (h : FlowR w M k mb F) (hd : Bys w d data) (hl : F.l.length ≤ 1000000) :
    Calls Tryz.prog 180 #[.pointer (some ⟨k, 0, none⟩), d, .int .i64 now] w (RetE (.bool (rightF F data now)) w) := by
  obtain ⟨A, c, hc, hf, hr, hk⟩ := h.parts
  obtain ⟨c0, c1, c2, c3, c4, c5, c6, c7, c8, c9, c10, c11⟩ := hf
  obtain ⟨Ad, cd, rfl, _, _, _⟩ := hd
  clear h
  refine retE ?_
  have HR := hid (show rightF F data now = (decide ((data.length : Int) ≤ 4096) && (decide (0 ≤ now) && (decide (now ≤ 1099511627776) && (match F.l.getLast? with | none => true | some e => decide (e.tick ≤ now))))) by
    unfold rightF
    rw [Bool.and_assoc, Bool.and_assoc]
    congr 1
    refine decide_eq_decide.2 ?_
    omega)
  rw [HR.out]
  clear HR
  have go : ∀ b : Bool, (match F.l.getLast? with | none => true | some e => decide (e.tick ≤ now)) = b → Calls Tryz.prog 180 #[.pointer (some ⟨k, 0, none⟩), .slice Ad data.length cd, .int .i64 now] w (fun e w' => e = .returned (.bool (decide ((data.length : Int) ≤ 4096) && (decide (0 ≤ now) && (decide (now ≤ 1099511627776) && b)))) ∧ Gr w w') := by
    intro bb hbb
    by_cases h1 : (data.length : Int) ≤ 4096
    · by_cases h2 : 0 ≤ now
      · by_cases h3 : now ≤ 1099511627776
        · cases he : F.l.getLast? with
          | none =>
            rw [he] at hbb
            simp only at hbb
            subst hbb
            have hl0 : F.l.length = 0 := by rw [List.getLast?_eq_none_iff.1 he]; rfl
            have hz : ((F.l.length : Int) == 0) = true := by rw [hl0]; rfl
            rw [hl0] at c4
            simp only [h1, h2, h3, decide_true, Bool.and_true]
            clear hr
            go_enter Tryz.func180, Tryz.ntmps180
            go_wp2_with fail
            refine wp_region_ext (by kernel_rfl) (by kernel_rfl) ?_
            repeat (go_big_quiet_step (fail))
            refine wpQuiet_nil ?_
            rintro _ ⟨x, rfl⟩
            go_wp2_with fail
            go_ret
            exact ⟨rfl, x.gr⟩
          | some e =>
            rw [he] at hbb
            simp only at hbb
            obtain ⟨b, off, d', rfl, hb, hM, hd', h0, hn, hnc, hcell⟩ := hr.last he
            have e1 := hcell 1 (.int .i64 e.tick) rfl
            clear hcell hr hd' he
            generalize F.l.length = n at *
            have hz : ((n : Int) == 0) = false := by
              have : (n : Int) ≠ 0 := by omega
              simpa using this
            have k0 : (0 : Int) ≤ (n : Int) - 1 := by omega
            have k1 : (n : Int) - 1 < (n : Int) := by omega
            by_cases h4 : e.tick ≤ now
            · have hbb' : bb = true := by rw [← hbb]; simp [h4]
              subst hbb'
              simp only [h1, h2, h3, decide_true, Bool.and_true]
              clear hbb
              go_enter Tryz.func180, Tryz.ntmps180
              go_wp2_with fail
              refine wp_region_ext (by kernel_rfl) (by kernel_rfl) ?_
              repeat (go_big_quiet_step (fail))
              refine wpQuiet_nil ?_
              rintro _ ⟨x, rfl⟩
              go_wp2_with fail
              go_ret
              exact ⟨rfl, x.gr⟩
            · have hbb' : bb = false := by rw [← hbb]; simp [h4]
              subst hbb'
              simp only [h1, h2, h3, decide_true, Bool.and_false]
              clear hbb
              have h4 : decide (e.tick ≤ now) = false := by simpa using h4
              go_enter Tryz.func180, Tryz.ntmps180
              go_wp2_with fail
              refine wp_region_ext (by kernel_rfl) (by kernel_rfl) ?_
              repeat (go_big_quiet_step (fail))
              refine wpQuiet_nil ?_
              rintro _ ⟨x, rfl⟩
              go_wp2_with fail
              go_ret
              exact ⟨rfl, x.gr⟩
        · simp only [h1, h2, h3, decide_true, decide_false, Bool.false_and, Bool.and_false]
          clear hbb hr
          have h3 : decide (now ≤ 1099511627776) = false := by simpa using h3
          go_enter Tryz.func180, Tryz.ntmps180
          go_wp2_with fail
          refine wp_region_ext (by kernel_rfl) (by kernel_rfl) ?_
          repeat (go_big_quiet_step (fail))
          refine wpQuiet_nil ?_
          rintro _ ⟨x, rfl⟩
          go_wp2_with fail
          go_ret
          exact ⟨rfl, x.gr⟩
      · simp only [h1, h2, decide_true, decide_false, Bool.false_and, Bool.and_false]
        clear hbb hr
        have h2 : decide (0 ≤ now) = false := by simpa using h2
        go_enter Tryz.func180, Tryz.ntmps180
        go_wp2_with fail
        refine wp_region_ext (by kernel_rfl) (by kernel_rfl) ?_
        repeat (go_big_quiet_step (fail))
        refine wpQuiet_nil ?_
        rintro _ ⟨x, rfl⟩
        go_wp2_with fail
        go_ret
        exact ⟨rfl, x.gr⟩
    · simp only [h1, decide_false, Bool.false_and]
      clear hbb hr
      have h1 : decide ((data.length : Int) ≤ 4096) = false := by simpa using h1
      go_enter Tryz.func180, Tryz.ntmps180
      go_wp2_with fail
      refine wp_region_ext (by kernel_rfl) (by kernel_rfl) ?_
      repeat (go_big_quiet_step (fail))
      refine wpQuiet_nil ?_
      rintro _ ⟨x, rfl⟩
      go_wp2_with fail
      go_ret
      exact ⟨rfl, x.gr⟩
  exact go _ rfl
end Go.Proofs.YtniknicnnaiilaaGreat
end
section
namespace Go.Proofs.YtniknicnnaiilaaGreat
set_option maxRecDepth 100000
open Go.RowKit Go.Ext
theorem cmpL_self : ∀ xs : List Int, cmpL xs xs = 0
  | [] => rfl
  | x :: r => by simp [cmpL, cmpL_self r]
theorem cmpL_eq : ∀ xs ys : List Int, cmpL xs ys = 0 → xs = ys
  | [], [], _ => rfl
  | [], _ :: _, h => by simp [cmpL] at h
  | _ :: _, [], h => by simp [cmpL] at h
  | x :: r, y :: s, h => by
    simp only [cmpL] at h
    split at h
    · omega
    · split at h
      · omega
      · rw [show x = y by omega, cmpL_eq r s h]
theorem cmpL_neg : ∀ xs ys : List Int, cmpL ys xs = - cmpL xs ys
  | [], [] => rfl
  | [], _ :: _ => rfl
  | _ :: _, [] => rfl
  | x :: r, y :: s => by
    simp only [cmpL]
    rcases Int.lt_trichotomy x y with h | h | h
    · rw [if_neg (by omega), if_pos h, if_pos h]; rfl
    · rw [if_neg (by omega), if_neg (by omega), if_neg (by omega), if_neg (by omega), cmpL_neg r s]
    · rw [if_pos h, if_neg (by omega), if_pos h]
theorem cmpL_trans : ∀ xs ys zs : List Int, cmpL xs ys < 0 → cmpL ys zs < 0 → cmpL xs zs < 0
  | [], [], _, h, _ => by simp [cmpL] at h
  | [], _ :: _, [], _, h => by simp [cmpL] at h
  | [], _ :: _, _ :: _, _, _ => by simp [cmpL]
  | _ :: _, [], _, h, _ => by simp [cmpL] at h
  | _ :: _, _ :: _, [], _, h => by simp [cmpL] at h
  | x :: r, y :: s, z :: t, h, k => by
    simp only [cmpL] at h k ⊢
    rcases Int.lt_trichotomy x y with e | e | e
    · rcases Int.lt_trichotomy y z with f | f | f
      · rw [if_pos (by omega)]; omega
      · rw [if_pos (by omega)]; omega
      · rw [if_neg (by omega), if_pos f] at k; omega
    · subst e
      rw [if_neg (by omega), if_neg (by omega)] at h
      rcases Int.lt_trichotomy x z with f | f | f
      · rw [if_pos f]; omega
      · subst f
        rw [if_neg (by omega), if_neg (by omega)] at k ⊢
        exact cmpL_trans r s t h k
      · rw [if_neg (by omega), if_pos f] at k; omega
    · rw [if_neg (by omega), if_pos e] at h; omega
def cmpI (x y : It) : Int := cmpL (il x) (il y)
theorem cmpI_self (x : It) : cmpI x x = 0 := cmpL_self _
theorem cmpI_eq {x y : It} (h : cmpI x y = 0) : x = y := by
  have := cmpL_eq _ _ h
  obtain ⟨a, b, c, d, e, f⟩ := x
  obtain ⟨a', b', c', d', e', f'⟩ := y
  simp only [il, List.cons.injEq] at this
  obtain ⟨rfl, rfl, rfl, rfl, rfl, rfl, _⟩ := this
  rfl
theorem cmpI_neg (x y : It) : cmpI y x = - cmpI x y := cmpL_neg _ _
theorem cmpI_trans {x y z : It} (h : cmpI x y < 0) (k : cmpI y z < 0) : cmpI x z < 0 := cmpL_trans _ _ _ h k
abbrev z0 : It := (0, 0, 0, 0, 0, 0)
def Srt (L : List It) : Prop := L.Pairwise fun a b => cmpI a b < 0
theorem Srt.lt {L : List It} (h : Srt L) {i j : Nat} (hij : i < j) (hj : j < L.length) : cmpI (L.getD i z0) (L.getD j z0) < 0 := by
  have := List.pairwise_iff_getElem.1 h i j (by omega) hj hij
  simpa [List.getD, hj, show i < L.length by omega] using this
theorem Srt.mono {L : List It} (h : Srt L) {x : It} {i j : Nat} (hij : i ≤ j) (hj : j < L.length) (hx : cmpI (L.getD j z0) x < 0) : cmpI (L.getD i z0) x < 0 := by
  rcases Nat.lt_or_ge i j with h1 | h1
  · exact cmpI_trans (h.lt h1 hj) hx
  · rwa [show i = j by omega]
def pos (L : List It) (x : It) : Nat := (L.takeWhile fun y => decide (cmpI y x < 0)).length
theorem pos_le (L : List It) (x : It) : pos L x ≤ L.length := (List.takeWhile_sublist _).length_le
theorem pos_eq : ∀ (L : List It) (x : It) (i : Nat), i ≤ L.length → (∀ t, t < i → cmpI (L.getD t z0) x < 0) → (i < L.length → ¬ cmpI (L.getD i z0) x < 0) → pos L x = i
  | [], x, i, h, _, _ => by simp at h; simp [pos, h]
  | y :: r, x, 0, _, _, h => by
    have := h (by simp)
    simp only [List.getD_cons_zero] at this
    simp [pos, this]
  | y :: r, x, i + 1, h, h1, h2 => by
    have e := h1 0 (by omega)
    simp only [List.getD_cons_zero] at e
    have := pos_eq r x i (by simpa using h) (fun t ht => by simpa using h1 (t + 1) (by omega)) (fun hi => by simpa using h2 (by simpa using hi))
    unfold pos at this ⊢
    rw [List.takeWhile_cons, if_pos (by simpa using e)]
    simp [this]
theorem pos_lt : ∀ (L : List It) (x : It) (t : Nat), t < pos L x → cmpI (L.getD t z0) x < 0
  | [], x, t, h => by simp [pos] at h
  | y :: r, x, t, h => by
    unfold pos at h
    rw [List.takeWhile_cons] at h
    split at h
    · rename_i e
      cases t with
      | zero => simpa using e
      | succ t => simpa using pos_lt r x t (by simpa [pos] using h)
    · simp at h
theorem pos_ge : ∀ (L : List It) (x : It), pos L x < L.length → ¬ cmpI (L.getD (pos L x) z0) x < 0
  | [], x, h => by simp at h
  | y :: r, x, h => by
    by_cases e : cmpI y x < 0
    · have : pos (y :: r) x = pos r x + 1 := by simp [pos, e]
      rw [this] at h ⊢
      simpa using pos_ge r x (by simpa using h)
    · have : pos (y :: r) x = 0 := by simp [pos, e]
      rw [this]
      simpa using e
def has (L : List It) (x : It) : Bool := decide (pos L x < L.length) && decide (L.getD (pos L x) z0 = x)
theorem has_iff {L : List It} (h : Srt L) (x : It) : has L x = true ↔ x ∈ L := by
  unfold has
  constructor
  · intro e
    simp only [Bool.and_eq_true, decide_eq_true_eq] at e
    rw [← e.2]
    simp [List.getD, e.1]
  · intro e
    obtain ⟨i, hi, rfl⟩ := List.getElem_of_mem e
    have hg : L.getD i z0 = L[i] := by simp [List.getD, hi]
    have : pos L L[i] = i := pos_eq _ _ _ (by omega) (fun t ht => by rw [← hg]; exact h.lt ht hi) (fun _ => by rw [hg, cmpI_self]; omega)
    rw [this]
    simp [hi]
def ins (L : List It) (x : It) : List It := L.take (pos L x) ++ x :: L.drop (pos L x)
theorem ins_srt {L : List It} (h : Srt L) {x : It} (hx : has L x = false) : Srt (ins L x) := by
  have hp := pos_le L x
  unfold ins Srt
  rw [List.pairwise_append, List.pairwise_cons]
  have hgt : ∀ y ∈ L.drop (pos L x), cmpI x y < 0 := by
    intro y hy
    obtain ⟨j, hj, rfl⟩ := List.getElem_of_mem hy
    simp only [List.length_drop] at hj
    rw [List.getElem_drop]
    have h1 := pos_ge L x (by omega)
    have h2 : cmpI (L.getD (pos L x + j) z0) x ≥ 0 := by
      by_cases e : cmpI (L.getD (pos L x + j) z0) x < 0
      · exact absurd (h.mono (Nat.le_add_right _ _) (by omega) e) h1
      · omega
    have h3 : L.getD (pos L x + j) z0 = L[pos L x + j] := by simp [List.getD, show pos L x + j < L.length by omega]
    rw [h3] at h2
    have h4 : cmpI L[pos L x + j] x ≠ 0 := fun e => by
      have := cmpI_eq e
      have hm : x ∈ L := by rw [← this]; exact List.getElem_mem _
      rw [(has_iff h x).2 hm] at hx
      cases hx
    have := cmpI_neg x L[pos L x + j]
    omega
  refine ⟨List.Pairwise.sublist (List.take_sublist _ _) h, ⟨hgt, List.Pairwise.sublist (List.drop_sublist _ _) h⟩, ?_⟩
  intro a ha b hb
  have hax : cmpI a x < 0 := by
    obtain ⟨i, hi, rfl⟩ := List.getElem_of_mem ha
    simp only [List.length_take] at hi
    have := pos_lt L x i (by omega)
    rw [List.getElem_take]
    simpa [List.getD, show i < L.length by omega] using this
  rcases List.mem_cons.1 hb with rfl | hb
  · exact hax
  · exact cmpI_trans hax (hgt b hb)
theorem ins_length (L : List It) (x : It) : (ins L x).length = L.length + 1 := by
  have := pos_le L x
  simp [ins]
  omega
def cs6 (L : List It) : List Value := L.flatMap ic
theorem ic_length (x : It) : (ic x).length = 6 := rfl
theorem cs6_length : ∀ L : List It, (cs6 L).length = L.length * 6
  | [] => rfl
  | x :: r => by
    have := cs6_length r
    unfold cs6 at this ⊢
    simp only [List.flatMap_cons, List.length_append, ic_length, List.length_cons, this]
    omega
theorem cs6_one (L : List It) : ∀ u ∈ cs6 L, u.oneCell' = true := by
  intro u hu
  obtain ⟨x, _, h⟩ := List.mem_flatMap.1 hu
  simp only [ic, List.mem_cons, List.not_mem_nil, or_false] at h
  rcases h with rfl | rfl | rfl | rfl | rfl | rfl <;> rfl
theorem cs6_get : ∀ (L : List It) (i j : Nat), i < L.length → j < 6 → (cs6 L)[i * 6 + j]? = (ic (L.getD i z0))[j]?
  | [], i, _, h, _ => by simp at h
  | x :: r, 0, j, _, hj => by
    simp only [cs6, List.flatMap_cons, List.getD_cons_zero, Nat.zero_mul, Nat.zero_add]
    rw [List.getElem?_append_left (by rw [ic_length]; exact hj)]
  | x :: r, i + 1, j, h, hj => by
    have := cs6_get r i j (by simpa using h) hj
    simp only [cs6, List.flatMap_cons, List.getD_cons_succ] at this ⊢
    rw [List.getElem?_append_right (by rw [ic_length]; omega), ic_length, show (i + 1) * 6 + j - 6 = i * 6 + j by omega]
    exact this
theorem cs6_app (L M : List It) : cs6 (L ++ M) = cs6 L ++ cs6 M := by simp [cs6]
theorem cs6_take : ∀ (L : List It) (k : Nat), cs6 (L.take k) = (cs6 L).take (k * 6)
  | [], k => by simp [cs6]
  | x :: r, 0 => by simp [cs6]
  | x :: r, k + 1 => by
    have := cs6_take r k
    simp only [cs6, List.take_succ_cons, List.flatMap_cons] at this ⊢
    rw [List.take_append, ic_length, this, show (k + 1) * 6 - 6 = k * 6 by omega, List.take_of_length_le (l := ic x) (by rw [ic_length]; omega)]
theorem cs6_drop : ∀ (L : List It) (k : Nat), cs6 (L.drop k) = (cs6 L).drop (k * 6)
  | [], k => by simp [cs6]
  | x :: r, 0 => by simp [cs6]
  | x :: r, k + 1 => by
    have := cs6_drop r k
    simp only [cs6, List.drop_succ_cons, List.flatMap_cons] at this ⊢
    rw [List.drop_append, ic_length, this, show (k + 1) * 6 - 6 = k * 6 by omega, (List.drop_eq_nil_of_le (by rw [ic_length]; omega) : (ic x).drop ((k + 1) * 6) = []), List.nil_append]
def Row (w : World) (A : Option Addr) (L : List It) : Prop :=
  L ≠ [] → ∃ b off, A = some ⟨b, off, none⟩ ∧ ∀ i, i < L.length → ∀ j u, (ic (L.getD i z0))[j]? = some u → w.cell? ⟨b, off + i * 6 + j, none⟩ = some u
theorem Row.keep {w w' : World} {A : Option Addr} {L : List It} (h : Row w A L) (hk : ∀ b, (∃ off, A = some ⟨b, off, none⟩) → b < w.heap.size → w'.heap[b]? = w.heap[b]?) : Row w' A L := fun hn => by
  obtain ⟨b, off, rfl, hc⟩ := h hn
  refine ⟨b, off, rfl, fun i hi j u hu => ?_⟩
  have h1 := hc i hi j u hu
  exact (World.cell?_of_block (hk b ⟨off, rfl⟩ (World.block_lt_of_cell? w _ h1))).trans h1
theorem Row.gr {w w' : World} {A : Option Addr} {L : List It} (h : Row w A L) (g : Gr w w') : Row w' A L := h.keep fun b _ hb => g.block b hb
theorem Row.at_ {w : World} {A : Option Addr} {L : List It} (h : Row w A L) {i : Nat} (hi : i < L.length) : ∃ b off, A = some ⟨b, off, none⟩ ∧ b < w.heap.size ∧
    w.cell? ⟨b, off + i * 6, none⟩ = some (.int .i64 (L.getD i z0).1) ∧ w.cell? ⟨b, off + i * 6 + 1, none⟩ = some (.int .i64 (L.getD i z0).2.1) ∧ w.cell? ⟨b, off + i * 6 + 2, none⟩ = some (.int .i64 (L.getD i z0).2.2.1) ∧
    w.cell? ⟨b, off + i * 6 + 3, none⟩ = some (.int .i64 (L.getD i z0).2.2.2.1) ∧ w.cell? ⟨b, off + i * 6 + 4, none⟩ = some (.int .i64 (L.getD i z0).2.2.2.2.1) ∧ w.cell? ⟨b, off + i * 6 + 5, none⟩ = some (.int .i64 (L.getD i z0).2.2.2.2.2) := by
  obtain ⟨b, off, rfl, hc⟩ := h (by rintro rfl; simp at hi)
  refine ⟨b, off, rfl, World.block_lt_of_cell? w _ (hc i hi 0 _ rfl), hc i hi 0 _ rfl, hc i hi 1 _ rfl, hc i hi 2 _ rfl, hc i hi 3 _ rfl, hc i hi 4 _ rfl, hc i hi 5 _ rfl⟩
theorem Row.of_own {w : World} {A : Option Addr} {L : List It} {B c : Nat} (h : w.ownsRow B 92 6 (.slice A L.length c) L.length (cs6 L)) : Row w A L := fun hn => by
  obtain ⟨b, off, rfl, hc⟩ := Rd.of_own h (by intro e; have := cs6_length L; rw [show cs6 L = [] from e] at this; exact hn (List.eq_nil_of_length_eq_zero (by simp at this; omega)))
  refine ⟨b, off, rfl, fun i hi j u hu => ?_⟩
  rw [Nat.add_assoc]
  refine hc _ _ ?_
  rw [cs6_get L i j hi (by have := (List.getElem?_eq_some_iff.1 hu).1; rwa [ic_length] at this)]
  exact hu
end Go.Proofs.YtniknicnnaiilaaGreat
end
section
namespace Go.Proofs.YtniknicnnaiilaaGreat
set_option maxRecDepth 100000
open Go.RowKit Go.Ext Go.BigFrame
attribute [local go_sem] Ext.cell Ext.frozen Ext.lt Ext.le s1 s2 s3 s4 s5 s6 t1 t2 t3 t4 t5 t6
attribute [local go_sem ↓] Go.wp_at_zero Go.wp_at_succ
theorem numbers6 (a b c d e f : Int) (w : World) : Calls Tryz.prog 121 #[.agg #[.int .i64 a, .int .i64 b, .int .i64 c, .int .i64 d, .int .i64 e, .int .i64 f]] w (RetP (fun w' v => Ints w' v [a, b, c, d, e, f]) w) := numbers_any (a, b, c, d, e, f) w
set_option maxHeartbeats 1000000 in
theorem closure6 (a b c d e f a' b' c' d' e' f' : Int) (w : World) : Calls Tryz.prog 119 #[.agg #[.int .i64 a, .int .i64 b, .int .i64 c, .int .i64 d, .int .i64 e, .int .i64 f], .agg #[.int .i64 a', .int .i64 b', .int .i64 c', .int .i64 d', .int .i64 e', .int .i64 f']] w
    (RetE (.int .i64 (cmpI (a, b, c, d, e, f) (a', b', c', d', e', f'))) w) := by
  refine retE ?_
  have HC := hid (show cmpL [a, b, c, d, e, f] [a', b', c', d', e', f'] = cmpI (a, b, c, d, e, f) (a', b', c', d', e', f') from rfl)
  obtain ⟨r, hr⟩ : ∃ r, cmpI (a, b, c, d, e, f) (a', b', c', d', e', f') = r := ⟨_, rfl⟩
  rw [hr] at HC ⊢
  clear hr
  go_enter Tryz.func119, Tryz.ntmps119
  go_wp2_with fail
  have G0 := hid (((Gr.refl w).alloc (.cells #[.int .i64 a, .int .i64 b, .int .i64 c, .int .i64 d, .int .i64 e, .int .i64 f] 92)).alloc (.cells #[.int .i64 a', .int .i64 b', .int .i64 c', .int .i64 d', .int .i64 e', .int .i64 f'] 92))
  go_region_held3 (fun w' => (w'.cell? ⟨w.heap.size, 0, none⟩ = some (.int .i64 a) ∧ w'.cell? ⟨w.heap.size, 1, none⟩ = some (.int .i64 b) ∧ w'.cell? ⟨w.heap.size, 2, none⟩ = some (.int .i64 c) ∧ w'.cell? ⟨w.heap.size, 3, none⟩ = some (.int .i64 d) ∧ w'.cell? ⟨w.heap.size, 4, none⟩ = some (.int .i64 e) ∧ w'.cell? ⟨w.heap.size, 5, none⟩ = some (.int .i64 f)) ∧ w'.cell? ⟨w.heap.size + 1, 0, none⟩ = some (.int .i64 a') ∧ w'.cell? ⟨w.heap.size + 1, 1, none⟩ = some (.int .i64 b') ∧ w'.cell? ⟨w.heap.size + 1, 2, none⟩ = some (.int .i64 c') ∧ w'.cell? ⟨w.heap.size + 1, 3, none⟩ = some (.int .i64 d') ∧ w'.cell? ⟨w.heap.size + 1, 4, none⟩ = some (.int .i64 e') ∧ w'.cell? ⟨w.heap.size + 1, 5, none⟩ = some (.int .i64 f'))
    (first | go_keep | (refine ⟨⟨?_, ?_, ?_, ?_, ?_, ?_⟩, ?_, ?_, ?_, ?_, ?_, ?_⟩ <;> go_simp; done))
    (first
      | (go_at_call 121
         refine (numbers6 _ _ _ _ _ _ _).mono ?_
         rintro e _ ⟨v1, y1, rfl, rfl, h1⟩
         have H1 := hid h1
         clear h1)
      | (go_at_call 120
         refine (compare_any [a, b, c, d, e, f] [a', b', c', d', e', f'] _ _ _ (Ints.gr (Hid.out (by assumption)) (Ext.gr _)) (Hid.out (by assumption))).mono ?_
         rintro e _ ⟨rfl, rfl⟩))
  go_wp2_with fail
  go_ret
  exact ⟨by rw [← HC.out]; rfl, (G0.out.drew.ext _).ext _⟩
end Go.Proofs.YtniknicnnaiilaaGreat
end
section
namespace Go.Proofs.YtniknicnnaiilaaGreat
set_option maxRecDepth 100000
open Go.RowKit Go.Ext Go.BigFrame
theorem guard92 : Tryz.prog.eqGuardType Tryz.prog.depth 92 = false := by kernel_rfl
theorem stood92 : Tryz.prog.stoodInHeld 92 = false := by kernel_rfl
theorem str92 : Tryz.prog.underlying 92 = some (.struct (Tryz.prog.fieldsOf 92)) := by kernel_rfl
theorem eqI (a b c d e f a' b' c' d' e' f' : Int) : decide (((a', b', c', d', e', f') : It) = (a, b, c, d, e, f)) = (((((((a' == a) && (b' == b)) && (c' == c)) && (d' == d)) && (e' == e)) && (f' == f))) := by
  rw [Bool.eq_iff_iff]
  simp only [decide_eq_true_eq, Prod.mk.injEq, Bool.and_eq_true, beq_iff_eq, and_assoc]
theorem equal92 (a b c d e f a' b' c' d' e' f' : Int) (w : World) : (Op.equalIn 10000 92 (.agg #[.int .i64 a', .int .i64 b', .int .i64 c', .int .i64 d', .int .i64 e', .int .i64 f']) (.agg #[.int .i64 a, .int .i64 b, .int .i64 c, .int .i64 d, .int .i64 e, .int .i64 f])).run Tryz.prog w = .ok (decide (((a', b', c', d', e', f') : It) = (a, b, c, d, e, f))) w := by
  rw [eqI]
  have u3 := Tryz.underlying3
  have a3 := Tryz.isAgg3
  have z3 := Tryz.sizeOf3
  rw [show (10000 : Nat) = 9999 + 1 from rfl, run_equalIn_agg w 9999 92 _ _ str92 stood92]
  simp only [Program.fieldsOf, Tryz.underlying92]
  go_simp
  cases h1 : a' == a <;> cases h2 : b' == b <;> cases h3 : c' == c <;> cases h4 : d' == d <;> cases h5 : e' == e <;> cases h6 : f' == f <;> simp_all
section
variable (a b c d e f a' b' c' d' e' f' : Int) (w : World)
theorem eq92 : (binOp .eql 92 (.agg #[.int .i64 a', .int .i64 b', .int .i64 c', .int .i64 d', .int .i64 e', .int .i64 f']) (.agg #[.int .i64 a, .int .i64 b, .int .i64 c, .int .i64 d, .int .i64 e, .int .i64 f])).run Tryz.prog w = .ok (.bool (decide (((a', b', c', d', e', f') : It) = (a, b, c, d, e, f)))) w := by
  rw [run_eql_struct, equal92]; rfl
end
end Go.Proofs.YtniknicnnaiilaaGreat
end
section
namespace Go.Proofs.YtniknicnnaiilaaGreat
set_option maxRecDepth 100000
open Go.RowKit Go.Ext Go.BigFrame
attribute [local go_sem] Ext.cell Ext.frozen Ext.lt Ext.le s1 s2 s3 s4 s5 s6 t1 t2 t3 t4 t5 t6
attribute [local go_sem ↓] Go.wp_at_zero Go.wp_at_succ
theorem box6 {a b c d e f : Int} {w W : World} (g : Gr (w.alloc (.cells #[.int .i64 a, .int .i64 b, .int .i64 c, .int .i64 d, .int .i64 e, .int .i64 f] 92)) W) :
    W.cell? ⟨w.heap.size, 0, none⟩ = some (.int .i64 a) ∧ W.cell? ⟨w.heap.size, 1, none⟩ = some (.int .i64 b) ∧ W.cell? ⟨w.heap.size, 2, none⟩ = some (.int .i64 c) ∧ W.cell? ⟨w.heap.size, 3, none⟩ = some (.int .i64 d) ∧ W.cell? ⟨w.heap.size, 4, none⟩ = some (.int .i64 e) ∧ W.cell? ⟨w.heap.size, 5, none⟩ = some (.int .i64 f) ∧ w.heap.size < W.heap.size := by
  refine ⟨?_, ?_, ?_, ?_, ?_, ?_, ?_⟩
  iterate 6 (rw [g.cell (by simp)]; go_simp)
  have := g.size
  simp at this
  omega
set_option maxHeartbeats 2000000 in
theorem search_any (A : Option Addr) (cp : Nat) (L : List It) (x : It) (w : World) (hr : Row w A L) (hs : Srt L) (hl : L.length ≤ 4398046511103) :
    Calls Tryz.prog 118 #[.slice A L.length cp, iv x, .func (.func 119) #[] #[]] w (RetP (fun _ v => ∃ r, v = .tuple #[.int .i64 (pos L x), .bool r]) w) := by
  have HR := hid hr
  have HS := hid hs
  clear hr hs
  have HP := hid (fun i h1 h2 (h3 : i < L.length → 0 ≤ cmpI (L.getD i z0) x) => pos_eq L x i h1 h2 (fun h => Int.not_lt.2 (h3 h)))
  obtain ⟨p, hp⟩ : ∃ p, pos L x = p := ⟨_, rfl⟩
  rw [hp] at HP ⊢
  clear hp
  obtain ⟨a, b, c, d, e, f⟩ := x
  simp only [iv]
  go_enter Tryz.func118, Tryz.ntmps118
  go_wp2_with fail
  have HG0 := hid (Gr.refl (w.alloc (.cells #[.int .i64 a, .int .i64 b, .int .i64 c, .int .i64 d, .int .i64 e, .int .i64 f] 92)))
  go_loopw [9, 10, 11] (fun i j _ wr => ∃ lo hi : Nat, lo ≤ hi ∧ hi ≤ L.length ∧ i = .int .i64 lo ∧ j = .int .i64 hi ∧ (∀ t, t < lo → cmpI (L.getD t z0) (a, b, c, d, e, f) < 0) ∧ (hi < L.length → 0 ≤ cmpI (L.getD hi z0) (a, b, c, d, e, f)) ∧ Gr (w.alloc (.cells #[.int .i64 a, .int .i64 b, .int .i64 c, .int .i64 d, .int .i64 e, .int .i64 f] 92)) wr) (fun i j _ _ => (intOf j).toNat - (intOf i).toNat)
  case atStart => exact ⟨0, L.length, Nat.zero_le _, Nat.le_refl _, rfl, rfl, fun t ht => absurd ht (by omega), fun h => absurd h (by omega), HG0.out⟩
  case round =>
    obtain ⟨lo, hi, hlh, hhl, rfl, rfl, hlo, hhi, hg⟩ := hrel
    have HG := hid hg
    have HLO := hid hlo
    have HHI := hid hhi
    clear hlo hhi hg
    obtain ⟨b0, b1, b2, b3, b4, b5, hbl⟩ := box6 HG.out
    by_cases hlt : lo < hi
    · obtain ⟨m, hm⟩ : ∃ m : Nat, (lo + hi) / 2 = m := ⟨_, rfl⟩
      have hm1 : lo ≤ m := by omega
      have hm2 : m < hi := by omega
      obtain ⟨bb, off, rfl, hbb, c0, c1, c2, c3, c4, c5⟩ := (HR.out.gr (((Gr.refl w).alloc _).trans HG.out)).at_ (i := m) (by omega)
      obtain ⟨⟨a', b', c', d', e', f'⟩, hy⟩ : ∃ y, L.getD m z0 = y := ⟨_, rfl⟩
      rw [hy] at c0 c1 c2 c3 c4 c5
      simp only at c0 c1 c2 c3 c4 c5
      have HY := hid hy
      clear hy
      have hmi : ((lo : Int) + (hi : Int)) / 2 = (m : Int) := by omega
      have HM := hid hm
      clear hm
      have HC := fun W => closure6 a' b' c' d' e' f' a b c d e f W
      obtain ⟨r, hrr⟩ : ∃ r, cmpI (a', b', c', d', e', f') (a, b, c, d, e, f) = r := ⟨_, rfl⟩
      rw [hrr] at HC
      have HRR := hid hrr
      clear hrr
      go_wp2_with fail
      refine wp_region_ext (by kernel_rfl) (by kernel_rfl) ?_
      repeat (go_big_quiet_step (first | (go_at_fn 40; rename_i x; exact calls_ext _ (HC _)) | (go_at_call 119; rename_i x; exact calls_ext _ (HC _))))
      refine wpQuiet_nil ?_
      rintro _ ⟨x, rfl⟩
      by_cases hr0 : r < 0
      · go_wp2_with fail
        go_roundw
        case rel => exact ⟨m + 1, hi, by omega, hhl, by go_num, rfl, fun t ht => HS.out.mono (j := m) (by omega) (by omega) (by rw [HY.out, HRR.out]; exact hr0), HHI.out, HG.out.ext _⟩
        case measure => simp [intOf]; omega
      · go_wp2_with fail
        go_roundw
        case rel => exact ⟨lo, m, by omega, by omega, rfl, by go_num, HLO.out, fun _ => by rw [HY.out, HRR.out]; exact Int.not_lt.1 hr0, HG.out.ext _⟩
        case measure => simp [intOf]; omega
    · have hle : lo = hi := by omega
      subst hle
      have hpe : p = lo := HP.out lo (by omega) HLO.out HHI.out
      subst hpe
      clear HP
      by_cases hn : p < L.length
      · obtain ⟨bb, off, rfl, hbb, c0, c1, c2, c3, c4, c5⟩ := (HR.out.gr (((Gr.refl w).alloc _).trans HG.out)).at_ (i := p) (by omega)
        obtain ⟨⟨a', b', c', d', e', f'⟩, hy⟩ : ∃ y, L.getD p z0 = y := ⟨_, rfl⟩
        rw [hy] at c0 c1 c2 c3 c4 c5
        simp only at c0 c1 c2 c3 c4 c5
        clear hy
        have HC := fun W => closure6 a' b' c' d' e' f' a b c d e f W
        generalize cmpI (a', b', c', d', e', f') (a, b, c, d, e, f) = r at HC
        have hpn : (p : Int) < (L.length : Int) := by omega
        go_wp2_with fail
        refine wp_region_ext (by kernel_rfl) (by kernel_rfl) ?_
        repeat (go_big_quiet_step (first | (go_at_fn 40; rename_i x; exact calls_ext _ (HC _)) | (go_at_call 119; rename_i x; exact calls_ext _ (HC _))))
        refine wpQuiet_nil ?_
        rintro _ ⟨x, rfl⟩
        go_wp2_with fail
        go_ret2
        exact ⟨_, ⟨x.val, (((Gr.refl w).alloc _).trans HG.out).ext x⟩, rfl, rfl, _, rfl⟩
      · have hpn : ¬ (p : Int) < (L.length : Int) := by omega
        go_wp2_with fail
        refine wp_region_ext (by kernel_rfl) (by kernel_rfl) ?_
        repeat (go_big_quiet_step (fail))
        refine wpQuiet_nil ?_
        rintro _ ⟨x, rfl⟩
        go_wp2_with fail
        go_ret2
        exact ⟨_, ⟨x.val, (((Gr.refl w).alloc _).trans HG.out).ext x⟩, rfl, rfl, _, rfl⟩
structure HB (base : Nat) (w : World) (g : Nat) (v : Value) (L : List It) : Prop where
  lo : base ≤ g
  cell : w.heap[g]? = some (.cells #[v] 132 (0, 0))
  row : w.ownsRow base 92 6 v L.length (cs6 L)
theorem HB.shape {base : Nat} {w : World} {g : Nat} {v : Value} {L : List It} (h : HB base w g v L) : ∃ A c, v = .slice A L.length c := by
  rcases h.row.2 with ⟨rfl, h0⟩ | ⟨g, cap, cur, rfl, _⟩
  · exact ⟨none, 0, by rw [h0]⟩
  · exact ⟨_, _, rfl⟩
theorem HB.lt {base : Nat} {w : World} {g : Nat} {v : Value} {L : List It} (h : HB base w g v L) : g < w.heap.size := (Array.getElem?_eq_some_iff.1 h.cell).1
theorem HB.c0 {base : Nat} {w : World} {g : Nat} {v : Value} {L : List It} (h : HB base w g v L) : w.cell? ⟨g, 0, none⟩ = some v := by simp [World.cell?, h.cell]
theorem HB.ne {base : Nat} {w : World} {g : Nat} {v : Value} {L : List It} (h : HB base w g v L) : some g ≠ v.ownBlock := fun e => by
  rcases h.row.2 with ⟨rfl, _⟩ | ⟨g', cap, cur, rfl, _, hh, _⟩
  · simp [Value.ownBlock] at e
  · simp [Value.ownBlock] at e; subst e; rw [h.cell] at hh; injection hh with hh; injection hh with _ ht _; cases ht
theorem HB.mod {base : Nat} {S : Nat → Prop} {w w' : World} {g : Nat} {v : Value} {L : List It} (h : HB base w g v L) (m : Mod S w w') (h1 : ¬ S g) (h2 : ∀ k, v.ownBlock = some k → ¬ S k) : HB base w' g v L := by
  refine ⟨h.lo, (m.block g h.lt h1).trans h.cell, h.row.1, ?_⟩
  rcases h.row.2 with h3 | ⟨g', cap, cur, hv, hb, hh, r⟩
  · exact .inl h3
  · exact .inr ⟨g', cap, cur, hv, hb, (m.block g' (Array.getElem?_eq_some_iff.1 hh).1 (h2 g' (by rw [hv]; rfl))).trans hh, r⟩
theorem HB.gr {base : Nat} {w w' : World} {g : Nat} {v : Value} {L : List It} (h : HB base w g v L) (g1 : Gr w w') : HB base w' g v L := h.mod (g1.mod fun _ => False) (fun e => e) (fun _ _ e => e)
theorem HB.arow {base : Nat} {w : World} {g n c : Nat} {A : Option Addr} {L : List It} (h : HB base w g (.slice A n c) L) (hn : n = L.length) : Row w A L := by subst hn; exact Row.of_own h.row
set_option maxHeartbeats 2000000 in
theorem find_any (base g : Nat) (v : Value) (L : List It) (x : It) (w : World) (h : HB base w g v L) (hs : Srt L) (hl : L.length ≤ 4398046511103) :
    Calls Tryz.prog 78 #[.pointer (some ⟨g, 0, none⟩), iv x] w (RetE (.tuple #[.int .i64 (pos L x), .bool (has L x)]) w) := by
  refine retE ?_
  obtain ⟨A, cp, rfl⟩ := h.shape
  have HS := hid hs
  clear hs
  have c0 := h.c0
  have hgl := h.lt
  have HR := hid (h.arow rfl)
  have hpl := pos_le L x
  have HH := hid (show has L x = (decide (pos L x < L.length) && decide (L.getD (pos L x) z0 = x)) from rfl)
  have HSR := hid (fun W (g : Gr w W) => search_any A cp L x W (HR.out.gr g) HS.out hl)
  generalize pos L x = p at *
  generalize has L x = res at *
  obtain ⟨a, b, c, d, e, f⟩ := x
  simp only [iv] at HSR ⊢
  clear h
  go_enter Tryz.func78, Tryz.ntmps78
  go_wp2_with fail
  have G0 := hid ((Gr.refl w).alloc (.cells #[.int .i64 a, .int .i64 b, .int .i64 c, .int .i64 d, .int .i64 e, .int .i64 f] 92))
  go_region_held3 (fun w' => (w'.cell? ⟨w.heap.size, 0, none⟩ = some (.int .i64 a) ∧ w'.cell? ⟨w.heap.size, 1, none⟩ = some (.int .i64 b) ∧ w'.cell? ⟨w.heap.size, 2, none⟩ = some (.int .i64 c) ∧ w'.cell? ⟨w.heap.size, 3, none⟩ = some (.int .i64 d) ∧ w'.cell? ⟨w.heap.size, 4, none⟩ = some (.int .i64 e) ∧ w'.cell? ⟨w.heap.size, 5, none⟩ = some (.int .i64 f)) ∧ w'.cell? ⟨g, 0, none⟩ = some (.slice A L.length cp))
    (first | go_keep | (refine ⟨⟨?_, ?_, ?_, ?_, ?_, ?_⟩, ?_⟩ <;> go_simp; done))
    (first
      | (go_at_call 118
         refine (HSR.out _ G0.out.drew).mono ?_
         rintro e _ ⟨_, y1, rfl, rfl, r, rfl⟩))
  have G1 := hid (show Gr w y1.val from G0.out.drew.ext y1)
  have HG := hid (show Gr (w.alloc (.cells #[.int .i64 a, .int .i64 b, .int .i64 c, .int .i64 d, .int .i64 e, .int .i64 f] 92)) y1.val from (Gr.refl _).drew.ext y1)
  obtain ⟨b0, b1, b2, b3, b4, b5, hbl⟩ := box6 HG.out
  have k0 : y1.val.cell? ⟨g, 0, none⟩ = some (.slice A L.length cp) := (G1.out.cell hgl).trans c0
  have hgl1 : g < y1.val.heap.size := Nat.lt_of_lt_of_le hgl G1.out.size
  by_cases hn : p < L.length
  · obtain ⟨bb, off, rfl, hbb, d0, d1, d2, d3, d4, d5⟩ := (HR.out.gr G1.out).at_ (i := p) hn
    obtain ⟨⟨a', b', c', d', e', f'⟩, hy⟩ : ∃ y, L.getD p z0 = y := ⟨_, rfl⟩
    rw [hy] at d0 d1 d2 d3 d4 d5 HH
    simp only at d0 d1 d2 d3 d4 d5
    rw [decide_eq_true hn, Bool.true_and] at HH
    have heq := fun (W : World) => eq92 a b c d e f a' b' c' d' e' f' W
    have hgd := guard92
    generalize decide (((a', b', c', d', e', f') : It) = (a, b, c, d, e, f)) = q at heq HH
    clear hy
    have hpn : (p : Int) < (L.length : Int) := by omega
    go_wp2_with fail
    refine wp_region_ext (by kernel_rfl) (by kernel_rfl) ?_
    repeat (go_big_quiet_step (fail))
    refine wpQuiet_nil ?_
    rintro _ ⟨x, rfl⟩
    go_wp2_with fail
    go_ret2
    exact ⟨by rw [HH.out]; rfl, G1.out.ext x⟩
  · have hpn : ¬ (p : Int) < (L.length : Int) := by omega
    rw [decide_eq_false hn, Bool.false_and] at HH
    go_wp2_with fail
    refine wp_region_ext (by kernel_rfl) (by kernel_rfl) ?_
    repeat (go_big_quiet_step (fail))
    refine wpQuiet_nil ?_
    rintro _ ⟨x, rfl⟩
    go_wp2_with fail
    go_ret2
    exact ⟨by rw [HH.out]; rfl, G1.out.ext x⟩
end Go.Proofs.YtniknicnnaiilaaGreat
end
section
namespace Go.Ext
open Go.RowKit
section
variable {P : Program}
theorem wpList_append_at (w : World) {ops : Array Oper} {rest : List Oper} {o : Oper} {a : Act} {Q : Exit → Act → World → Prop} (hgd : o.guard = none) (d s : Operand) (t t' : TypeId)
    (ho : o.op = .call { callee := .builtin .append, args := #[d, s], argTypes := #[t, t'] }) (v u : Value) (hd : a.eval d = v) (hs : a.eval s = u) {v' : Value} {w' : World}
    (hr : (Builtin.append_ #[t, t'] o.type #[v, u]).run P w = .ok v' w') (h : wpList P ops Q rest (a.put o.dst v') w') : wpList P ops Q (o :: rest) a w :=
  wpList_plain hgd fun _ hK => by
    unfold Oper.wp execOp
    simp only [ho, resolve, invoke, builtin, Sem.run_bind, Sem.run_pure, Result.andThen_ok, List.map_toArray, List.map_cons, List.map_nil, hd, hs, hr]
    exact hK _ _ h
theorem step_append_at {ops : Array Oper} {o : Oper} {a : Act} {w : World} {K : Act → World → Prop} {Q : Exit → Act → World → Prop} {E : Prop}
    (hg : o.guard = none) (d x : Operand) (dT sT : TypeId) (hop : o.op = Op.call { callee := Callee.builtin Builtin.append, args := #[d, x], argTypes := #[dT, sT] })
    (v u : Value) (hd : a.eval d = v) (hx : a.eval x = u) {v' : Value} {w' : World} (hr : (Builtin.append_ #[dT, sT] o.type #[v, u]).run P w = .ok v' w') (hK : K (a.put o.dst v') w') :
    if Region.wanted o (yielded ops a.tmps) = true then Oper.wp P o a w K Q else E := by
  have hw : Region.wanted o (yielded ops a.tmps) = true := by simp [Region.wanted, hg]
  rw [if_pos hw]
  unfold Oper.wp
  simp [execOp, hop, resolve, invoke, builtin, hd, hx, hr, Result.andThen]
  exact hK
theorem run_copy_rowk (w : World) (dT sT ty elem : TypeId) (k : Nat) (g o dLen dCap : Nat) (a : Addr) (sLen sCap m : Nat) (cur : List Value) (t : TypeId) (cs : List Value)
    (hu : P.underlying dT = some (.slice elem)) (i : TypeInfo) (hi : P.info? elem = some i) (hk : i.size = k)
    (hg : w.heap[g]? = some (.cells cur.toArray t (0, 0))) (hm : Nat.min sLen dLen = m) (hn : cs.length = m * k)
    (hsrc : ∀ j v, cs[j]? = some v → w.cell? (a.add j) = some v) (hfit : o + cs.length ≤ cur.length) (h1 : ∀ v ∈ cs, v.oneCell' = true) :
    (Builtin.copy_ #[dT, sT] ty #[.slice (some ⟨g, o, none⟩) dLen dCap, .slice (some a) sLen sCap]).run P w =
      .ok (goInt m) (w.setRow g (splice cur o cs).toArray) := by
  have hl := run_loadCells_list (P := P) w a cs hsrc
  have hst := run_storeCells_at P g o t cs 0 cur.toArray w hg (by simpa using hfit) h1
  simp only [Nat.add_zero, List.append_assoc] at hst
  subst hm
  rw [hn] at hl
  simp [Builtin.copy_, run_underlying hu, Builtin.lenOf, Builtin.firstCells, sizeOf, typeInfo, hi, hk, hl, hst, splice]
theorem run_clear_rowk (w : World) (t e ty : TypeId) (z : Value) (k : Nat) (ht : P.underlying t = some (.slice e)) (hv : (zeroValue e).run P w = .ok z w) (hz : z.cells.size = k) (h1 : ∀ v ∈ z.cells.toList, v.oneCell' = true) (g o n c : Nat) (hn : 0 < n)
    (cur : List Value) (tt : TypeId) (hg : w.heap[g]? = some (.cells cur.toArray tt (0, 0))) (hfit : o + n * k ≤ cur.length) :
    (Builtin.clear_ #[t] ty #[.slice (some ⟨g, o, none⟩) n c]).run P w = .ok (.tuple #[]) (w.setRow g (splice cur o (Builtin.zeroCells z.cells n).toList).toArray) := by
  have hlen : (Builtin.zeroCells z.cells n).toList.length = n * k := by rw [Array.length_toList, size_zeroCells, hz]
  have hone : ∀ v ∈ (Builtin.zeroCells z.cells n).toList, v.oneCell' = true := by
    intro v hv'
    simp only [Builtin.zeroCells, Array.mem_toList_iff, Array.mem_map, Array.mem_range] at hv'
    obtain ⟨i, hi, rfl⟩ := hv'
    have hpos : 0 < z.cells.size := Nat.pos_of_ne_zero fun e => by rw [e] at hi; omega
    have hlt : i % z.cells.size < z.cells.size := Nat.mod_lt _ hpos
    rw [getElem!_pos z.cells _ hlt]
    exact h1 _ (by simp)
  have hst := run_storeCells_at P g o tt _ 0 cur.toArray w hg (by simpa [hlen] using hfit) hone
  simp only [Nat.add_zero, List.append_assoc] at hst
  obtain ⟨m, rfl⟩ : ∃ m, n = m + 1 := ⟨n - 1, by omega⟩
  simp [Builtin.clear_, run_underlying ht, hv, hst, splice]
theorem run_append_rowk (w : World) (t ty e : TypeId) (i : TypeInfo) (ht : P.underlying t = some (.slice e)) (hi : P.info? e = some i) (k : Nat) (hk : i.size = k)
    (g sLen sCap : Nat) (cur : List Value) (hg : w.heap[g]? = some (.cells cur.toArray e (0, 0)))
    (a : Addr) (m c : Nat) (news : List Value) (hl : news.length = m * k) (hnews : ∀ j u, news[j]? = some u → w.cell? (a.add j) = some u) (h1 : ∀ u ∈ news, u.oneCell' = true)
    (hroom : sLen + m ≤ sCap) (hfit : sLen * k + news.length ≤ cur.length) :
    (Builtin.append_ #[t, t] ty #[.slice (some ⟨g, 0, none⟩) sLen sCap, .slice (some a) m c]).run P w =
      .ok (.slice (some ⟨g, 0, none⟩) (sLen + m) sCap) (w.setRow g (splice cur (sLen * k) news).toArray) := by
  subst hk
  have := run_append_room (P := P) w t ty e i ht hi g sLen sCap cur.toArray hg a m c news hl hnews h1 hroom (by simpa using hfit)
  rw [this]
  simp [splice]
theorem setRow_mod (w : World) (g : Nat) (cs : Array Value) : Mod (fun b => b = g) w (w.setRow g cs) := ⟨rfl, rfl, rfl, by simp [World.setRow], fun k _ hn => setRow_other w g k _ hn⟩
end
end Go.Ext
end
