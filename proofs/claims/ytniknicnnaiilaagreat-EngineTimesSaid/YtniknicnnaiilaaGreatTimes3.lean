/- Lemmas: what the functions of the engine answer, and which blocks they write. -/
import Derived.ChangeSame
import Derived.Deep.Fields
import Derived.Deep.Slices
import Derived.SizedLaws
import Derived.Test.YtniknicnnaiilaaGreatX33
import Derived.Test.YtniknicnnaiilaaGreatTimes1
import Derived.Test.YtniknicnnaiilaaGreatTimes2
section
namespace Go.Proofs.YtniknicnnaiilaaGreat
set_option maxRecDepth 100000
open Go.RowKit Go.Ext Go.BigFrame Go.Maps Go.MapKept
attribute [local go_sem] Ext.cell Ext.frozen Ext.lt Ext.le s1 s2 s3 s4 s5 s6 t1 t2 t3 t4 t5 t6
attribute [local go_sem ↓] Go.wp_at_zero Go.wp_at_succ
open Go.ChangeShapes Go.WideShapes Go.ChangeAt Go.Joins Go.Deep
theorem Tryz.own : ownKnob Tryz.prog.godebug = none := by kernel_rfl
theorem Tryz.laidOut : laidOutB Tryz.prog = true := by kernel_rfl
theorem addr_none {b off j : Nat} : (⟨b, off, none⟩ : Addr).add j = ⟨b, off + j, none⟩ := by unfold Addr.add; split <;> simp_all
section
variable {H : Type} {enc : TypeId × Value → H} {P : Program} {w : World} {base : Nat} {spare : Nat → Bool} {held : Bool}
theorem open_slice_fields {t e : TypeId} {fs : Array Field} {fuel : Nat} {cs : List Value} {x : DataW H × List MemPlace} (ht : P.underlying t = some (.slice e)) (he : P.underlying e = some (.struct fs))
    (hone : oneCellFields P fs = true) (hC : P.cellsOf e = fs.size) (h : DataW.trod enc P w base spare held fuel t cs = some x) :
    (cs = [.slice none 0 0] ∧ x = (.nil, [])) ∨
    ∃ (a : Addr) (len cap m : Nat) (D : Nat → DataW H) (Pl : Nat → List MemPlace), cs = [.slice (some a) len cap] ∧ base ≤ a.block ∧ len ≤ cap ∧ cap ≤ maxLen ∧ m = (if spare a.block then cap else len) ∧
      x = (.slice ((List.range len).map D) ((List.range (m - len)).map fun j => D (len + j)), MemPlace.row a (m * fs.size) ++ (List.range m).flatMap Pl) ∧
      ∀ i, i < m → ∃ (ys : List (DataW H × List MemPlace)) (n : Nat), D i = .agg (ys.map (·.1)) ∧ Pl i = ys.flatMap (·.2) ∧ ys.length = fs.size ∧
        ∀ (j : Nat) (f : Field), fs[j]? = some f → ∃ (v : Value) (y : DataW H × List MemPlace), w.cell? (a.add (i * fs.size + j)) = some v ∧ ys[j]? = some y ∧ DataW.trod enc P w base spare held n f.type [v] = some y := by
  rcases open_slice ht h with h0 | ⟨a, len, cap, m, n, D, Pl, hcs, hb, hl, hm, hmm, hx, hi⟩
  · exact .inl h0
  · refine .inr ⟨a, len, cap, m, D, Pl, hcs, hb, hl, hm, hmm, by rw [hC] at hx; exact hx, fun i him => ?_⟩
    obtain ⟨cs', hc, ht'⟩ := hi i him
    rw [hC] at hc
    obtain ⟨ys, n', hn', hy, hlen, hyl, hf⟩ := DataW.trod_struct he ht'
    obtain ⟨_, hcl, hat⟩ := World.cells?_some hc
    simp only [Prod.mk.injEq] at hy
    refine ⟨ys, n', hy.1, hy.2, hyl, fun j f hj => ?_⟩
    obtain ⟨ho, hk⟩ := hone_of hone j f hj
    have hjl : j < fs.size := (Array.getElem?_eq_some_iff.1 hj).1
    have hcell := hat j hjl
    have hv : cs'[j]? = some (cs'[j]'(by omega)) := List.getElem?_eq_getElem (by omega)
    have h1 := hf j f hj
    rw [ho, hk] at h1
    have hone' : (cs'.drop j).take 1 = [cs'[j]'(by omega)] := by
      rw [List.drop_eq_getElem_cons (by omega)]
      rfl
    rw [hone'] at h1
    have hys : ys[j]? = some (ys[j]'(by omega)) := List.getElem?_eq_getElem (by omega)
    refine ⟨_, _, ?_, hys, h1.trans hys⟩
    rw [← Go.Deep.add_add, hcell, hv]
theorem weightsAll_mem {e : TypeId} {d : DataW H} {n : Nat} : ∀ {ds : List (DataW H)}, d ∈ ds → n ∈ d.weights P e → n ∈ DataW.weightsAll P e ds
  | d0 :: ds, hd, hn => by
    simp only [DataW.weightsAll, List.mem_append]
    rcases List.mem_cons.1 hd with rfl | hd
    · exact .inl hn
    · exact .inr (weightsAll_mem hd hn)
end
theorem Bys.m {W : World} {v : Value} {bs : List UInt8} (h : Bys W v bs) : BysM W (fun _ => False) v bs := by
  obtain ⟨A, c, e, h1, h2, h3⟩ := h
  exact ⟨A, c, e, h1, Rd.m h2 (fun _ _ _ _ e => e), h3⟩
theorem datM_map {α : Type} {r : α → List Int × List UInt8} {W : World} {M : Bl} (f : Nat → α) (g : Nat → Value) : ∀ L : List Nat, (∀ i ∈ L, BysM W M (g i) (r (f i)).2) → DatM W M ((L.map f).map r) (L.map g)
  | [], _ => trivial
  | i :: L, h => ⟨h i (List.mem_cons_self ..), datM_map f g L (fun j hj => h j (List.mem_cons_of_mem _ hj))⟩
theorem recs_of {α : Type} (r : α → List Int × List UInt8) (m : Nat) (hm : ∀ x, (r x).1.length = m) {W : World} {M : Bl} {b off n c : Nat} (f : Nat → α) (g : Nat → Value)
    (h : ∀ i, i < n → (∀ j u, (recC (r (f i)) (g i))[j]? = some u → W.cell? ⟨b, off + i * (m + 1) + j, none⟩ = some u) ∧ BysM W M (g i) (r (f i)).2) (hM : ¬ M b) (hnc : n ≤ c) : RecsM r W M (.slice (some ⟨b, off, none⟩) n c) ((List.range n).map f) := by
  refine ⟨some ⟨b, off, none⟩, c, (List.range n).map g, by simp, by simpa using hnc, datM_map f g _ (fun i hi => (h i (by simpa using hi)).2), fun _ => ⟨b, off, rfl, hM, fun j u hu => ?_⟩, fun e => by cases e⟩
  have hmm : ∀ x ∈ ((List.range n).map f).map r, x.1.length = m := fun x hx => by
    obtain ⟨y, _, rfl⟩ := List.mem_map.1 hx
    exact hm y
  have hlen := rowC_len (((List.range n).map f).map r) ((List.range n).map g) hmm (by simp)
  have hj := (List.getElem?_eq_some_iff.1 hu).1
  rw [hlen] at hj
  simp only [List.length_map, List.length_range] at hj
  have hi : j / (m + 1) < n := Nat.div_lt_of_lt_mul (by rw [Nat.mul_comm]; exact hj)
  have hk : j % (m + 1) < m + 1 := Nat.mod_lt _ (by omega)
  have hg := rowC_get (((List.range n).map f).map r) ((List.range n).map g) (j / (m + 1)) (r (f (j / (m + 1)))) (g (j / (m + 1))) (j % (m + 1)) hmm (by simp [hi]) (by simp [hi]) hk
  have hj2 : j / (m + 1) * (m + 1) + j % (m + 1) = j := by rw [Nat.mul_comm]; exact Nat.div_add_mod j (m + 1)
  rw [hj2] at hg
  have := (h _ hi).1 _ u (hg ▸ hu)
  rw [Nat.add_assoc, hj2] at this
  exact this
section
variable {H : Type} {enc : TypeId × Value → H}
theorem bys_trod {W : World} {fuel : Nat} {v : Value} {y : DataW H × List MemPlace} (h : DataW.trod enc Tryz.prog W 0 (fun _ => true) true fuel 22 [v] = some y) (hz : ∀ n ∈ y.1.weights Tryz.prog 22, n ≤ reachBytes) :
    ∃ bs, Bys W v bs := by
  rcases open_ints (k := .u8) Tryz.underlying22 Tryz.underlying5 (by kernel_rfl) h with ⟨hcs, _⟩ | ⟨a, len, cap, zs, hcs, _, hl, hm, hlen, hx, hcell, hw⟩
  · injection hcs with hcs
    subst hcs
    exact ⟨[], none, 0, rfl, by simp, Rd.nil _ _, fun _ => rfl⟩
  · injection hcs with hcs
    subst hcs
    have hcap : zs.length = cap := by simpa using hlen
    have hb : cap ≤ 140737488351232 := by
      have := hz _ (by
        rw [hx]
        simp only [DataW.weights, Tryz.underlying22]
        exact List.mem_cons_self ..)
      simp only [Go.ChangeShapes.lits, List.length_map, List.length_take, List.length_drop, hcap] at this
      have e1 : Tryz.prog.bytesOf 5 = 1 := by kernel_rfl
      rw [e1] at this
      unfold reachBytes at this
      omega
    refine ⟨(zs.take len).map (fun z => UInt8.ofNat z.toNat), some a, cap, by simp; omega, by simp; omega, fun hne => ?_, fun e => by cases e⟩
    have h0 : 0 < len := by
      rcases Nat.eq_zero_or_pos len with h0 | h0
      · subst h0; simp [bc] at hne
      · exact h0
    obtain ⟨b, off, spot⟩ := a
    have hs : spot = none := by
      have := hcell 0 (by omega)
      simpa [Addr.add] using World.cell?_spot this
    subst hs
    refine ⟨b, off, rfl, fun j u hu => ?_⟩
    have hj : j < len := by
      have := (List.getElem?_eq_some_iff.1 hu).1
      simp [bc] at this; omega
    have := hcell j (by omega)
    rw [addr_none] at this
    rw [this, ← hu]
    have hwz := hw (zs[j]'(by omega)) (List.getElem_mem _)
    have hr : 0 ≤ zs[j]'(by omega) ∧ zs[j]'(by omega) ≤ 255 := by simpa [Lit.wf, IntKind.min, IntKind.max, IntKind.signed, IntKind.bits] using hwz
    simp [bc, hj, List.getD, show j < zs.length by omega]
    omega
theorem evs_trod {W : World} {fuel : Nat} {v : Value} {y : DataW H × List MemPlace} (h : DataW.trod enc Tryz.prog W 0 (fun _ => true) true fuel 29 [v] = some y) (hz : ∀ n ∈ y.1.weights Tryz.prog 29, n ≤ reachBytes) :
    ∃ l : List Ev, RecsM evR W (fun _ => False) v l := by
  rcases open_slice_fields Tryz.underlying29 Tryz.underlying41 (by kernel_rfl) (by kernel_rfl) h with ⟨hcs, _⟩ | ⟨a, len, cap, m, D, Pl, hcs, hb, hl, hm, hmm, hx, hi⟩
  · injection hcs with hcs
    subst hcs
    exact ⟨[], RecsM.none _ _ _⟩
  · injection hcs with hcs
    subst hcs
    have hm' : m = cap := by simpa using hmm
    subst hm'
    rw [hx] at hz
    have each : ∀ i, i < len → ∃ (x : Ev) (dv : Value), (∀ j u, (recC (evR x) dv)[j]? = some u → W.cell? (a.add (i * 7 + j)) = some u) ∧ BysM W (fun _ => False) dv x.data := by
      intro i hin
      obtain ⟨ys, k, hD, _, hyl, hf⟩ := hi i (by omega)
      obtain ⟨v0, y0, c0, g0, t0⟩ := hf 0 _ rfl
      obtain ⟨v1, y1, c1, g1, t1⟩ := hf 1 _ rfl
      obtain ⟨v2, y2, c2, g2, t2⟩ := hf 2 _ rfl
      obtain ⟨v3, y3, c3, g3, t3⟩ := hf 3 _ rfl
      obtain ⟨v4, y4, c4, g4, t4⟩ := hf 4 _ rfl
      obtain ⟨v5, y5, c5, g5, t5⟩ := hf 5 _ rfl
      obtain ⟨v6, y6, c6, g6, t6⟩ := hf 6 _ rfl
      obtain ⟨z0, e0, _, _⟩ := DataW.trod_int Tryz.underlying3 t0
      injection e0 with e0
      obtain ⟨z1, e1, _, _⟩ := DataW.trod_int Tryz.underlying3 t1
      injection e1 with e1
      obtain ⟨z2, e2, _, _⟩ := DataW.trod_int Tryz.underlying3 t2
      injection e2 with e2
      obtain ⟨z3, e3, _, _⟩ := DataW.trod_int Tryz.underlying3 t3
      injection e3 with e3
      obtain ⟨z4, e4, _, _⟩ := DataW.trod_int Tryz.underlying3 t4
      injection e4 with e4
      obtain ⟨z5, e5, _, _⟩ := DataW.trod_int Tryz.underlying3 t5
      injection e5 with e5
      subst e0 e1 e2 e3 e4 e5
      have hzD : ∀ q ∈ (D i).weights Tryz.prog 41, q ≤ reachBytes := fun q hq => hz q (by
        simp only [DataW.weights, Tryz.underlying29]
        exact List.mem_cons_of_mem _ (List.mem_append_left _ (weightsAll_mem (d := D i) (List.mem_map.2 ⟨i, by simpa using hin, rfl⟩) hq)))
      rw [hD] at hzD
      simp only [DataW.weights, Tryz.underlying41] at hzD
      obtain ⟨bs, hbs⟩ := bys_trod t6 (fun q hq => hzD q (DataW.weights_mem_each (j := 6) (t := 22) (d := y6.1) rfl (by simp [g6]) q hq))
      refine ⟨⟨z0, z1, z2, z3, z4, z5, bs⟩, v6, fun j u hu => ?_, hbs.m⟩
      have hj := (List.getElem?_eq_some_iff.1 hu).1
      simp [recC, evR] at hj hu
      rcases j with _ | _ | _ | _ | _ | _ | _ | j
      · simp at hu; subst hu; exact c0
      · simp at hu; subst hu; exact c1
      · simp at hu; subst hu; exact c2
      · simp at hu; subst hu; exact c3
      · simp at hu; subst hu; exact c4
      · simp at hu; subst hu; exact c5
      · simp at hu; subst hu; exact c6
      · omega
    let f : Nat → Ev := fun i => if h : i < len then Classical.choose (each i h) else ⟨0, 0, 0, 0, 0, 0, []⟩
    let g : Nat → Value := fun i => if h : i < len then Classical.choose (Classical.choose_spec (each i h)) else .int .i64 0
    have hf : ∀ i, i < len → (∀ j u, (recC (evR (f i)) (g i))[j]? = some u → W.cell? (a.add (i * 7 + j)) = some u) ∧ BysM W (fun _ => False) (g i) (f i).data := by
      intro i hin
      have := Classical.choose_spec (Classical.choose_spec (each i hin))
      simp only [f, g, dif_pos hin]
      exact this
    refine ⟨(List.range len).map f, ?_⟩
    by_cases h0 : len = 0
    · subst h0
      exact ⟨some a, m, [], rfl, by simp, trivial, RdM.nil _ _ _, fun e => by cases e⟩
    · obtain ⟨b, off, spot⟩ := a
      have hs : spot = none := by
        have := (hf 0 (by omega)).1 0 _ rfl
        simpa [Addr.add] using World.cell?_spot this
      subst hs
      refine recs_of evR 6 evR_len f g (fun i hin => ⟨fun j u hu => ?_, (hf i hin).2⟩) (fun e => e) hl
      have := (hf i hin).1 j u hu
      rw [addr_none] at this
      rw [Nat.add_assoc]
      exact this
theorem decs_trod {W : World} {fuel : Nat} {v : Value} {y : DataW H × List MemPlace} (h : DataW.trod enc Tryz.prog W 0 (fun _ => true) true fuel 33 [v] = some y) (hz : ∀ n ∈ y.1.weights Tryz.prog 33, n ≤ reachBytes) :
    ∃ l : List Dec, RecsM decR W (fun _ => False) v l := by
  rcases open_slice_fields Tryz.underlying33 Tryz.underlying39 (by kernel_rfl) (by kernel_rfl) h with ⟨hcs, _⟩ | ⟨a, len, cap, m, D, Pl, hcs, hb, hl, hm, hmm, hx, hi⟩
  · injection hcs with hcs
    subst hcs
    exact ⟨[], RecsM.none _ _ _⟩
  · injection hcs with hcs
    subst hcs
    have hm' : m = cap := by simpa using hmm
    subst hm'
    rw [hx] at hz
    have each : ∀ i, i < len → ∃ (x : Dec) (dv : Value), (∀ j u, (recC (decR x) dv)[j]? = some u → W.cell? (a.add (i * 5 + j)) = some u) ∧ BysM W (fun _ => False) dv x.data := by
      intro i hin
      obtain ⟨ys, k, hD, _, hyl, hf⟩ := hi i (by omega)
      obtain ⟨v0, y0, c0, g0, t0⟩ := hf 0 _ rfl
      obtain ⟨v1, y1, c1, g1, t1⟩ := hf 1 _ rfl
      obtain ⟨v2, y2, c2, g2, t2⟩ := hf 2 _ rfl
      obtain ⟨v3, y3, c3, g3, t3⟩ := hf 3 _ rfl
      obtain ⟨v4, y4, c4, g4, t4⟩ := hf 4 _ rfl
      obtain ⟨z0, e0, _, _⟩ := DataW.trod_int Tryz.underlying3 t0
      injection e0 with e0
      obtain ⟨z1, e1, _, _⟩ := DataW.trod_int Tryz.underlying3 t1
      injection e1 with e1
      obtain ⟨z2, e2, _, _⟩ := DataW.trod_int Tryz.underlying3 t2
      injection e2 with e2
      obtain ⟨z3, e3, _, _⟩ := DataW.trod_int Tryz.underlying3 t3
      injection e3 with e3
      subst e0 e1 e2 e3
      have hzD : ∀ q ∈ (D i).weights Tryz.prog 39, q ≤ reachBytes := fun q hq => hz q (by
        simp only [DataW.weights, Tryz.underlying33]
        exact List.mem_cons_of_mem _ (List.mem_append_left _ (weightsAll_mem (d := D i) (List.mem_map.2 ⟨i, by simpa using hin, rfl⟩) hq)))
      rw [hD] at hzD
      simp only [DataW.weights, Tryz.underlying39] at hzD
      obtain ⟨bs, hbs⟩ := bys_trod t4 (fun q hq => hzD q (DataW.weights_mem_each (j := 4) (t := 22) (d := y4.1) rfl (by simp [g4]) q hq))
      refine ⟨⟨z0, z1, z2, z3, bs⟩, v4, fun j u hu => ?_, hbs.m⟩
      have hj := (List.getElem?_eq_some_iff.1 hu).1
      simp [recC, decR] at hj hu
      rcases j with _ | _ | _ | _ | _ | j
      · simp at hu; subst hu; exact c0
      · simp at hu; subst hu; exact c1
      · simp at hu; subst hu; exact c2
      · simp at hu; subst hu; exact c3
      · simp at hu; subst hu; exact c4
      · omega
    let f : Nat → Dec := fun i => if h : i < len then Classical.choose (each i h) else ⟨0, 0, 0, 0, []⟩
    let g : Nat → Value := fun i => if h : i < len then Classical.choose (Classical.choose_spec (each i h)) else .int .i64 0
    have hf : ∀ i, i < len → (∀ j u, (recC (decR (f i)) (g i))[j]? = some u → W.cell? (a.add (i * 5 + j)) = some u) ∧ BysM W (fun _ => False) (g i) (f i).data := by
      intro i hin
      have := Classical.choose_spec (Classical.choose_spec (each i hin))
      simp only [f, g, dif_pos hin]
      exact this
    refine ⟨(List.range len).map f, ?_⟩
    by_cases h0 : len = 0
    · subst h0
      exact ⟨some a, m, [], rfl, by simp, trivial, RdM.nil _ _ _, fun e => by cases e⟩
    · obtain ⟨b, off, spot⟩ := a
      have hs : spot = none := by
        have := (hf 0 (by omega)).1 0 _ rfl
        simpa [Addr.add] using World.cell?_spot this
      subst hs
      refine recs_of decR 4 decR_len f g (fun i hin => ⟨fun j u hu => ?_, (hf i hin).2⟩) (fun e => e) hl
      have := (hf i hin).1 j u hu
      rw [addr_none] at this
      rw [Nat.add_assoc]
      exact this
end
end Go.Proofs.YtniknicnnaiilaaGreat
end
section
namespace Go.Proofs.YtniknicnnaiilaaGreat
set_option maxRecDepth 100000
open Go.RowKit Go.Ext Go.BigFrame Go.Maps Go.MapKept
attribute [local go_sem] Ext.cell Ext.frozen Ext.lt Ext.le s1 s2 s3 s4 s5 s6 t1 t2 t3 t4 t5 t6
attribute [local go_sem ↓] Go.wp_at_zero Go.wp_at_succ
open Go.ChangeShapes Go.WideShapes Go.ChangeAt Go.Joins Go.Deep
def IntsA (w : World) (A : Option Addr) (n : Nat) : Prop := ∀ i, i < n → ∃ b off x, A = some ⟨b, off, none⟩ ∧ b < w.heap.size ∧ w.cell? ⟨b, off + i, none⟩ = some (.int .i64 x) ∧ -9223372036854775808 ≤ x ∧ x ≤ 9223372036854775807
section
variable {H : Type} {enc : TypeId × Value → H}
theorem bysA_read {W : World} {b0 : Nat} {v : Value} {d : DataW H} {p : List MemPlace} (hv : Value.okWide Tryz.prog W .any b0 22 v) (h : DataW.Trod enc Tryz.prog W 0 (fun _ => true) true 22 v d p) (hz : ∀ n ∈ d.weights Tryz.prog 22, n ≤ reachBytes) : ∃ bs, BysM W (fun _ => False) v bs := by
  obtain ⟨A, n, c, rfl⟩ := okWide_slice Tryz.underlying22 hv
  obtain ⟨fuel, hf⟩ := h
  obtain ⟨bs, hbs⟩ := bys_trod hf hz
  exact ⟨bs, hbs.m⟩
theorem intsA_read {W : World} {b0 : Nat} {v : Value} {d : DataW H} {p : List MemPlace} (hv : Value.okWide Tryz.prog W .any b0 56 v) (h : DataW.Trod enc Tryz.prog W 0 (fun _ => true) true 56 v d p) (hz : ∀ n ∈ d.weights Tryz.prog 56, n ≤ reachBytes) :
    ∃ (A : Option Addr) (n c : Nat), v = .slice A n c ∧ IntsA W A n ∧ n ≤ 140737488351232 := by
  obtain ⟨A, n, c, rfl⟩ := okWide_slice Tryz.underlying56 hv
  obtain ⟨fuel, hf⟩ := h
  rcases open_ints (k := .i64) Tryz.underlying56 Tryz.underlying3 (by kernel_rfl) hf with ⟨hcs, _⟩ | ⟨a, len, cap, zs, hcs, _, hl, hm, hlen, hx, hcell, hw⟩
  · simp [Value.cells] at hcs
    obtain ⟨rfl, rfl, rfl⟩ := hcs
    exact ⟨none, 0, 0, rfl, fun j hj => absurd hj (by omega), by omega⟩
  · simp [Value.cells] at hcs
    obtain ⟨rfl, rfl, rfl⟩ := hcs
    have hcap : zs.length = c := by simpa using hlen
    have hb : n ≤ 140737488351232 := by
      have := hz _ (by
        injection hx with hx _
        rw [hx]
        simp only [DataW.weights, Tryz.underlying56]
        exact List.mem_cons_self ..)
      simp only [Go.ChangeShapes.lits, List.length_map, List.length_take, List.length_drop, hcap] at this
      have e1 : Tryz.prog.bytesOf 3 = 8 := by kernel_rfl
      rw [e1] at this
      unfold reachBytes at this
      omega
    refine ⟨some a, n, c, rfl, fun i hi => ?_, hb⟩
    obtain ⟨b, off, spot⟩ := a
    have hs : spot = none := by
      have := hcell 0 (by omega)
      simpa [Addr.add] using World.cell?_spot this
    subst hs
    have := hcell i (by omega)
    rw [addr_none] at this
    have hwz := hw (zs[i]'(by omega)) (List.getElem_mem _)
    have hr : -9223372036854775808 ≤ zs[i]'(by omega) ∧ zs[i]'(by omega) ≤ 9223372036854775807 := by simpa [Lit.wf, IntKind.min, IntKind.max, IntKind.signed, IntKind.bits] using hwz
    have hg : zs.getD i 0 = zs[i]'(by omega) := by simp [List.getD, show i < zs.length by omega]
    rw [hg] at this
    exact ⟨b, off, _, rfl, World.block_lt_of_cell? W _ this, this, hr.1, hr.2⟩
end
end Go.Proofs.YtniknicnnaiilaaGreat
end
section
namespace Go.Proofs.YtniknicnnaiilaaGreat
set_option maxRecDepth 100000
open Go.RowKit Go.Ext Go.BigFrame Go.Maps Go.MapKept
attribute [local go_sem] Ext.cell Ext.frozen Ext.lt Ext.le s1 s2 s3 s4 s5 s6 t1 t2 t3 t4 t5 t6
attribute [local go_sem ↓] Go.wp_at_zero Go.wp_at_succ
structure Tw2 (w0 w : World) (M Sa Sb : Bl) (ka kb : Nat) (Ea Eb : ES) (na nb : Nat) : Prop where
  a : EngR w M Sa ka Ea
  b : EngR w M Sb kb Eb
  ea : E1 Ea na
  eb : E1 Eb nb
  g : Gr w0 w
  sa : ∀ x, Sa x → w0.heap.size ≤ x
  sb : ∀ x, Sb x → w0.heap.size ≤ x
  dis : ∀ x, Sa x → ¬ Sb x
section
variable {w0 w w' w2 : World} {M Sa Sb M2 Sa2 : Bl} {ka kb na nb n' : Nat} {Ea Eb E' : ES}
theorem Tw2.symm (h : Tw2 w0 w M Sa Sb ka kb Ea Eb na nb) : Tw2 w0 w M Sb Sa kb ka Eb Ea nb na := ⟨h.b, h.a, h.eb, h.ea, h.g, h.sb, h.sa, fun x e e' => h.dis x e' e⟩
theorem Tw2.gr (h : Tw2 w0 w M Sa Sb ka kb Ea Eb na nb) (g : Gr w w') : Tw2 w0 w' M Sa Sb ka kb Ea Eb na nb := ⟨h.a.gr g, h.b.gr g, h.ea, h.eb, h.g.trans g, h.sa, h.sb, h.dis⟩
theorem Tw2.step (h : Tw2 w0 w M Sa Sb ka kb Ea Eb na nb) (hal : Along w M Sa w2 M2 Sa2) (ha : EngR w2 M2 Sa2 ka E') (he : E1 E' n') : Tw2 w0 w2 M2 Sa2 Sb ka kb E' Eb n' nb :=
  ⟨ha, h.b.keep (hal.up h.a.lt.2.1) (fun x e => hal.mod.block x (h.b.lt.1 x (h.b.lt.2.1 x e)) (fun s => h.dis x s e)) (fun x e => hal.mm x (h.b.lt.2.1 x e)) ha.lt.1, he, h.eb, gr_newS h.g hal.mod h.sa,
    fun x e => by
      by_cases hb : x < w.heap.size
      · exact h.sa x (hal.s x hb e)
      · have := h.g.size
        omega, h.sb, fun x e e' => h.dis x (hal.s x (h.b.lt.1 x (h.b.lt.2.1 x e')) e) e'⟩
end
def RetT2 (w0 : World) (M Sa Sb : Bl) (ka kb : Nat) (x : Ans × ES) (Eb : ES) (na nb : Nat) (w : World) (en : Ending) (w2 : World) : Prop :=
  ∃ A c A' c' M' Sa', en = .returned (ansV x.1 (.slice A x.1.data.length c) (.slice A' x.1.events.length c')) ∧ Tw2 w0 w2 M' Sa' Sb ka kb x.2 Eb (na + 100) nb ∧ Along w M Sa w2 M' Sa' ∧ BysM w2 M' (.slice A x.1.data.length c) x.1.data ∧ RecsM evR w2 M' (.slice A' x.1.events.length c') x.1.events
theorem Tw2.call {w0 w : World} {M Sa Sb : Bl} {ka kb na nb : Nat} {Ea Eb : ES} (h : Tw2 w0 w M Sa Sb ka kb Ea Eb na nb) (c : Call) (hn : na ≤ 998000) (h1 : c.data = []) (h2 : c.l = []) :
    Calls Tryz.prog 14 #[.pointer (some ⟨ka, 0, none⟩), callV c (.slice none 0 0) (.slice none 0 0)] w (RetT2 w0 M Sa Sb ka kb (call1 Ea c) Eb na nb w) := by
  refine (call1_any ka Ea c (.slice none 0 0) (.slice none 0 0) M Sa w h.a h.ea hn (callM_none _ _ _ h1 h2) (by rw [h2]; simp) (by rw [h2]; simp)).mono ?_
  rintro en w2 ⟨dv, ev, M2, S2, rfl, h2, hal2, hd2, he2⟩
  obtain ⟨A, ca, rfl⟩ := hd2.shape
  obtain ⟨A', ca', rfl, _⟩ := he2.shape
  exact ⟨A, ca, A', ca', M2, S2, rfl, h.step hal2 h2 (h.ea.call c), hal2, hd2, he2⟩
theorem tick2_any (k : Nat) (E : ES) (x : Int) (M S : Bl) (w : World) (h : EngR w M S k E) (hE : EOk E) (hdue : E.due.length ≤ 990000) : Calls Tryz.prog 23 #[.pointer (some ⟨k, 0, none⟩), .int .i64 x] w (RetK M S k (tickE E x) w) :=
  tick_anyE (fun k mb F e d M w h hk hmb hne hM hd hl hi h1 hw => put_any k mb F e d M w h hk hmb hne hM hd hl hi h1 hw) k E x M S w h hE hdue
def RetTt (w0 : World) (M Sa Sb : Bl) (ka kb : Nat) (x : Int × ES) (Eb : ES) (na nb : Nat) (w : World) (en : Ending) (w2 : World) : Prop :=
  ∃ M' Sa', en = .returned (.int .i64 x.1) ∧ Tw2 w0 w2 M' Sa' Sb ka kb x.2 Eb na nb ∧ Along w M Sa w2 M' Sa'
theorem Tw2.tick {w0 w : World} {M Sa Sb : Bl} {ka kb na nb : Nat} {Ea Eb : ES} (h : Tw2 w0 w M Sa Sb ka kb Ea Eb na nb) (x : Int) (hn : na ≤ 990000) :
    Calls Tryz.prog 23 #[.pointer (some ⟨ka, 0, none⟩), .int .i64 x] w (RetTt w0 M Sa Sb ka kb (tickE Ea x) Eb na nb w) := by
  refine (tick2_any ka Ea x M Sa w h.a h.ea.ok (Nat.le_trans h.ea.due hn)).mono ?_
  rintro en w2 ⟨M2, S2, rfl, e2, hal2⟩
  exact ⟨M2, S2, rfl, h.step hal2 e2 ⟨(tick_nx Ea x).1 h.ea.ok, (tick_nx Ea x).2.2.1.trans h.ea.g, Nat.le_trans (tick_nx Ea x).2.1 h.ea.due⟩, hal2⟩
theorem now_any {w : World} {M S : Bl} {k : Nat} {E : ES} (h : EngR w M S k E) : Calls Tryz.prog 25 #[.pointer (some ⟨k, 0, none⟩)] w (RetE (.int .i64 E.now) w) := by
  obtain ⟨kd, ka, md, ma, mr, kh, hv, hP⟩ := h
  obtain ⟨e0, e1, e2, e3, e4, e5, e6, hkl⟩ := hP.cells
  refine retE ?_
  go_enter Tryz.func25, Tryz.ntmps25
  go_wp2_with fail
  go_ret
  exact ⟨rfl, Gr.refl w⟩
def RetTd (M0 : Bl) (n : Int) (w : World) (en : Ending) (w' : World) : Prop :=
  ∃ k M S, en = .returned (.pointer (some ⟨k, 0, none⟩)) ∧ EngR w' M S k (tm n 0) ∧ E1 (tm n 0) 300 ∧ Gr w w' ∧ (∀ b, S b → w.heap.size ≤ b) ∧ (∀ b, M0 b → M b) ∧ ∀ b, b < w.heap.size → M b → M0 b
set_option maxHeartbeats 4000000 in
theorem timed_any (n : Int) (hn : 1 ≤ n ∧ n ≤ 200) (M0 : Bl) (w : World) (hM : ∀ b, M0 b → b < w.heap.size) : Calls Tryz.prog 24 #[.int .i64 n] w (RetTd M0 n w) := by
  have HN := hid hn
  clear hn
  go_enter Tryz.func24, Tryz.ntmps24
  go_wp2_with fail
  refine (new1_any M0 w hM).mono ?_
  rintro en w1 ⟨M1, S1, k, rfl, g, he, hmm, hm, hs⟩
  have L1 := hid (show Law w w1 M1 S1 k (e0 0 1) 0 from ⟨he, e1_e0, g, hs⟩)
  have HM0 := hid (And.intro g (And.intro hmm hm))
  clear he hs g hmm hm hM
  go_wp2_with fail
  have hc := L1.out.call ⟨1, 1, 0, 1000, tok0, [], []⟩ (.slice none 0 0) (.slice none 0 0) (by omega) (callM_none _ _ _ rfl rfl) (by simp) (by simp)
  rw [ti_1] at hc
  refine hc.mono ?_
  clear hc
  rintro en w2 ⟨A2, c2, A2', c2', M2, Q2, rfl, l2, hal2, -, -⟩
  have L2 := hid l2
  have AL2 := hid hal2
  clear l2 hal2
  simp only [ansV, ansC, ans0, tok0, List.length_nil]
  go_wp2_with fail
  have hc := L2.out.call ⟨7, 0, 0, 0, tok0, [], []⟩ (.slice none 0 0) (.slice none 0 0) (by omega) (callM_none _ _ _ rfl rfl) (by simp) (by simp)
  rw [ti_2] at hc
  refine hc.mono ?_
  clear hc
  rintro en w3 ⟨A3, c3, A3', c3', M3, Q3, rfl, l3, hal3, -, -⟩
  have L3 := hid l3
  have AL3 := hid (AL2.out.trans hal3)
  clear l3 hal3
  simp only [ansV, ansC, ans0, tok0, List.length_nil]
  go_upto_region 6 with fail
  obtain ⟨w4, hw4⟩ : ∃ w4, w3.alloc (.cells #[.int .i64 0, .int .i64 0, .int .i64 0, .bool true, .int .i64 1, .int .i64 1, .int .i64 2, .int .i64 0, .slice A3 0 c3, .slice A3' 0 c3'] 31) = w4 := ⟨_, rfl⟩
  have HB4 := hid (hw4 ▸ heap_alloc_new w3 (.cells #[.int .i64 0, .int .i64 0, .int .i64 0, .bool true, .int .i64 1, .int .i64 1, .int .i64 2, .int .i64 0, .slice A3 0 c3, .slice A3' 0 c3'] 31))
  have G4 := hid (hw4 ▸ (Gr.refl w3).alloc (.cells #[.int .i64 0, .int .i64 0, .int .i64 0, .bool true, .int .i64 1, .int .i64 1, .int .i64 2, .int .i64 0, .slice A3 0 c3, .slice A3' 0 c3'] 31))
  rw [hw4]
  clear hw4
  obtain ⟨x0, x1, x2, x3, x4, x5, x6, x7, x8, x9⟩ := cells10 HB4.out
  have lx := block_lt HB4.out
  have hn1 := HN.out
  go_wp2_with fail
  clear x0 x1 x2 x3 x4 x5 x6 x7 x8 x9
  have hg := (Gr.refl w4).alloc (.cells #[.int .i64 2, .int .i64 4, .int .i64 0, .int .i64 n, .slice none 0 0] 39)
  have hL := L3.out.gr (G4.out.trans hg)
  have hc := hL.call ⟨8, 0, 0, 0, ⟨1, 1, 2, 0⟩, [], [⟨2, 4, 0, n, []⟩]⟩ (.slice none 0 0) (.slice (some ⟨w4.heap.size, 0, none⟩) 1 1) (by omega) ⟨BysM.none _ _, dec_one _ (heap_alloc_new w4 _) ((L3.out.gr G4.out).eng.nM (Nat.le_refl _)) (BysM.none _ _)⟩ (by simp) (by simp)
  rw [ti_3 n HN.out] at hc
  refine hc.mono ?_
  clear hc hL
  rintro en w5 ⟨A5, c5, A5', c5', M5, Q5, rfl, l5, hal5, -, -⟩
  have L5 := hid l5
  have AL5 := hid ((AL3.out.gr (G4.out.trans hg)).trans hal5)
  clear l5 hal5 hg
  simp only [ansV, ansC, ans0, tok0, List.length_nil]
  go_wp2_with fail
  go_ret
  exact ⟨k, M5, Q5, rfl, L5.out.eng, L5.out.e1, L5.out.g, L5.out.s, fun b e => AL5.out.mm b (HM0.out.2.1 b e), fun b hb e => HM0.out.2.2 b hb (AL5.out.m b (Nat.lt_of_lt_of_le hb HM0.out.1.size) e)⟩
set_option maxHeartbeats 16000000 in
theorem times_any (n : Int) (A : Option Addr) (len c : Nat) (w : World) (hI : IntsA w A len) (hl : len ≤ 140737488351232) :
    Calls Tryz.prog 8 #[.int .i64 n, .slice A len c] w (RetE (.bool true) w) := by
  have HKN := hid known_any
  have HI := hid hI
  have HL := hid hl
  clear hI hl
  refine retE ?_
  go_enter Tryz.func8, Tryz.ntmps8
  go_upto_region 3 with (go_at_call 12; refine (HKN.out _).mono ?_; rintro en _ ⟨rfl, y1, rfl⟩)
  have hk : n < 1 ∨ (¬ n < 1 ∧ 200 < n) ∨ (¬ n < 1 ∧ ¬ 200 < n ∧ (60 : Int) < (len : Int)) ∨ (¬ n < 1 ∧ ¬ 200 < n ∧ ¬ (60 : Int) < (len : Int)) := by omega
  rcases hk with h0 | ⟨h0, h1⟩ | ⟨h0, h1, h2⟩ | ⟨h0, h1, h2⟩
  iterate 3
    · go_wp2_with fail
      go_ret
      exact ⟨rfl, y1.gr⟩
  have HN := hid (show 1 ≤ n ∧ n ≤ 200 from ⟨by omega, by omega⟩)
  have h60 : (len : Int) ≤ 60 := by omega
  go_wp2_with fail
  clear h0 h1 h2
  refine (timed_any n HN.out (fun _ => False) _ (fun _ e => e.elim)).mono ?_
  rintro en w1 ⟨ka, M1, Sa, rfl, ha, hea, g1, hsa, -, hm1⟩
  have HA := hid (And.intro ha (And.intro hea (And.intro g1 (And.intro hsa hm1))))
  clear ha hea g1 hsa hm1
  go_wp2_with fail
  refine (timed_any n HN.out M1 _ HA.out.1.lt.1).mono ?_
  rintro en w2 ⟨kb, M2, Sb, rfl, hb, heb, g2, hsb, hm2, hm3⟩
  have TW := hid (show Tw2 w w2 M2 Sa Sb ka kb (tm n 0) (tm n 0) 300 300 from by
    obtain ⟨ha, hea, g1, hsa, hm1⟩ := HA.out
    have s1 := g1.size
    have s0 := y1.gr.size
    exact ⟨ha.keep ⟨g2.mod M1, hm3⟩ (fun x e => g2.block x (ha.lt.1 x (ha.lt.2.1 x e))) (fun x e => hm2 x (ha.lt.2.1 x e)) hb.lt.1, hb, hea, heb, (y1.gr.trans g1).trans g2,
      fun x e => Nat.le_trans s0 (hsa x e), fun x e => Nat.le_trans (Nat.le_trans s0 s1) (hsb x e), fun x e e' => by
        have := ha.lt.1 x (ha.lt.2.1 x e)
        have := hsb x e'
        omega⟩)
  clear HA hb heb g2 hsb hm2 hm3
  go_wp2_with fail
  go_loopw [7, 8] (fun av iv wr => ∃ (i : Nat) (t : Int) (M S : Bl) (na : Nat), av = .int .i64 t ∧ iv = .int .i64 i ∧ i ≤ len ∧ 0 ≤ t ∧ t ≤ n - 1 ∧ Tw2 w wr M S Sb ka kb (tm n t) (tm n 0) na 300 ∧ na ≤ 300 + 100 * i) (fun _ iv _ => len - (intOf iv).toNat)
  case atStart => exact ⟨0, 0, M2, Sa, 300, rfl, rfl, Nat.zero_le _, Int.le_refl _, by have := HN.out; omega, TW.out, by omega⟩
  case round =>
    obtain ⟨i, t, M, S, na, rfl, rfl, hi, ht0, ht1, htw, hna⟩ := hrel
    have T := hid htw
    have HT := hid (And.intro ht0 ht1)
    have HNA := hid hna
    clear htw hna ht0 ht1 TW
    have hkw : IntKind.i64.wrap (n - 1) = n - 1 := IntWalk.i64_in _ (by have := HN.out; omega)
    have hkw2 : IntKind.i64.wrap (n - t) = n - t := IntWalk.i64_in _ (by have := HN.out; have := HT.out; omega)
    have hlen : i < len ∧ t < n - 1 ∨ ¬ (i < len ∧ t < n - 1) := Decidable.em _
    rcases hlen with ⟨hlt, hat⟩ | hend
    · have hlz : (i : Int) < (len : Int) := by omega
      obtain ⟨b, off, x, rfl, hb, hx, hx1, hx2⟩ := HI.out i hlt
      have hb2 := Nat.lt_of_lt_of_le hb T.out.g.size
      have hx' := (T.out.g.cell (p := ⟨b, off + i, none⟩) hb).trans hx
      go_upto_region 14 with fail
      obtain ⟨k0, hk0, hk1⟩ : ∃ k0, x.tmod (n - t) = k0 ∧ k0 < n - t := ⟨_, rfl, Int.tmod_lt_of_pos x (by omega)⟩
      rw [hk0]
      clear hk0
      rcases (by omega : k0 < 1 ∨ 1 ≤ k0) with hk2 | hk2
      case' inl =>
        go_upto_region 16 with fail
        have hc := T.out.tick 1 (by have := HNA.out; omega)
        rw [ti_4 n t 1 HN.out.2 HT.out.1 (by omega) (by omega)] at hc
        obtain ⟨t', ht'⟩ : ∃ t', t + 1 = t' := ⟨_, rfl⟩
        have HT2 := hid (show 0 ≤ t' ∧ t' ≤ n - 1 by have := HT.out; omega)
        have hkw3 : IntKind.i64.wrap (t + 1) = t' := by rw [IntWalk.i64_in _ (by have := HT.out; have := HN.out; omega), ht']
        rw [ht'] at hc
        clear ht'
      case' inr =>
        have hk3 : ¬ k0 < 1 := by omega
        go_upto_region 16 with fail
        have hc := T.out.tick k0 (by have := HNA.out; omega)
        rw [ti_4 n t k0 HN.out.2 HT.out.1 (by omega) (by omega)] at hc
        obtain ⟨t', ht'⟩ : ∃ t', t + k0 = t' := ⟨_, rfl⟩
        have HT2 := hid (show 0 ≤ t' ∧ t' ≤ n - 1 by have := HT.out; omega)
        have hkw3 : IntKind.i64.wrap (t + k0) = t' := by rw [IntWalk.i64_in _ (by have := HT.out; have := HN.out; omega), ht']
        rw [ht'] at hc
        clear ht'
      all_goals (
        go_wp2_with fail
        refine hc.mono ?_
        clear hc
        rintro en w3 ⟨M3, S3, rfl, t3, -⟩
        have T3 := hid t3
        clear t3
        go_wp2_with fail
        have hc := T3.out.call ⟨6, 1, 0, 0, tok0, [], []⟩ (by have := HNA.out; omega) rfl rfl
        try simp only at hc
        rw [ti_6] at hc
        refine hc.mono ?_
        clear hc
        rintro en w4 ⟨A4, c4, A4', c4', M4, S4, rfl, t4, -, -, he4⟩
        have T4 := hid t4
        have HE4 := hid he4
        clear t4 he4
        simp only [ansV, ansC, ans0, tok0, List.length_nil, List.length_cons, Nat.zero_add, Nat.reduceAdd] at HE4 ⊢
        have hfld := field31events
        go_wp2_with fail
        clear hfld
        go_loopw [10, 12] (fun fv jv w5 => ∃ j : Nat, fv = .int .i64 0 ∧ jv = .int .i64 j ∧ j ≤ 5 ∧ Gr w4 w5) (fun _ jv _ => 5 - (intOf jv).toNat)
        case atStart => exact ⟨0, rfl, rfl, by omega, Gr.refl _⟩
        case round =>
          obtain ⟨j, rfl, rfl, hj, hg5⟩ := hrel
          have G5 := hid hg5
          clear hg5
          by_cases hj5 : j < 5
          · have hjz : (j : Int) < 5 := by omega
            obtain ⟨e, he, hek⟩ : ∃ e : Ev, [e1 0 1000 [], e2 0, e3, e4, ⟨12, 0, 0, 4, 0, n, []⟩][j]? = some e ∧ (e.kind == 13) = false := by
              rcases j with _ | _ | _ | _ | _ | j
              · exact ⟨_, rfl, rfl⟩
              · exact ⟨_, rfl, rfl⟩
              · exact ⟨_, rfl, rfl⟩
              · exact ⟨_, rfl, rfl⟩
              · exact ⟨_, rfl, rfl⟩
              · omega
            obtain ⟨b4, off4, A5, c5, rfl, hb4, -, k0_, -⟩ := ev_at (HE4.out.up (Gr.up G5.out M4)) he
            generalize e.kind = ek at *
            go_wp2_with fail
            go_roundw
            case rel => exact ⟨j + 1, rfl, by go_num, by omega, G5.out⟩
            case measure => simp [intOf]; omega
          · have hjz : ¬ (j : Int) < 5 := by omega
            have hge : ¬ n ≤ t' := by have := HT2.out; omega
            have T5 := hid (T4.out.gr G5.out)
            go_wp2_with fail
            go_roundw
            case rel => exact ⟨i + 1, t', _, _, _, rfl, by go_num, by omega, HT2.out.1, HT2.out.2, T5.out, by have := HNA.out; omega⟩
            case measure => simp [intOf]; omega)
    · have hend2 : ¬ (i : Int) < (len : Int) ∨ ((i : Int) < (len : Int) ∧ ¬ t < n - 1) := by omega
      have htn : t < n := by have := HT.out; omega
      rcases hend2 with hz | ⟨hz, hz2⟩
      all_goals (
        go_wp2_with fail
        have hc := T.out.tick (n - t) (by have := HNA.out; omega)
        rw [ti_5 n t HN.out HT.out.1 htn] at hc
        refine hc.mono ?_
        clear hc
        rintro en w3 ⟨M3, S3, rfl, t3, -⟩
        have T3 := hid t3
        clear t3
        go_wp2_with fail
        have hc := T3.out.symm.tick n (by omega)
        have h50 := ti_5 n 0 HN.out (Int.le_refl 0) (by have := HN.out; omega)
        rw [Int.sub_zero] at h50
        rw [h50] at hc
        refine hc.mono ?_
        clear hc h50
        rintro en w4 ⟨M4, S4, rfl, t4, -⟩
        have T4 := hid t4.symm
        clear t4
        go_upto_region 31 with fail
        obtain ⟨w5, hw5⟩ : ∃ w5, w4.alloc (.cells #[.int .i64 6, .int .i64 1, .int .i64 0, .int .i64 0, .int .i64 0, .int .i64 0, .int .i64 0, .int .i64 0, .slice none 0 0, .slice none 0 0] 35) = w5 := ⟨_, rfl⟩
        have HB5 := hid (hw5 ▸ heap_alloc_new w4 (.cells #[.int .i64 6, .int .i64 1, .int .i64 0, .int .i64 0, .int .i64 0, .int .i64 0, .int .i64 0, .int .i64 0, .slice none 0 0, .slice none 0 0] 35))
        have T5 := hid (T4.out.gr (hw5 ▸ (Gr.refl w4).alloc (.cells #[.int .i64 6, .int .i64 1, .int .i64 0, .int .i64 0, .int .i64 0, .int .i64 0, .int .i64 0, .int .i64 0, .slice none 0 0, .slice none 0 0] 35)))
        have N5 := hid (And.intro (T4.out.a.nS (Nat.le_refl w4.heap.size)) (T4.out.a.nM (Nat.le_refl w4.heap.size)))
        rw [hw5]
        clear hw5
        obtain ⟨x0, x1, x2, x3, x4, x5, x6, x7, x8, x9⟩ := cells10 HB5.out
        have lx := block_lt HB5.out
        go_wp2_with fail
        clear x0 x1 x2 x3 x4 x5 x6 x7 x8 x9
        have hc := T5.out.call ⟨6, 1, 0, 0, tok0, [], []⟩ (by have := HNA.out; omega) rfl rfl
        try simp only at hc
        rw [ti_7] at hc
        refine hc.mono ?_
        clear hc
        rintro en w6 ⟨A6, c6, A6', c6', M6, S6, rfl, t6, hal6, hd6, he6⟩
        have T6 := hid t6
        have K5 := hid (And.intro (hal6.keepb HB5.out N5.out.1).1 (show ¬ M6 w4.heap.size from fun e => N5.out.2 (hal6.m _ lx e)))
        clear t6 hal6
        simp only [ansV, ansC, ans0, tok0, List.length_nil, List.length_cons, Nat.zero_add, Nat.reduceAdd] at he6 hd6 ⊢
        have HE6 := hid he6
        have HD6 := hid hd6
        clear hd6
        go_upto_region 32 with fail
        obtain ⟨w7, hw7⟩ : ∃ w7, w6.alloc (.cells #[.int .i64 0, .int .i64 1, .int .i64 0, .bool false, .int .i64 0, .int .i64 0, .int .i64 0, .int .i64 0, .slice A6 0 c6, .slice A6' 7 c6'] 31) = w7 := ⟨_, rfl⟩
        have HB7 := hid (hw7 ▸ heap_alloc_new w6 (.cells #[.int .i64 0, .int .i64 1, .int .i64 0, .bool false, .int .i64 0, .int .i64 0, .int .i64 0, .int .i64 0, .slice A6 0 c6, .slice A6' 7 c6'] 31))
        have G7 := hid (hw7 ▸ (Gr.refl w6).alloc (.cells #[.int .i64 0, .int .i64 1, .int .i64 0, .bool false, .int .i64 0, .int .i64 0, .int .i64 0, .int .i64 0, .slice A6 0 c6, .slice A6' 7 c6'] 31))
        have T7 := hid (T6.out.gr G7.out)
        have N7 := hid (T6.out.a.nM (Nat.le_refl w6.heap.size))
        rw [hw7]
        clear hw7
        obtain ⟨b, off, v5, rfl, hb, hM, -, hcl⟩ := he6.at_ (i := 5) (m := 6) (fun x => evR_len x) rfl
        clear he6
        have SXP := hid (show ∃ SX : World → Prop, (∀ W M', Up M6 w7 M' W → SX W) ∧ ∀ W, SX W →
          (W.cell? ⟨w6.heap.size, 0, none⟩ = some (.int .i64 0) ∧ W.cell? ⟨w6.heap.size, 1, none⟩ = some (.int .i64 1) ∧ W.cell? ⟨w6.heap.size, 2, none⟩ = some (.int .i64 0) ∧ W.cell? ⟨w6.heap.size, 3, none⟩ = some (.bool false) ∧ W.cell? ⟨w6.heap.size, 4, none⟩ = some (.int .i64 0) ∧ W.cell? ⟨w6.heap.size, 5, none⟩ = some (.int .i64 0) ∧ W.cell? ⟨w6.heap.size, 6, none⟩ = some (.int .i64 0) ∧ W.cell? ⟨w6.heap.size, 7, none⟩ = some (.int .i64 0) ∧ W.cell? ⟨w6.heap.size, 8, none⟩ = some (.slice A6 0 c6) ∧ W.cell? ⟨w6.heap.size, 9, none⟩ = some (.slice (some ⟨b, off, none⟩) 7 c6')) ∧
          (W.cell? ⟨w4.heap.size, 0, none⟩ = some (.int .i64 6) ∧ W.cell? ⟨w4.heap.size, 1, none⟩ = some (.int .i64 1) ∧ W.cell? ⟨w4.heap.size, 2, none⟩ = some (.int .i64 0) ∧ W.cell? ⟨w4.heap.size, 3, none⟩ = some (.int .i64 0) ∧ W.cell? ⟨w4.heap.size, 4, none⟩ = some (.int .i64 0) ∧ W.cell? ⟨w4.heap.size, 5, none⟩ = some (.int .i64 0) ∧ W.cell? ⟨w4.heap.size, 6, none⟩ = some (.int .i64 0) ∧ W.cell? ⟨w4.heap.size, 7, none⟩ = some (.int .i64 0) ∧ W.cell? ⟨w4.heap.size, 8, none⟩ = some (.slice none 0 0) ∧ W.cell? ⟨w4.heap.size, 9, none⟩ = some (.slice none 0 0)) ∧
          w6.heap.size < W.heap.size ∧ w4.heap.size < W.heap.size ∧ W.cell? ⟨b, off + 35, none⟩ = some (.int .i64 13) ∧ W.cell? ⟨b, off + 36, none⟩ = some (.int .i64 n) ∧ b < W.heap.size from
          ⟨fun W => ∃ M', Up M6 w7 M' W, fun W M' u => ⟨M', u⟩, fun W ⟨M', u⟩ => by
            have h7 := (u.block (block_lt HB7.out) N7.out).trans HB7.out
            have h5 := (u.block (Nat.lt_of_lt_of_le (block_lt K5.out.1) G7.out.size) K5.out.2).trans ((G7.out.block _ (block_lt K5.out.1)).trans K5.out.1)
            have hb7 := Nat.lt_of_lt_of_le hb G7.out.size
            have hcx := fun j v hj => (World.cell?_of_block ((u.block hb7 hM).trans (G7.out.block b hb))).trans (hcl j v hj)
            exact ⟨cells10 h7, cells10 h5, block_lt h7, block_lt h5, hcx 0 _ rfl, hcx 1 _ rfl, Nat.lt_of_lt_of_le hb7 u.size⟩⟩)
        clear hb hM hcl
        obtain ⟨SX, hsx1, hsx2⟩ := SXP.out
        have HSX := hid (And.intro hsx1 hsx2)
        clear hsx1 hsx2 SXP
        refine wp_region_planM [(0, false), (1, false), (2, false), (3, true), (4, true), (5, false), (6, false), (8, false), (7, true), (9, false), (10, false), (11, false), (12, false), (13, false), (14, false), (15, false), (16, false), (17, false), (18, false), (19, false), (20, false), (21, false), (22, false), (23, false), (24, false), (25, false), (26, false), (27, false), (28, false), (29, false), (30, false), (31, false), (32, false), (33, false), (34, true)] SX (by kernel_rfl) (by kernel_rfl) (fun _ _ d _ _ h => by cases d <;> exact h) (HSX.out.1 _ _ (Gr.up (Gr.refl w7).drew M6)) (fun _ => ?_)
        iterate 3 (refine pm_take (v := ?_) rfl (by rfl) ?_ ?_; rotate_left; (focus (intro W9 hW9; obtain ⟨⟨x0, x1, x2, x3, x4, x5, x6, x7, x8, x9⟩, ⟨z0, z1, z2, z3, z4, z5, z6, z7, z8, z9⟩, lx, lz, k5, k6, lb⟩ := HSX.out.2 W9 hW9; go_simp; (try with_reducible rfl); done)); (try simp only [AP]))
        refine pm_call rfl (by rfl) (fun K hK => ?_)
        go_simp
        go_at_call 14
        have hT := (T7.out.gr (Gr.refl w7).drew).symm
        try simp only at hT
        have hc := hT.call ⟨6, 1, 0, 0, tok0, [], []⟩ (by omega) rfl rfl
        rw [ti_7] at hc
        refine hc.mono ?_
        clear hc
        rintro en w9 ⟨A9, c9, A9', c9', M9, S9, rfl, t9, hal9, hd9, he9⟩
        have u9 : Up M6 w7 M9 w9 := (Gr.up (Gr.refl w7).drew M6).trans (hal9.up hT.a.lt.2.1)
        have T9 := hid t9
        have U9 := hid u9
        have HE9 := hid he9
        have HD9 := hid hd9
        clear t9 hal9 he9 hd9 hT u9
        simp only [ansV, ansC, ans0, tok0, List.length_nil, List.length_cons, Nat.zero_add, Nat.reduceAdd] at HE9 HD9 ⊢
        refine hK.out SX _ _ (HSX.out.1 _ _ U9.out) (fun W h => h) (fun _ => ?_)
        clear hK K
        (try simp only [AP])
        refine pm_call rfl (by rfl) (fun K hK => ?_)
        go_simp
        go_at_call 20
        have u69 : Up M6 w6 M9 w9 := (Gr.up G7.out M6).trans U9.out
        have hsame := same_any { ans0 with run := 1, events := [e1 0 1000 [], e2 0, e3, e4, ⟨12, 0, 0, 4, 0, n, []⟩, ⟨13, n, 5, 4, 0, 0, []⟩, ⟨2, n, 0, 0, 0, 0, []⟩] } { ans0 with run := 1, events := [e1 0 1000 [], e2 0, e3, e4, ⟨12, 0, 0, 4, 0, n, []⟩, ⟨13, n, 5, 4, 0, 0, []⟩, ⟨2, n, 0, 0, 0, 0, []⟩] } (.slice A6 0 c6) (.slice (some ⟨b, off, none⟩) 7 c6') (.slice A9 0 c9) (.slice A9' 7 c9') M9 w9 (HD6.out.up u69).bys (HE6.out.up u69) HD9.out.bys HE9.out (by simp) (by simp)
        rw [sameA_refl] at hsame
        refine hsame.mono ?_
        clear hsame u69
        rintro en _ ⟨rfl, y10, rfl⟩
        have U10 := hid (U9.out.trans (Gr.up y10.gr M9))
        refine hK.out SX _ _ (HSX.out.1 _ _ U10.out) (fun W h => h) (fun _ => ?_)
        clear hK K
        (try simp only [AP])
        iterate 3 (refine pm_take (v := ?_) rfl (by rfl) ?_ ?_; rotate_left; (focus (intro W9 hW9; obtain ⟨⟨x0, x1, x2, x3, x4, x5, x6, x7, x8, x9⟩, ⟨z0, z1, z2, z3, z4, z5, z6, z7, z8, z9⟩, lx, lz, k5, k6, lb⟩ := HSX.out.2 W9 hW9; go_simp; (try with_reducible rfl); done)); (try simp only [AP]))
        refine pm_call rfl (by rfl) (fun K hK => ?_)
        go_simp
        go_at_call 25
        refine (now_any (T9.out.symm.gr y10.gr).a).mono ?_
        rintro en _ ⟨rfl, y11, rfl⟩
        simp only [tE]
        refine hK.out SX _ _ (HSX.out.1 _ _ (U10.out.trans (Gr.up y11.gr M9))) (fun W h => h) (fun _ => ?_)
        clear hK K
        (try simp only [AP])
        iterate 25 (refine pm_take (v := ?_) rfl (by rfl) ?_ ?_; rotate_left; (focus (intro W9 hW9; obtain ⟨⟨x0, x1, x2, x3, x4, x5, x6, x7, x8, x9⟩, ⟨z0, z1, z2, z3, z4, z5, z6, z7, z8, z9⟩, lx, lz, k5, k6, lb⟩ := HSX.out.2 W9 hW9; go_simp; (try with_reducible rfl); done)); (try simp only [AP]))
        refine pm_last rfl (by rfl) (fun K hK => ?_)
        go_simp
        refine hK.out _ _ ?_
        clear hK K
        go_wp2_with fail
        go_ret
        exact ⟨rfl, (T9.out.g.ext y10).ext y11⟩)
end Go.Proofs.YtniknicnnaiilaaGreat
end
