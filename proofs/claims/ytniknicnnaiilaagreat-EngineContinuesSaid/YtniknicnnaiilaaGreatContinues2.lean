/- Lemmas: what the functions of the engine answer, and which blocks they write. -/
import Derived.ChangeSame
import Derived.Deep.Fields
import Derived.Deep.Slices
import Derived.SizedLaws
import Derived.Test.YtniknicnnaiilaaGreatX33
import Derived.Test.YtniknicnnaiilaaGreatContinues1
section
namespace Go.Proofs.YtniknicnnaiilaaGreat
set_option maxRecDepth 100000
open Go.RowKit Go.Ext Go.BigFrame Go.Maps Go.MapKept
attribute [local go_sem] Ext.cell Ext.frozen Ext.lt Ext.le s1 s2 s3 s4 s5 s6 t1 t2 t3 t4 t5 t6
attribute [local go_sem ↓] Go.wp_at_zero Go.wp_at_succ
open Go.ChangeShapes Go.WideShapes Go.ChangeAt Go.Joins Go.Deep
theorem Tryz.own : ownKnob Tryz.prog.godebug = none := by kernel_rfl
theorem Tryz.laidOut : laidOutB Tryz.prog = true := by kernel_rfl
theorem addr_none {b off j : Nat} : (⟨b, off, none⟩ : Addr).add j = ⟨b, off + j, none⟩ := by unfold Addr.add; split <;> simp_all
section
variable {H : Type} {enc : TypeId × Value → H} {P : Program} {w : World} {base : Nat} {spare : Nat → Bool} {held : Bool}
theorem open_slice_fields {t e : TypeId} {fs : Array Field} {fuel : Nat} {cs : List Value} {x : DataW H × List MemPlace} (ht : P.underlying t = some (.slice e)) (he : P.underlying e = some (.struct fs))
    (hone : oneCellFields P fs = true) (hC : P.cellsOf e = fs.size) (h : DataW.trod enc P w base spare held fuel t cs = some x) :
    (cs = [.slice none 0 0] ∧ x = (.nil, [])) ∨
    ∃ (a : Addr) (len cap m : Nat) (D : Nat → DataW H) (Pl : Nat → List MemPlace), cs = [.slice (some a) len cap] ∧ base ≤ a.block ∧ len ≤ cap ∧ cap ≤ maxLen ∧ m = (if spare a.block then cap else len) ∧
      x = (.slice ((List.range len).map D) ((List.range (m - len)).map fun j => D (len + j)), MemPlace.row a (m * fs.size) ++ (List.range m).flatMap Pl) ∧
      ∀ i, i < m → ∃ (ys : List (DataW H × List MemPlace)) (n : Nat), D i = .agg (ys.map (·.1)) ∧ Pl i = ys.flatMap (·.2) ∧ ys.length = fs.size ∧
        ∀ (j : Nat) (f : Field), fs[j]? = some f → ∃ (v : Value) (y : DataW H × List MemPlace), w.cell? (a.add (i * fs.size + j)) = some v ∧ ys[j]? = some y ∧ DataW.trod enc P w base spare held n f.type [v] = some y := by
  rcases open_slice ht h with h0 | ⟨a, len, cap, m, n, D, Pl, hcs, hb, hl, hm, hmm, hx, hi⟩
  · exact .inl h0
  · refine .inr ⟨a, len, cap, m, D, Pl, hcs, hb, hl, hm, hmm, by rw [hC] at hx; exact hx, fun i him => ?_⟩
    obtain ⟨cs', hc, ht'⟩ := hi i him
    rw [hC] at hc
    obtain ⟨ys, n', hn', hy, hlen, hyl, hf⟩ := DataW.trod_struct he ht'
    obtain ⟨_, hcl, hat⟩ := World.cells?_some hc
    simp only [Prod.mk.injEq] at hy
    refine ⟨ys, n', hy.1, hy.2, hyl, fun j f hj => ?_⟩
    obtain ⟨ho, hk⟩ := hone_of hone j f hj
    have hjl : j < fs.size := (Array.getElem?_eq_some_iff.1 hj).1
    have hcell := hat j hjl
    have hv : cs'[j]? = some (cs'[j]'(by omega)) := List.getElem?_eq_getElem (by omega)
    have h1 := hf j f hj
    rw [ho, hk] at h1
    have hone' : (cs'.drop j).take 1 = [cs'[j]'(by omega)] := by
      rw [List.drop_eq_getElem_cons (by omega)]
      rfl
    rw [hone'] at h1
    have hys : ys[j]? = some (ys[j]'(by omega)) := List.getElem?_eq_getElem (by omega)
    refine ⟨_, _, ?_, hys, h1.trans hys⟩
    rw [← Go.Deep.add_add, hcell, hv]
theorem weightsAll_mem {e : TypeId} {d : DataW H} {n : Nat} : ∀ {ds : List (DataW H)}, d ∈ ds → n ∈ d.weights P e → n ∈ DataW.weightsAll P e ds
  | d0 :: ds, hd, hn => by
    simp only [DataW.weightsAll, List.mem_append]
    rcases List.mem_cons.1 hd with rfl | hd
    · exact .inl hn
    · exact .inr (weightsAll_mem hd hn)
end
theorem Bys.m {W : World} {v : Value} {bs : List UInt8} (h : Bys W v bs) : BysM W (fun _ => False) v bs := by
  obtain ⟨A, c, e, h1, h2, h3⟩ := h
  exact ⟨A, c, e, h1, Rd.m h2 (fun _ _ _ _ e => e), h3⟩
theorem datM_map {α : Type} {r : α → List Int × List UInt8} {W : World} {M : Bl} (f : Nat → α) (g : Nat → Value) : ∀ L : List Nat, (∀ i ∈ L, BysM W M (g i) (r (f i)).2) → DatM W M ((L.map f).map r) (L.map g)
  | [], _ => trivial
  | i :: L, h => ⟨h i (List.mem_cons_self ..), datM_map f g L (fun j hj => h j (List.mem_cons_of_mem _ hj))⟩
theorem recs_of {α : Type} (r : α → List Int × List UInt8) (m : Nat) (hm : ∀ x, (r x).1.length = m) {W : World} {M : Bl} {b off n c : Nat} (f : Nat → α) (g : Nat → Value)
    (h : ∀ i, i < n → (∀ j u, (recC (r (f i)) (g i))[j]? = some u → W.cell? ⟨b, off + i * (m + 1) + j, none⟩ = some u) ∧ BysM W M (g i) (r (f i)).2) (hM : ¬ M b) (hnc : n ≤ c) : RecsM r W M (.slice (some ⟨b, off, none⟩) n c) ((List.range n).map f) := by
  refine ⟨some ⟨b, off, none⟩, c, (List.range n).map g, by simp, by simpa using hnc, datM_map f g _ (fun i hi => (h i (by simpa using hi)).2), fun _ => ⟨b, off, rfl, hM, fun j u hu => ?_⟩, fun e => by cases e⟩
  have hmm : ∀ x ∈ ((List.range n).map f).map r, x.1.length = m := fun x hx => by
    obtain ⟨y, _, rfl⟩ := List.mem_map.1 hx
    exact hm y
  have hlen := rowC_len (((List.range n).map f).map r) ((List.range n).map g) hmm (by simp)
  have hj := (List.getElem?_eq_some_iff.1 hu).1
  rw [hlen] at hj
  simp only [List.length_map, List.length_range] at hj
  have hi : j / (m + 1) < n := Nat.div_lt_of_lt_mul (by rw [Nat.mul_comm]; exact hj)
  have hk : j % (m + 1) < m + 1 := Nat.mod_lt _ (by omega)
  have hg := rowC_get (((List.range n).map f).map r) ((List.range n).map g) (j / (m + 1)) (r (f (j / (m + 1)))) (g (j / (m + 1))) (j % (m + 1)) hmm (by simp [hi]) (by simp [hi]) hk
  have hj2 : j / (m + 1) * (m + 1) + j % (m + 1) = j := by rw [Nat.mul_comm]; exact Nat.div_add_mod j (m + 1)
  rw [hj2] at hg
  have := (h _ hi).1 _ u (hg ▸ hu)
  rw [Nat.add_assoc, hj2] at this
  exact this
section
variable {H : Type} {enc : TypeId × Value → H}
theorem bys_trod {W : World} {fuel : Nat} {v : Value} {y : DataW H × List MemPlace} (h : DataW.trod enc Tryz.prog W 0 (fun _ => true) true fuel 22 [v] = some y) (hz : ∀ n ∈ y.1.weights Tryz.prog 22, n ≤ reachBytes) :
    ∃ bs, Bys W v bs := by
  rcases open_ints (k := .u8) Tryz.underlying22 Tryz.underlying5 (by kernel_rfl) h with ⟨hcs, _⟩ | ⟨a, len, cap, zs, hcs, _, hl, hm, hlen, hx, hcell, hw⟩
  · injection hcs with hcs
    subst hcs
    exact ⟨[], none, 0, rfl, by simp, Rd.nil _ _, fun _ => rfl⟩
  · injection hcs with hcs
    subst hcs
    have hcap : zs.length = cap := by simpa using hlen
    have hb : cap ≤ 140737488351232 := by
      have := hz _ (by
        rw [hx]
        simp only [DataW.weights, Tryz.underlying22]
        exact List.mem_cons_self ..)
      simp only [Go.ChangeShapes.lits, List.length_map, List.length_take, List.length_drop, hcap] at this
      have e1 : Tryz.prog.bytesOf 5 = 1 := by kernel_rfl
      rw [e1] at this
      unfold reachBytes at this
      omega
    refine ⟨(zs.take len).map (fun z => UInt8.ofNat z.toNat), some a, cap, by simp; omega, by simp; omega, fun hne => ?_, fun e => by cases e⟩
    have h0 : 0 < len := by
      rcases Nat.eq_zero_or_pos len with h0 | h0
      · subst h0; simp [bc] at hne
      · exact h0
    obtain ⟨b, off, spot⟩ := a
    have hs : spot = none := by
      have := hcell 0 (by omega)
      simpa [Addr.add] using World.cell?_spot this
    subst hs
    refine ⟨b, off, rfl, fun j u hu => ?_⟩
    have hj : j < len := by
      have := (List.getElem?_eq_some_iff.1 hu).1
      simp [bc] at this; omega
    have := hcell j (by omega)
    rw [addr_none] at this
    rw [this, ← hu]
    have hwz := hw (zs[j]'(by omega)) (List.getElem_mem _)
    have hr : 0 ≤ zs[j]'(by omega) ∧ zs[j]'(by omega) ≤ 255 := by simpa [Lit.wf, IntKind.min, IntKind.max, IntKind.signed, IntKind.bits] using hwz
    simp [bc, hj, List.getD, show j < zs.length by omega]
    omega
theorem evs_trod {W : World} {fuel : Nat} {v : Value} {y : DataW H × List MemPlace} (h : DataW.trod enc Tryz.prog W 0 (fun _ => true) true fuel 29 [v] = some y) (hz : ∀ n ∈ y.1.weights Tryz.prog 29, n ≤ reachBytes) :
    ∃ l : List Ev, RecsM evR W (fun _ => False) v l := by
  rcases open_slice_fields Tryz.underlying29 Tryz.underlying41 (by kernel_rfl) (by kernel_rfl) h with ⟨hcs, _⟩ | ⟨a, len, cap, m, D, Pl, hcs, hb, hl, hm, hmm, hx, hi⟩
  · injection hcs with hcs
    subst hcs
    exact ⟨[], RecsM.none _ _ _⟩
  · injection hcs with hcs
    subst hcs
    have hm' : m = cap := by simpa using hmm
    subst hm'
    rw [hx] at hz
    have each : ∀ i, i < len → ∃ (x : Ev) (dv : Value), (∀ j u, (recC (evR x) dv)[j]? = some u → W.cell? (a.add (i * 7 + j)) = some u) ∧ BysM W (fun _ => False) dv x.data := by
      intro i hin
      obtain ⟨ys, k, hD, _, hyl, hf⟩ := hi i (by omega)
      obtain ⟨v0, y0, c0, g0, t0⟩ := hf 0 _ rfl
      obtain ⟨v1, y1, c1, g1, t1⟩ := hf 1 _ rfl
      obtain ⟨v2, y2, c2, g2, t2⟩ := hf 2 _ rfl
      obtain ⟨v3, y3, c3, g3, t3⟩ := hf 3 _ rfl
      obtain ⟨v4, y4, c4, g4, t4⟩ := hf 4 _ rfl
      obtain ⟨v5, y5, c5, g5, t5⟩ := hf 5 _ rfl
      obtain ⟨v6, y6, c6, g6, t6⟩ := hf 6 _ rfl
      obtain ⟨z0, e0, _, _⟩ := DataW.trod_int Tryz.underlying3 t0
      injection e0 with e0
      obtain ⟨z1, e1, _, _⟩ := DataW.trod_int Tryz.underlying3 t1
      injection e1 with e1
      obtain ⟨z2, e2, _, _⟩ := DataW.trod_int Tryz.underlying3 t2
      injection e2 with e2
      obtain ⟨z3, e3, _, _⟩ := DataW.trod_int Tryz.underlying3 t3
      injection e3 with e3
      obtain ⟨z4, e4, _, _⟩ := DataW.trod_int Tryz.underlying3 t4
      injection e4 with e4
      obtain ⟨z5, e5, _, _⟩ := DataW.trod_int Tryz.underlying3 t5
      injection e5 with e5
      subst e0 e1 e2 e3 e4 e5
      have hzD : ∀ q ∈ (D i).weights Tryz.prog 41, q ≤ reachBytes := fun q hq => hz q (by
        simp only [DataW.weights, Tryz.underlying29]
        exact List.mem_cons_of_mem _ (List.mem_append_left _ (weightsAll_mem (d := D i) (List.mem_map.2 ⟨i, by simpa using hin, rfl⟩) hq)))
      rw [hD] at hzD
      simp only [DataW.weights, Tryz.underlying41] at hzD
      obtain ⟨bs, hbs⟩ := bys_trod t6 (fun q hq => hzD q (DataW.weights_mem_each (j := 6) (t := 22) (d := y6.1) rfl (by simp [g6]) q hq))
      refine ⟨⟨z0, z1, z2, z3, z4, z5, bs⟩, v6, fun j u hu => ?_, hbs.m⟩
      have hj := (List.getElem?_eq_some_iff.1 hu).1
      simp [recC, evR] at hj hu
      rcases j with _ | _ | _ | _ | _ | _ | _ | j
      · simp at hu; subst hu; exact c0
      · simp at hu; subst hu; exact c1
      · simp at hu; subst hu; exact c2
      · simp at hu; subst hu; exact c3
      · simp at hu; subst hu; exact c4
      · simp at hu; subst hu; exact c5
      · simp at hu; subst hu; exact c6
      · omega
    let f : Nat → Ev := fun i => if h : i < len then Classical.choose (each i h) else ⟨0, 0, 0, 0, 0, 0, []⟩
    let g : Nat → Value := fun i => if h : i < len then Classical.choose (Classical.choose_spec (each i h)) else .int .i64 0
    have hf : ∀ i, i < len → (∀ j u, (recC (evR (f i)) (g i))[j]? = some u → W.cell? (a.add (i * 7 + j)) = some u) ∧ BysM W (fun _ => False) (g i) (f i).data := by
      intro i hin
      have := Classical.choose_spec (Classical.choose_spec (each i hin))
      simp only [f, g, dif_pos hin]
      exact this
    refine ⟨(List.range len).map f, ?_⟩
    by_cases h0 : len = 0
    · subst h0
      exact ⟨some a, m, [], rfl, by simp, trivial, RdM.nil _ _ _, fun e => by cases e⟩
    · obtain ⟨b, off, spot⟩ := a
      have hs : spot = none := by
        have := (hf 0 (by omega)).1 0 _ rfl
        simpa [Addr.add] using World.cell?_spot this
      subst hs
      refine recs_of evR 6 evR_len f g (fun i hin => ⟨fun j u hu => ?_, (hf i hin).2⟩) (fun e => e) hl
      have := (hf i hin).1 j u hu
      rw [addr_none] at this
      rw [Nat.add_assoc]
      exact this
theorem decs_trod {W : World} {fuel : Nat} {v : Value} {y : DataW H × List MemPlace} (h : DataW.trod enc Tryz.prog W 0 (fun _ => true) true fuel 33 [v] = some y) (hz : ∀ n ∈ y.1.weights Tryz.prog 33, n ≤ reachBytes) :
    ∃ l : List Dec, RecsM decR W (fun _ => False) v l := by
  rcases open_slice_fields Tryz.underlying33 Tryz.underlying39 (by kernel_rfl) (by kernel_rfl) h with ⟨hcs, _⟩ | ⟨a, len, cap, m, D, Pl, hcs, hb, hl, hm, hmm, hx, hi⟩
  · injection hcs with hcs
    subst hcs
    exact ⟨[], RecsM.none _ _ _⟩
  · injection hcs with hcs
    subst hcs
    have hm' : m = cap := by simpa using hmm
    subst hm'
    rw [hx] at hz
    have each : ∀ i, i < len → ∃ (x : Dec) (dv : Value), (∀ j u, (recC (decR x) dv)[j]? = some u → W.cell? (a.add (i * 5 + j)) = some u) ∧ BysM W (fun _ => False) dv x.data := by
      intro i hin
      obtain ⟨ys, k, hD, _, hyl, hf⟩ := hi i (by omega)
      obtain ⟨v0, y0, c0, g0, t0⟩ := hf 0 _ rfl
      obtain ⟨v1, y1, c1, g1, t1⟩ := hf 1 _ rfl
      obtain ⟨v2, y2, c2, g2, t2⟩ := hf 2 _ rfl
      obtain ⟨v3, y3, c3, g3, t3⟩ := hf 3 _ rfl
      obtain ⟨v4, y4, c4, g4, t4⟩ := hf 4 _ rfl
      obtain ⟨z0, e0, _, _⟩ := DataW.trod_int Tryz.underlying3 t0
      injection e0 with e0
      obtain ⟨z1, e1, _, _⟩ := DataW.trod_int Tryz.underlying3 t1
      injection e1 with e1
      obtain ⟨z2, e2, _, _⟩ := DataW.trod_int Tryz.underlying3 t2
      injection e2 with e2
      obtain ⟨z3, e3, _, _⟩ := DataW.trod_int Tryz.underlying3 t3
      injection e3 with e3
      subst e0 e1 e2 e3
      have hzD : ∀ q ∈ (D i).weights Tryz.prog 39, q ≤ reachBytes := fun q hq => hz q (by
        simp only [DataW.weights, Tryz.underlying33]
        exact List.mem_cons_of_mem _ (List.mem_append_left _ (weightsAll_mem (d := D i) (List.mem_map.2 ⟨i, by simpa using hin, rfl⟩) hq)))
      rw [hD] at hzD
      simp only [DataW.weights, Tryz.underlying39] at hzD
      obtain ⟨bs, hbs⟩ := bys_trod t4 (fun q hq => hzD q (DataW.weights_mem_each (j := 4) (t := 22) (d := y4.1) rfl (by simp [g4]) q hq))
      refine ⟨⟨z0, z1, z2, z3, bs⟩, v4, fun j u hu => ?_, hbs.m⟩
      have hj := (List.getElem?_eq_some_iff.1 hu).1
      simp [recC, decR] at hj hu
      rcases j with _ | _ | _ | _ | _ | j
      · simp at hu; subst hu; exact c0
      · simp at hu; subst hu; exact c1
      · simp at hu; subst hu; exact c2
      · simp at hu; subst hu; exact c3
      · simp at hu; subst hu; exact c4
      · omega
    let f : Nat → Dec := fun i => if h : i < len then Classical.choose (each i h) else ⟨0, 0, 0, 0, []⟩
    let g : Nat → Value := fun i => if h : i < len then Classical.choose (Classical.choose_spec (each i h)) else .int .i64 0
    have hf : ∀ i, i < len → (∀ j u, (recC (decR (f i)) (g i))[j]? = some u → W.cell? (a.add (i * 5 + j)) = some u) ∧ BysM W (fun _ => False) (g i) (f i).data := by
      intro i hin
      have := Classical.choose_spec (Classical.choose_spec (each i hin))
      simp only [f, g, dif_pos hin]
      exact this
    refine ⟨(List.range len).map f, ?_⟩
    by_cases h0 : len = 0
    · subst h0
      exact ⟨some a, m, [], rfl, by simp, trivial, RdM.nil _ _ _, fun e => by cases e⟩
    · obtain ⟨b, off, spot⟩ := a
      have hs : spot = none := by
        have := (hf 0 (by omega)).1 0 _ rfl
        simpa [Addr.add] using World.cell?_spot this
      subst hs
      refine recs_of decR 4 decR_len f g (fun i hin => ⟨fun j u hu => ?_, (hf i hin).2⟩) (fun e => e) hl
      have := (hf i hin).1 j u hu
      rw [addr_none] at this
      rw [Nat.add_assoc]
      exact this
end
end Go.Proofs.YtniknicnnaiilaaGreat
end
section
namespace Go.Proofs.YtniknicnnaiilaaGreat
set_option maxRecDepth 100000
open Go.RowKit Go.Ext Go.BigFrame Go.Maps Go.MapKept
attribute [local go_sem] Ext.cell Ext.frozen Ext.lt Ext.le s1 s2 s3 s4 s5 s6 t1 t2 t3 t4 t5 t6
attribute [local go_sem ↓] Go.wp_at_zero Go.wp_at_succ
open Go.ChangeShapes Go.WideShapes Go.ChangeAt Go.Joins Go.Deep
def IntsA (w : World) (A : Option Addr) (n : Nat) : Prop := ∀ i, i < n → ∃ b off x, A = some ⟨b, off, none⟩ ∧ b < w.heap.size ∧ w.cell? ⟨b, off + i, none⟩ = some (.int .i64 x) ∧ -9223372036854775808 ≤ x ∧ x ≤ 9223372036854775807
section
variable {H : Type} {enc : TypeId × Value → H}
theorem bysA_read {W : World} {b0 : Nat} {v : Value} {d : DataW H} {p : List MemPlace} (hv : Value.okWide Tryz.prog W .any b0 22 v) (h : DataW.Trod enc Tryz.prog W 0 (fun _ => true) true 22 v d p) (hz : ∀ n ∈ d.weights Tryz.prog 22, n ≤ reachBytes) : ∃ bs, BysM W (fun _ => False) v bs := by
  obtain ⟨A, n, c, rfl⟩ := okWide_slice Tryz.underlying22 hv
  obtain ⟨fuel, hf⟩ := h
  obtain ⟨bs, hbs⟩ := bys_trod hf hz
  exact ⟨bs, hbs.m⟩
theorem intsA_read {W : World} {b0 : Nat} {v : Value} {d : DataW H} {p : List MemPlace} (hv : Value.okWide Tryz.prog W .any b0 56 v) (h : DataW.Trod enc Tryz.prog W 0 (fun _ => true) true 56 v d p) (hz : ∀ n ∈ d.weights Tryz.prog 56, n ≤ reachBytes) :
    ∃ (A : Option Addr) (n c : Nat), v = .slice A n c ∧ IntsA W A n ∧ n ≤ 140737488351232 := by
  obtain ⟨A, n, c, rfl⟩ := okWide_slice Tryz.underlying56 hv
  obtain ⟨fuel, hf⟩ := h
  rcases open_ints (k := .i64) Tryz.underlying56 Tryz.underlying3 (by kernel_rfl) hf with ⟨hcs, _⟩ | ⟨a, len, cap, zs, hcs, _, hl, hm, hlen, hx, hcell, hw⟩
  · simp [Value.cells] at hcs
    obtain ⟨rfl, rfl, rfl⟩ := hcs
    exact ⟨none, 0, 0, rfl, fun j hj => absurd hj (by omega), by omega⟩
  · simp [Value.cells] at hcs
    obtain ⟨rfl, rfl, rfl⟩ := hcs
    have hcap : zs.length = c := by simpa using hlen
    have hb : n ≤ 140737488351232 := by
      have := hz _ (by
        injection hx with hx _
        rw [hx]
        simp only [DataW.weights, Tryz.underlying56]
        exact List.mem_cons_self ..)
      simp only [Go.ChangeShapes.lits, List.length_map, List.length_take, List.length_drop, hcap] at this
      have e1 : Tryz.prog.bytesOf 3 = 8 := by kernel_rfl
      rw [e1] at this
      unfold reachBytes at this
      omega
    refine ⟨some a, n, c, rfl, fun i hi => ?_, hb⟩
    obtain ⟨b, off, spot⟩ := a
    have hs : spot = none := by
      have := hcell 0 (by omega)
      simpa [Addr.add] using World.cell?_spot this
    subst hs
    have := hcell i (by omega)
    rw [addr_none] at this
    have hwz := hw (zs[i]'(by omega)) (List.getElem_mem _)
    have hr : -9223372036854775808 ≤ zs[i]'(by omega) ∧ zs[i]'(by omega) ≤ 9223372036854775807 := by simpa [Lit.wf, IntKind.min, IntKind.max, IntKind.signed, IntKind.bits] using hwz
    have hg : zs.getD i 0 = zs[i]'(by omega) := by simp [List.getD, show i < zs.length by omega]
    rw [hg] at this
    exact ⟨b, off, _, rfl, World.block_lt_of_cell? W _ this, this, hr.1, hr.2⟩
end
end Go.Proofs.YtniknicnnaiilaaGreat
end
