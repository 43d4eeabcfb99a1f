/- Lemmas: what the functions of the engine answer, and which blocks they write. -/
import Derived.Laws.ResultCell
import Derived.Test.YtniknicnnaiilaaGreatRows
import Derived.Test.YtniknicnnaiilaaGreatX01
section
namespace Go.Proofs.YtniknicnnaiilaaGreat
open Go.RowKit Go.Ext
abbrev Bl := Nat → Prop
structure Up (M : Bl) (w : World) (M' : Bl) (w' : World) : Prop where
  mod : Mod M w w'
  old : ∀ b, b < w.heap.size → M' b → M b
section
variable {M M' M'' : Bl} {w w' w'' : World}
theorem Up.trans (h : Up M w M' w') (k : Up M' w' M'' w'') : Up M w M'' w'' :=
  ⟨h.mod.trans k.mod h.old, fun b hb h2 => h.old b hb (k.old b (Nat.lt_of_lt_of_le hb h.mod.size) h2)⟩
theorem Gr.up (g : Gr w w') (M : Bl) : Up M w M w' := ⟨g.mod M, fun _ _ h => h⟩
theorem Up.gr (h : Up M w M' w') (g : Gr w' w'') : Up M w M' w'' := h.trans (Gr.up g M')
theorem Mod.up {S : Bl} (m : Mod S w w') (hS : ∀ b, b < w.heap.size → S b → M b) : Up M w M w' := ⟨m.mono hS, fun _ _ h => h⟩
theorem Up.size (h : Up M w M' w') : w.heap.size ≤ w'.heap.size := h.mod.size
theorem Up.block (h : Up M w M' w') {b : Nat} (hb : b < w.heap.size) (hM : ¬ M b) : w'.heap[b]? = w.heap[b]? := h.mod.block b hb hM
theorem Up.not (h : Up M w M' w') {b : Nat} (hb : b < w.heap.size) (hM : ¬ M b) : ¬ M' b := fun e => hM (h.old b hb e)
end
def RdM (w : World) (M : Bl) (A : Option Addr) (xs : List Value) : Prop := xs ≠ [] → ∃ b off, A = some ⟨b, off, none⟩ ∧ ¬ M b ∧ ∀ j u, xs[j]? = some u → w.cell? ⟨b, off + j, none⟩ = some u
section
variable {M M' : Bl} {w w' : World} {A : Option Addr} {xs : List Value}
theorem RdM.nil (w : World) (M : Bl) (A : Option Addr) : RdM w M A [] := fun h => absurd rfl h
theorem RdM.rd (h : RdM w M A xs) : Rd w A xs := fun hn => by
  obtain ⟨b, off, e, _, hc⟩ := h hn
  exact ⟨b, off, e, hc⟩
theorem Rd.m (h : Rd w A xs) (hM : ∀ b off, A = some ⟨b, off, none⟩ → b < w.heap.size → ¬ M b) : RdM w M A xs := fun hn => by
  obtain ⟨b, off, e, hc⟩ := h hn
  refine ⟨b, off, e, hM b off e ?_, hc⟩
  rcases xs with _ | ⟨x, r⟩
  · exact absurd rfl hn
  · exact World.block_lt_of_cell? w _ (hc 0 x rfl)
theorem RdM.up (h : RdM w M A xs) (u : Up M w M' w') : RdM w' M' A xs := fun hn => by
  obtain ⟨b, off, e, hM, hc⟩ := h hn
  have hlt : b < w.heap.size := by
    rcases xs with _ | ⟨x, r⟩
    · exact absurd rfl hn
    · exact World.block_lt_of_cell? w _ (hc 0 x rfl)
  exact ⟨b, off, e, u.not hlt hM, fun j v hv => (World.cell?_of_block (u.block hlt hM)).trans (hc j v hv)⟩
end
def BysM (w : World) (M : Bl) (v : Value) (bs : List UInt8) : Prop := ∃ A c, v = .slice A bs.length c ∧ bs.length ≤ 140737488351232 ∧ RdM w M A (bc bs) ∧ (A = none → c = 0)
def Bys (w : World) (v : Value) (bs : List UInt8) : Prop := ∃ A c, v = .slice A bs.length c ∧ bs.length ≤ 140737488351232 ∧ Rd w A (bc bs) ∧ (A = none → c = 0)
section
variable {M M' : Bl} {w w' : World} {v : Value} {bs : List UInt8}
theorem BysM.up (h : BysM w M v bs) (u : Up M w M' w') : BysM w' M' v bs := by
  obtain ⟨A, c, e, h1, h2, h3⟩ := h
  exact ⟨A, c, e, h1, h2.up u, h3⟩
theorem BysM.bys (h : BysM w M v bs) : Bys w v bs := by
  obtain ⟨A, c, e, h1, h2, h3⟩ := h
  exact ⟨A, c, e, h1, h2.rd, h3⟩
theorem Bys.gr (h : Bys w v bs) (g : Gr w w') : Bys w' v bs := by
  obtain ⟨A, c, e, h1, h2, h3⟩ := h
  exact ⟨A, c, e, h1, h2.gr g, h3⟩
theorem BysM.none (w : World) (M : Bl) : BysM w M (.slice none 0 0) [] := ⟨.none, 0, rfl, by simp, RdM.nil _ _ _, fun _ => rfl⟩
theorem BysM.shape (h : BysM w M v bs) : ∃ A c, v = .slice A bs.length c := by
  obtain ⟨A, c, e, _⟩ := h
  exact ⟨A, c, e⟩
theorem BysM.of_own {B : Nat} (h : w.ownsRow B 5 1 v bs.length (bc bs)) (hM : ∀ b, B ≤ b → ¬ M b) (hl : bs.length ≤ 140737488351232) : BysM w M v bs := by
  rcases h.2 with ⟨rfl, h0⟩ | ⟨g, cap, cur, rfl, hb, hh, r⟩
  · have : bs = [] := List.eq_nil_of_length_eq_zero h0
    subst this
    exact BysM.none _ _
  · refine ⟨some ⟨g, 0, .none⟩, cap, rfl, hl, Rd.m (Rd.of_own h) ?_, fun e => by cases e⟩
    rintro b off e _
    injection e with e
    injection e with e1
    subst e1
    exact hM _ hb
end
def recC (x : List Int × List UInt8) (d : Value) : List Value := x.1.map (.int .i64) ++ [d]
def rowC : List (List Int × List UInt8) → List Value → List Value
  | x :: xs, d :: ds => recC x d ++ rowC xs ds
  | _, _ => []
def DatM (w : World) (M : Bl) : List (List Int × List UInt8) → List Value → Prop
  | [], [] => True
  | x :: xs, d :: ds => BysM w M d x.2 ∧ DatM w M xs ds
  | _, _ => False
section
variable {M M' : Bl} {w w' : World} {m : Nat}
theorem DatM.up (u : Up M w M' w') : ∀ {xs : List (List Int × List UInt8)} {ds : List Value}, DatM w M xs ds → DatM w' M' xs ds
  | [], [], _ => trivial
  | _ :: _, _ :: _, h => ⟨h.1.up u, DatM.up u h.2⟩
  | [], _ :: _, h => h.elim
  | _ :: _, [], h => h.elim
theorem DatM.len : ∀ {xs : List (List Int × List UInt8)} {ds : List Value}, DatM w M xs ds → ds.length = xs.length
  | [], [], _ => rfl
  | _ :: _, _ :: _, h => by simp [DatM.len h.2]
  | [], _ :: _, h => h.elim
  | _ :: _, [], h => h.elim
theorem DatM.get : ∀ {xs : List (List Int × List UInt8)} {ds : List Value} {i : Nat} {x : List Int × List UInt8}, DatM w M xs ds → xs[i]? = some x → ∃ d, ds[i]? = some d ∧ BysM w M d x.2
  | [], _, i, x, _, h => by simp at h
  | _ :: _, [], _, _, h, _ => h.elim
  | y :: r, d :: ds, 0, x, h, hx => by
    simp only [List.getElem?_cons_zero, Option.some.injEq] at hx
    subst hx
    exact ⟨d, rfl, h.1⟩
  | y :: r, d :: ds, i + 1, x, h, hx => by
    simp only [List.getElem?_cons_succ] at hx ⊢
    exact DatM.get h.2 hx
theorem DatM.app : ∀ {xs ys : List (List Int × List UInt8)} {ds es : List Value}, DatM w M xs ds → DatM w M ys es → DatM w M (xs ++ ys) (ds ++ es)
  | [], _, [], _, _, k => k
  | _ :: _, _, _ :: _, _, h, k => ⟨h.1, DatM.app h.2 k⟩
  | [], _, _ :: _, _, h, _ => h.elim
  | _ :: _, _, [], _, h, _ => h.elim
theorem rowC_len : ∀ (xs : List (List Int × List UInt8)) (ds : List Value), (∀ x ∈ xs, x.1.length = m) → ds.length = xs.length → (rowC xs ds).length = xs.length * (m + 1)
  | [], [], _, _ => by simp [rowC]
  | x :: xs, d :: ds, h, hl => by
    have := rowC_len xs ds (fun y hy => h y (List.mem_cons_of_mem _ hy)) (by simpa using hl)
    simp only [rowC, recC, List.length_append, List.length_map, List.length_cons, List.length_nil, this, h x (List.mem_cons_self ..), Nat.add_mul]
    omega
  | [], _ :: _, _, hl => by simp at hl
  | _ :: _, [], _, hl => by simp at hl
theorem rowC_app : ∀ (xs ys : List (List Int × List UInt8)) (ds es : List Value), ds.length = xs.length → rowC (xs ++ ys) (ds ++ es) = rowC xs ds ++ rowC ys es
  | [], _, [], _, _ => rfl
  | x :: xs, ys, d :: ds, es, h => by simp only [List.cons_append, rowC, rowC_app xs ys ds es (by simpa using h), List.append_assoc]
  | [], _, _ :: _, _, h => by simp at h
  | _ :: _, _, [], _, h => by simp at h
theorem rowC_one : ∀ (xs : List (List Int × List UInt8)) (ds : List Value), (∀ d ∈ ds, d.oneCell' = true) → ∀ u ∈ rowC xs ds, u.oneCell' = true
  | x :: xs, d :: ds, h, u, hu => by
    simp only [rowC, recC, List.mem_append, List.mem_map, List.mem_singleton] at hu
    rcases hu with (⟨n, _, rfl⟩ | rfl) | hu
    · rfl
    · exact h _ (List.mem_cons_self ..)
    · exact rowC_one xs ds (fun d hd => h d (List.mem_cons_of_mem _ hd)) u hu
  | [], _, _, u, hu => by simp [rowC] at hu
  | _ :: _, [], _, u, hu => by simp [rowC] at hu
theorem DatM.one : ∀ {xs : List (List Int × List UInt8)} {ds : List Value}, DatM w M xs ds → ∀ d ∈ ds, d.oneCell' = true
  | [], [], _, d, hd => by cases hd
  | _ :: _, e :: ds, h, d, hd => by
    rcases List.mem_cons.1 hd with rfl | hd
    · obtain ⟨A, c, rfl⟩ := h.1.shape; rfl
    · exact DatM.one h.2 d hd
  | [], _ :: _, h, _, _ => h.elim
  | _ :: _, [], h, _, _ => h.elim
theorem rowC_get : ∀ (xs : List (List Int × List UInt8)) (ds : List Value) (i : Nat) (x : List Int × List UInt8) (d : Value) (j : Nat), (∀ x ∈ xs, x.1.length = m) → xs[i]? = some x → ds[i]? = some d → j < m + 1 →
    (rowC xs ds)[i * (m + 1) + j]? = (recC x d)[j]?
  | [], _, _, _, _, _, _, h, _, _ => by simp at h
  | _ :: _, [], _, _, _, _, _, _, h, _ => by simp at h
  | y :: xs, e :: ds, 0, x, d, j, hm, h, k, hj => by
    simp only [List.getElem?_cons_zero, Option.some.injEq] at h k
    subst h k
    simp only [rowC, Nat.zero_mul, Nat.zero_add]
    rw [List.getElem?_append_left]
    simp [recC, hm y (List.mem_cons_self ..)]
    omega
  | y :: xs, e :: ds, i + 1, x, d, j, hm, h, k, hj => by
    simp only [List.getElem?_cons_succ] at h k
    have hl : (recC y e).length = m + 1 := by simp [recC, hm y (List.mem_cons_self ..)]
    simp only [rowC]
    rw [List.getElem?_append_right (by rw [hl, Nat.add_mul]; omega), hl, show (i + 1) * (m + 1) + j - (m + 1) = i * (m + 1) + j by rw [Nat.add_mul]; omega]
    exact rowC_get xs ds i x d j (fun y hy => hm y (List.mem_cons_of_mem _ hy)) h k hj
end
def RecsM {α : Type} (r : α → List Int × List UInt8) (w : World) (M : Bl) (v : Value) (xs : List α) : Prop :=
  ∃ A c ds, v = .slice A xs.length c ∧ xs.length ≤ c ∧ DatM w M (xs.map r) ds ∧ RdM w M A (rowC (xs.map r) ds) ∧ (A = none → c = 0)
section
variable {α : Type} {r : α → List Int × List UInt8} {M M' : Bl} {w w' : World} {v : Value} {xs : List α} {m : Nat}
theorem RecsM.up (h : RecsM r w M v xs) (u : Up M w M' w') : RecsM r w' M' v xs := by
  obtain ⟨A, c, ds, e, hc, h1, h2, h3⟩ := h
  exact ⟨A, c, ds, e, hc, h1.up u, h2.up u, h3⟩
theorem RecsM.none (r : α → List Int × List UInt8) (w : World) (M : Bl) : RecsM r w M (.slice none 0 0) [] := ⟨.none, 0, [], rfl, by simp, trivial, RdM.nil _ _ _, fun _ => rfl⟩
theorem RecsM.at_ {A : Option Addr} {n c : Nat} {i : Nat} {x : α} (h : RecsM r w M (.slice A n c) xs) (hm : ∀ x, (r x).1.length = m) (hx : xs[i]? = some x) :
    ∃ b off d, A = some ⟨b, off, .none⟩ ∧ b < w.heap.size ∧ ¬ M b ∧ BysM w M d (r x).2 ∧ ∀ j u, (recC (r x) d)[j]? = some u → w.cell? ⟨b, off + i * (m + 1) + j, .none⟩ = some u := by
  obtain ⟨A', c', ds, e, hc, h1, h2, h3⟩ := h
  injection e with e1 e2 e3
  subst e1 e2 e3
  have hx' : (xs.map r)[i]? = some (r x) := by rw [List.getElem?_map, hx]; rfl
  obtain ⟨d, hd, hb⟩ := h1.get hx'
  have hm' : ∀ y ∈ xs.map r, y.1.length = m := fun y hy => by
    obtain ⟨z, _, rfl⟩ := List.mem_map.1 hy
    exact hm z
  have hg := fun j hj => rowC_get (xs.map r) ds i (r x) d j hm' hx' hd hj
  have hne : rowC (xs.map r) ds ≠ [] := fun e => by
    have := hg 0 (by omega)
    rw [e] at this
    cases hr : (r x).1 <;> simp [recC, hr] at this
  obtain ⟨b, off, rfl, hM, hcell⟩ := h2 hne
  have hall : ∀ j u, (recC (r x) d)[j]? = some u → w.cell? ⟨b, off + i * (m + 1) + j, .none⟩ = some u := fun j u hu => by
    have hj : j < m + 1 := by
      have := (List.getElem?_eq_some_iff.1 hu).1
      simpa [recC, hm x] using this
    rw [Nat.add_assoc]
    exact hcell _ u ((hg j hj).trans hu)
  refine ⟨b, off, d, rfl, ?_, hM, hb, hall⟩
  obtain ⟨u, hu⟩ : ∃ u, (recC (r x) d)[0]? = some u := by
    have : 0 < (recC (r x) d).length := by simp [recC]
    exact ⟨_, List.getElem?_eq_getElem this⟩
  exact World.block_lt_of_cell? w _ (hall 0 u hu)
theorem RecsM.shape (h : RecsM r w M v xs) : ∃ A c, v = .slice A xs.length c ∧ xs.length ≤ c := by
  obtain ⟨A, c, ds, e, hc, _⟩ := h
  exact ⟨A, c, e, hc⟩
end
def evR (e : Ev) : List Int × List UInt8 := ([e.kind, e.tick, e.ref, e.id, e.list, e.n], e.data)
def outR (o : Out) : List Int × List UInt8 := ([o.kind, o.list, o.ref, o.turn, o.tick, o.id, o.n], o.data)
def decR (d : Dec) : List Int × List UInt8 := ([d.kind, d.id, d.list, d.n], d.data)
theorem evR_len (e : Ev) : (evR e).1.length = 6 := rfl
theorem outR_len (o : Out) : (outR o).1.length = 7 := rfl
theorem decR_len (d : Dec) : (decR d).1.length = 4 := rfl
def evV (e : Ev) (d : Value) : Value := .agg #[.int .i64 e.kind, .int .i64 e.tick, .int .i64 e.ref, .int .i64 e.id, .int .i64 e.list, .int .i64 e.n, d]
def opV (o : Opn) : Value := .agg #[.int .i64 o.kind, .int .i64 o.id, .int .i64 o.works]
def flowC (F : FS) (v : Value) (mb : Nat) : Array Value :=
  #[.int .i64 F.id, .int .i64 F.run, .int .i64 F.list, .int .i64 F.n, v, .int .i64 F.task, .int .i64 F.place, .int .i64 F.begun, .int .i64 F.turn, .bool F.late, .bool F.asked, .map (some mb)]
structure FlowR (w : World) (M : Bl) (k mb : Nat) (F : FS) : Prop where
  row : ∃ v, w.heap[k]? = some (.cells (flowC F v mb) 157 (0, 0)) ∧ RecsM evR w M v F.l
  map : MI w mb (mp opV F.op)
def FlowF (w : World) (M : Bl) (k : Nat) (F : FS) : Prop := ∃ mb, ¬ M mb ∧ FlowR w M k mb F
def FlowI (w : World) (M : Bl) (k : Nat) (F : FS) : Prop := ¬ M k ∧ FlowF w M k F
section
variable {M M' : Bl} {w w' : World} {k mb : Nat} {F : FS}
theorem FlowR.lt (h : FlowR w M k mb F) : k < w.heap.size ∧ mb < w.heap.size := by
  obtain ⟨v, h1, h2⟩ := h.row
  exact ⟨(Array.getElem?_eq_some_iff.1 h1).1, h.map.lt⟩
theorem FlowR.up (h : FlowR w M k mb F) (u : Up M w M' w') (hk : w'.heap[k]? = w.heap[k]?) (hm : w'.heap[mb]? = w.heap[mb]?) : FlowR w' M' k mb F := by
  obtain ⟨v, h1, h2⟩ := h.row
  exact ⟨⟨v, hk.trans h1, h2.up u⟩, h.map.keep hm⟩
theorem FlowR.gr (h : FlowR w M k mb F) (g : Gr w w') : FlowR w' M k mb F := h.up (Gr.up g M) (g.block _ h.lt.1) (g.block _ h.lt.2)
theorem FlowF.gr (h : FlowF w M k F) (g : Gr w w') : FlowF w' M k F := by
  obtain ⟨mb, hM, h⟩ := h
  exact ⟨mb, hM, h.gr g⟩
theorem FlowI.up (h : FlowI w M k F) (u : Up M w M' w') : FlowI w' M' k F := by
  obtain ⟨hk, mb, hM, h⟩ := h
  exact ⟨u.not h.lt.1 hk, mb, u.not h.lt.2 hM, h.up u (u.block h.lt.1 hk) (u.block h.lt.2 hM)⟩
end
end Go.Proofs.YtniknicnnaiilaaGreat
end
section
namespace Go.Proofs.YtniknicnnaiilaaGreat
set_option maxRecDepth 100000
open Go.RowKit Go.Ext Go.BigFrame
attribute [local go_sem] Ext.cell Ext.frozen Ext.lt Ext.le s1 s2 s3 s4 s5 s6 t1 t2 t3 t4 t5 t6
attribute [local go_sem ↓] Go.wp_at_zero Go.wp_at_succ
def RetP (p : World → Value → Prop) (w : World) (e : Ending) (w' : World) : Prop := ∃ v, ∃ y : Ext w, e = .returned v ∧ w' = y.val ∧ p y.val v
def Ints (w : World) (v : Value) (xs : List Int) : Prop :=
  ∃ A c, v = .slice A xs.length c ∧ xs.length ≤ 17592186044416 ∧ (xs ≠ [] → ∃ b off, A = some ⟨b, off, none⟩ ∧ ∀ j, j < xs.length → w.cell? ⟨b, off + j, none⟩ = some (.int .i64 (xs.getD j 0)))
theorem Ints.gr {w w' : World} {v : Value} {xs : List Int} (h : Ints w v xs) (g : Gr w w') : Ints w' v xs := by
  obtain ⟨A, c, rfl, hl, hr⟩ := h
  refine ⟨A, c, rfl, hl, fun hn => ?_⟩
  obtain ⟨b, off, rfl, hc⟩ := hr hn
  exact ⟨b, off, rfl, fun j hj => (g.cell (World.block_lt_of_cell? w _ (hc j hj))).trans (hc j hj)⟩
abbrev It := Int × Int × Int × Int × Int × Int
def il (x : It) : List Int := [x.1, x.2.1, x.2.2.1, x.2.2.2.1, x.2.2.2.2.1, x.2.2.2.2.2]
def ic (x : It) : List Value := [.int .i64 x.1, .int .i64 x.2.1, .int .i64 x.2.2.1, .int .i64 x.2.2.2.1, .int .i64 x.2.2.2.2.1, .int .i64 x.2.2.2.2.2]
def iv (x : It) : Value := .agg #[.int .i64 x.1, .int .i64 x.2.1, .int .i64 x.2.2.1, .int .i64 x.2.2.2.1, .int .i64 x.2.2.2.2.1, .int .i64 x.2.2.2.2.2]
def cmpL : List Int → List Int → Int
  | [], [] => 0
  | [], _ :: _ => -1
  | _ :: _, [] => 1
  | x :: xs, y :: ys => if x < y then -1 else if y < x then 1 else cmpL xs ys
def cmp1 (x y : Int) : Int := if x < y then -1 else if y < x then 1 else 0
theorem nan_any (x : Int) (w : World) : Calls Tryz.prog 193 #[.int .i64 x] w (fun e w' => e = .returned (.bool false) ∧ w = w') := by
  go_enter Tryz.func193, Tryz.ntmps193
  go_wp2_with fail
  go_ret
  simp
theorem cmp_any (x y : Int) (w : World) : Calls Tryz.prog 163 #[.int .i64 x, .int .i64 y] w (fun e w' => e = .returned (.int .i64 (cmp1 x y)) ∧ w = w') := by
  by_cases h1 : x < y
  · have e : cmp1 x y = -1 := by simp [cmp1, h1]
    rw [e]
    go_enter Tryz.func163, Tryz.ntmps163
    go_wp2_with (go_at_call 193; refine (nan_any _ _).mono ?_; rintro e _ ⟨rfl, rfl⟩)
    go_ret
    simp
  · by_cases h2 : y < x
    · have e : cmp1 x y = 1 := by simp [cmp1, h1, h2]
      rw [e]
      go_enter Tryz.func163, Tryz.ntmps163
      go_wp2_with (go_at_call 193; refine (nan_any _ _).mono ?_; rintro e _ ⟨rfl, rfl⟩)
      go_ret
      simp
    · have e : cmp1 x y = 0 := by simp [cmp1, h1, h2]
      rw [e]
      go_enter Tryz.func163, Tryz.ntmps163
      go_wp2_with (go_at_call 193; refine (nan_any _ _).mono ?_; rintro e _ ⟨rfl, rfl⟩)
      go_ret
      simp
theorem cmpL_step (xs ys : List Int) (k : Nat) (hx : k < xs.length) (hy : k < ys.length) : cmpL (xs.drop k) (ys.drop k) = if cmp1 (xs.getD k 0) (ys.getD k 0) = 0 then cmpL (xs.drop (k + 1)) (ys.drop (k + 1)) else cmp1 (xs.getD k 0) (ys.getD k 0) := by
  rw [List.drop_eq_getElem_cons hx, List.drop_eq_getElem_cons hy]
  simp only [cmpL, cmp1, List.getD, List.getElem?_eq_getElem hx, List.getElem?_eq_getElem hy, Option.getD_some]
  split
  · simp
  · split <;> simp_all
theorem compare_any (xs ys : List Int) (u v : Value) (w : World) (hx : Ints w u xs) (hy : Ints w v ys) :
    Calls Tryz.prog 120 #[u, v] w (fun e w' => e = .returned (.int .i64 (cmpL xs ys)) ∧ w = w') := by
  obtain ⟨A, c, rfl, hl, hr⟩ := hx
  obtain ⟨A2, c2, rfl, hl2, hr2⟩ := hy
  have HR := hid hr
  have HR2 := hid hr2
  clear hr hr2
  obtain ⟨res, hres⟩ : ∃ res, cmpL xs ys = res := ⟨_, rfl⟩
  rw [hres]
  have HRES := hid hres
  clear hres
  go_enter Tryz.func120, Tryz.ntmps120
  go_wp2_with fail
  go_loopw [11] (fun i wr => ∃ k : Nat, k ≤ xs.length ∧ k ≤ ys.length ∧ i = .int .i64 k ∧ cmpL (xs.drop k) (ys.drop k) = res ∧ w = wr) (fun i _ => xs.length - (intOf i).toNat)
  case atStart => exact ⟨0, Nat.zero_le _, Nat.zero_le _, rfl, HRES.out, rfl⟩
  case round =>
    obtain ⟨k, hk, hk2, rfl, hc, rfl⟩ := hrel
    have HC := hid hc
    clear hc
    by_cases hlt : k < xs.length
    · obtain ⟨b, off, rfl, hcs⟩ := HR.out (by rintro rfl; simp at hlt)
      have c1 := hcs k hlt
      by_cases hlt2 : k < ys.length
      · obtain ⟨b2, off2, rfl, hcs2⟩ := HR2.out (by rintro rfl; simp at hlt2)
        have c2 := hcs2 k hlt2
        have HS := hid (cmpL_step xs ys k hlt hlt2)
        clear hcs hcs2
        generalize xs.getD k 0 = x at *
        generalize ys.getD k 0 = y at *
        by_cases hz : cmp1 x y = 0
        · go_wp2_with (go_at_call 163; refine (cmp_any _ _ _).mono ?_; rintro e _ ⟨rfl, rfl⟩)
          go_roundw
          case rel => exact ⟨k + 1, by omega, by omega, by go_num, by rw [← HC.out, HS.out, if_pos hz], by first | rfl | trivial⟩
          case measure => simp [intOf]; omega
        · go_wp2_with (go_at_call 163; refine (cmp_any _ _ _).mono ?_; rintro e _ ⟨rfl, rfl⟩)
          go_ret
          exact ⟨by rw [← HC.out, HS.out, if_neg hz]; rfl, rfl⟩
      · have hd : ys.drop k = [] := List.drop_eq_nil_of_le (by omega)
        go_wp2_with fail
        go_ret
        exact ⟨by rw [← HC.out, hd, List.drop_eq_getElem_cons hlt]; rfl, rfl⟩
    · have hd : xs.drop k = [] := List.drop_eq_nil_of_le (by omega)
      by_cases hlt2 : k < ys.length
      · have hxy : (xs.length : Int) < ys.length := by omega
        go_wp2_with fail
        go_ret
        exact ⟨by rw [← HC.out, hd, List.drop_eq_getElem_cons hlt2]; rfl, rfl⟩
      · have hd2 : ys.drop k = [] := List.drop_eq_nil_of_le (by omega)
        go_wp2_with fail
        go_ret
        exact ⟨by rw [← HC.out, hd, hd2]; rfl, rfl⟩
theorem numbers_any (x : It) (w : World) : Calls Tryz.prog 121 #[iv x] w (RetP (fun w' v => Ints w' v (il x)) w) := by
  obtain ⟨a, b, c, d, e, f⟩ := x
  simp only [iv]
  go_enter Tryz.func121, Tryz.ntmps121
  go_wp2_with fail
  go_ret
  refine ⟨_, ⟨_, ((Gr.refl w).alloc _).alloc _⟩, rfl, rfl, _, _, rfl, by simp [il], fun _ => ⟨_, _, rfl, ?_⟩⟩
  intro j hj
  simp only [il, List.length_cons, List.length_nil] at hj
  have : j = 0 ∨ j = 1 ∨ j = 2 ∨ j = 3 ∨ j = 4 ∨ j = 5 := by omega
  rcases this with rfl | rfl | rfl | rfl | rfl | rfl <;> (simp only [il, List.getD, List.getElem?_cons_zero, List.getElem?_cons_succ, Option.getD_some]; go_simp)
end Go.Proofs.YtniknicnnaiilaaGreat
end
section
namespace Go.Proofs.YtniknicnnaiilaaGreat
set_option maxRecDepth 100000
open Go.RowKit Go.Ext Go.BigFrame Go.Maps
attribute [local go_sem] Ext.cell Ext.frozen Ext.lt Ext.le s1 s2 s3 s4 s5 s6 t1 t2 t3 t4 t5 t6
attribute [local go_sem ↓] Go.wp_at_zero Go.wp_at_succ
structure FC (w : World) (k : Nat) (F : FS) (v : Value) (mb : Nat) : Prop where
  c0 : w.cell? ⟨k, 0, none⟩ = some (.int .i64 F.id)
  c1 : w.cell? ⟨k, 1, none⟩ = some (.int .i64 F.run)
  c2 : w.cell? ⟨k, 2, none⟩ = some (.int .i64 F.list)
  c3 : w.cell? ⟨k, 3, none⟩ = some (.int .i64 F.n)
  c4 : w.cell? ⟨k, 4, none⟩ = some v
  c5 : w.cell? ⟨k, 5, none⟩ = some (.int .i64 F.task)
  c6 : w.cell? ⟨k, 6, none⟩ = some (.int .i64 F.place)
  c7 : w.cell? ⟨k, 7, none⟩ = some (.int .i64 F.begun)
  c8 : w.cell? ⟨k, 8, none⟩ = some (.int .i64 F.turn)
  c9 : w.cell? ⟨k, 9, none⟩ = some (.bool F.late)
  c10 : w.cell? ⟨k, 10, none⟩ = some (.bool F.asked)
  c11 : w.cell? ⟨k, 11, none⟩ = some (.map (some mb))
theorem FC.of {w : World} {k mb : Nat} {F : FS} {v : Value} (h : w.heap[k]? = some (.cells (flowC F v mb) 157 (0, 0))) : FC w k F v mb := by
  constructor <;> simp [World.cell?, h, flowC]
theorem frozen_of {w : World} {k j : Nat} {cs : Array Value} {t : TypeId} (h : w.heap[k]? = some (.cells cs t (0, 0))) : w.frozen? ⟨k, j, none⟩ = false := by simp [World.frozen?, h]
theorem FZ {w : World} {k : Nat} {cs : Array Value} {t : TypeId} (h : w.heap[k]? = some (.cells cs t (0, 0))) : w.frozen? ⟨k, 0, none⟩ = false ∧ w.frozen? ⟨k, 1, none⟩ = false ∧ w.frozen? ⟨k, 2, none⟩ = false ∧ w.frozen? ⟨k, 3, none⟩ = false ∧ w.frozen? ⟨k, 4, none⟩ = false ∧ w.frozen? ⟨k, 5, none⟩ = false ∧ w.frozen? ⟨k, 6, none⟩ = false ∧ w.frozen? ⟨k, 7, none⟩ = false ∧ w.frozen? ⟨k, 8, none⟩ = false ∧ w.frozen? ⟨k, 9, none⟩ = false := ⟨frozen_of h, frozen_of h, frozen_of h, frozen_of h, frozen_of h, frozen_of h, frozen_of h, frozen_of h, frozen_of h, frozen_of h⟩
theorem RecsM.last {w : World} {M : Bl} {A : Option Addr} {n c : Nat} {l : List Ev} {e : Ev} (h : RecsM evR w M (.slice A n c) l) (he : l.getLast? = some e) :
    ∃ b off d, A = some ⟨b, off, .none⟩ ∧ b < w.heap.size ∧ ¬ M b ∧ BysM w M d e.data ∧ 0 < n ∧ n = l.length ∧ n ≤ c ∧ ∀ j u, (recC (evR e) d)[j]? = some u → w.cell? ⟨b, off + (n - 1) * 7 + j, .none⟩ = some u := by
  have hn : n = l.length ∧ n ≤ c := by
    obtain ⟨A', c', e', hc⟩ := h.shape
    injection e' with e1 e2 e3
    exact ⟨e2, by omega⟩
  obtain ⟨rfl, hc⟩ := hn
  have h0 : 0 < l.length := by
    rcases l with _ | ⟨x, r⟩
    · simp at he
    · simp
  obtain ⟨b, off, d, h1, h2, h3, h4, h5⟩ := h.at_ (m := 6) (fun x => evR_len x) (i := l.length - 1) (x := e) (by rw [← List.getLast?_eq_getElem?]; exact he)
  exact ⟨b, off, d, h1, h2, h3, h4, h0, rfl, hc, h5⟩
theorem status_ev (v : Value) (l : List Ev) (M : Bl) (w : World) (h : RecsM evR w M v l) (hl : l.length ≤ 1000000) : Calls Tryz.prog 105 #[v] w (RetE (.int .i64 (statusL l)) w) := by
  obtain ⟨A, c, rfl, hlc⟩ := h.shape
  refine retE_same ?_
  cases he : l.getLast? with
  | none =>
    have : l = [] := List.getLast?_eq_none_iff.1 he
    subst this
    go_enter Tryz.func105, Tryz.ntmps105
    go_wp2_with fail
    go_ret
    exact ⟨rfl, rfl⟩
  | some e =>
    obtain ⟨b, off, d, rfl, hb, hM, hd, h0, hn, hnc, hcell⟩ := h.last he
    have c0 := hcell 0 (.int .i64 e.kind) rfl
    rw [Nat.add_zero] at c0
    have HS := hid (show statusL l = statusK e.kind by unfold statusL; rw [he])
    clear hcell h hd he
    generalize l.length = n at *
    have hz : ¬ (n : Int) = 0 := by omega
    have k0 : (0 : Int) ≤ (n : Int) - 1 := by omega
    have k1 : (n : Int) - 1 < (n : Int) := by omega
    generalize e.kind = k at *
    have main : ∀ x : Int, statusK k = x → Calls Tryz.prog 105 #[.slice (some ⟨b, off, none⟩) n c] w (fun e w' => e = .returned (.int .i64 x) ∧ w = w') := by
      intro x hx
      by_cases h19 : k = 19
      · subst h19
        go_enter Tryz.func105, Tryz.ntmps105
        go_wp2_with fail
        go_ret
        exact ⟨by rw [← hx]; rfl, rfl⟩
      by_cases h20 : k = 20
      · subst h20
        go_enter Tryz.func105, Tryz.ntmps105
        go_wp2_with fail
        go_ret
        exact ⟨by rw [← hx]; rfl, rfl⟩
      by_cases h21 : k = 21
      · subst h21
        go_enter Tryz.func105, Tryz.ntmps105
        go_wp2_with fail
        go_ret
        exact ⟨by rw [← hx]; rfl, rfl⟩
      by_cases h22 : k = 22
      · subst h22
        go_enter Tryz.func105, Tryz.ntmps105
        go_wp2_with fail
        go_ret
        exact ⟨by rw [← hx]; rfl, rfl⟩
      by_cases h23 : k = 23
      · subst h23
        go_enter Tryz.func105, Tryz.ntmps105
        go_wp2_with fail
        go_ret
        exact ⟨by rw [← hx]; rfl, rfl⟩
      have hx1 : x = 1 := by rw [← hx]; unfold statusK; rw [if_neg h19, if_neg h20, if_neg h21, if_neg h22, if_neg h23]
      subst hx1
      go_enter Tryz.func105, Tryz.ntmps105
      go_wp2_with fail
      go_ret
      exact ⟨rfl, rfl⟩
    rw [HS.out]
    exact main _ rfl
theorem FlowR.parts {w : World} {M : Bl} {k mb : Nat} {F : FS} (h : FlowR w M k mb F) : ∃ A c, F.l.length ≤ c ∧ FC w k F (.slice A F.l.length c) mb ∧ RecsM evR w M (.slice A F.l.length c) F.l ∧ k < w.heap.size := by
  obtain ⟨v, h1, h2⟩ := h.row
  obtain ⟨A, c, rfl, hc⟩ := h2.shape
  exact ⟨A, c, hc, FC.of h1, h2, h.lt.1⟩
theorem statusO_any (k mb : Nat) (F : FS) (M : Bl) (w : World) (h : FlowR w M k mb F) (hl : F.l.length ≤ 1000000) : Calls Tryz.prog 65 #[.pointer (some ⟨k, 0, none⟩)] w (RetE (.int .i64 (statusL F.l)) w) := by
  obtain ⟨A, c, hc, hf, hr, hk⟩ := h.parts
  obtain ⟨c0, c1, c2, c3, c4, c5, c6, c7, c8, c9, c10, c11⟩ := hf
  have HS := hid (fun W (y : Gr w W) => status_ev _ F.l M W (hr.up (Gr.up y M)) hl)
  clear h hr
  refine retE ?_
  go_enter Tryz.func65, Tryz.ntmps65
  go_wp2_with (go_at_call 105; (with_reducible refine (HS.out _ (Gr.refl _)).mono ?_); rintro en _ ⟨rfl, y1, rfl⟩)
  go_ret
  exact ⟨rfl, y1.gr⟩
theorem runO_any (k mb : Nat) (F : FS) (M : Bl) (w : World) (h : FlowR w M k mb F) : Calls Tryz.prog 63 #[.pointer (some ⟨k, 0, none⟩)] w (RetE (.int .i64 F.run) w) := by
  obtain ⟨A, c, hc, hf, hr, hk⟩ := h.parts
  obtain ⟨c0, c1, c2, c3, c4, c5, c6, c7, c8, c9, c10, c11⟩ := hf
  clear h hr
  refine retE_same ?_
  go_enter Tryz.func63, Tryz.ntmps63
  go_wp2_with fail
  go_ret
  exact ⟨rfl, rfl⟩
theorem numberO_any (v : Int) (w : World) : Calls Tryz.prog 178 #[.int .i64 v] w (RetE (.bool (numB v)) w) := by
  refine retE_same ?_
  unfold numB
  by_cases h1 : 0 ≤ v <;> by_cases h2 : v ≤ 1048576
  all_goals
    simp only [h1, h2, decide_true, decide_false, Bool.and_true, Bool.and_false]
    go_enter Tryz.func178, Tryz.ntmps178
    go_wp2_with fail
    go_ret
    exact ⟨rfl, rfl⟩
theorem ticksO_any (v : Int) (w : World) : Calls Tryz.prog 179 #[.int .i64 v] w (RetE (.bool (ticksB v)) w) := by
  refine retE_same ?_
  unfold ticksB
  by_cases h1 : 1 ≤ v <;> by_cases h2 : v ≤ 1048576
  all_goals
    simp only [h1, h2, decide_true, decide_false, Bool.and_true, Bool.and_false]
    go_enter Tryz.func179, Tryz.ntmps179
    go_wp2_with fail
    go_ret
    exact ⟨rfl, rfl⟩
end Go.Proofs.YtniknicnnaiilaaGreat
end
section
namespace Go.Proofs.YtniknicnnaiilaaGreat
set_option maxRecDepth 100000
open Go.RowKit Go.Ext Go.BigFrame Go.Maps Go.MapKept
attribute [local go_sem] Ext.cell Ext.frozen Ext.lt Ext.le s1 s2 s3 s4 s5 s6 t1 t2 t3 t4 t5 t6
attribute [local go_sem ↓] Go.wp_at_zero Go.wp_at_succ
def mixI (x : Int) : Int :=
  let a := IntKind.u64.wrap (bits BinOp.xor IntKind.u64 x (x / 1073741824) * 13787848793156543929)
  let b := IntKind.u64.wrap (bits BinOp.xor IntKind.u64 a (a / 134217728) * 10723151780598845931)
  bits BinOp.xor IntKind.u64 b (b / 2147483648)
def hashI (id : Int) : Int := mixI (IntKind.u64.wrap id)
theorem hash_any (id : Int) (w : World) : Calls Tryz.prog 71 #[.int .i64 id] w (RetE (.int .u64 (hashI id)) w) := by
  refine retE ?_
  go_enter Tryz.func71, Tryz.ntmps71
  go_wp2_with fail
  go_ret
  exact ⟨rfl, Gr.refl w⟩
theorem mix2_any (x : Int) (w : World) : Calls Tryz.prog 72 #[.int .u64 x] w (RetE (.int .u64 (mixI x)) w) := by
  refine retE ?_
  go_enter Tryz.func72, Tryz.ntmps72
  go_wp2_with fail
  go_ret
  exact ⟨rfl, Gr.refl w⟩
theorem hash2_any (id : Int) (w : World) : Calls Tryz.prog 38 #[.int .i64 id] w (RetE (.int .u64 (hashI id)) w) := by
  refine retE ?_
  have H := hid (fun w => mix2_any (IntKind.u64.wrap id) w)
  go_enter Tryz.func38, Tryz.ntmps38
  go_wp2_with (go_at_call 72; refine (H.out _).mono ?_; rintro en _ ⟨rfl, y1, rfl⟩)
  go_ret
  exact ⟨rfl, y1.gr⟩
theorem wrapU_nn (n : Int) : 0 ≤ IntKind.u64.wrap n ∧ IntKind.u64.wrap n < 18446744073709551616 := by
  simp only [IntKind.wrap, IntKind.signed, Bool.false_and]
  exact ⟨Int.emod_nonneg _ (by decide), Int.emod_lt_of_pos _ (by decide)⟩
theorem bits_nn (x y : Int) : 0 ≤ bits BinOp.xor IntKind.u64 x y := by
  unfold bits
  exact (wrapU_nn _).1
def shardN (g id : Int) : Int := wrap64 ((hashI id).tmod g)
theorem hashI_nn (id : Int) : 0 ≤ hashI id := bits_nn _ _
theorem shardN_eq {g : Int} (id : Int) (h : 1 ≤ g ∧ g ≤ 8) : shardN g id = (hashI id).tmod g ∧ 0 ≤ shardN g id ∧ shardN g id < g := by
  have h1 := hashI_nn id
  have h2 : 0 ≤ (hashI id).tmod g := Int.tmod_nonneg _ h1
  have h3 : (hashI id).tmod g < g := Int.tmod_lt_of_pos _ (by omega)
  have h4 : shardN g id = (hashI id).tmod g := by
    unfold shardN
    exact IntWalk.wrap64_in _ (by omega)
  exact ⟨h4, by rw [h4]; exact h2, by rw [h4]; exact h3⟩
theorem shard_any (id g : Int) (w : World) (h : 1 ≤ g ∧ g ≤ 8) : Calls Tryz.prog 37 #[.int .i64 id, .int .i64 g] w (RetE (.int .i64 (shardN g id)) w) := by
  refine retE ?_
  have H := hid (fun w => hash_any id w)
  unfold shardN
  generalize hashI id = x at *
  go_enter Tryz.func37, Tryz.ntmps37
  go_wp2_with (go_at_call 71; refine (H.out _).mono ?_; rintro en _ ⟨rfl, y1, rfl⟩)
  go_ret
  exact ⟨rfl, y1.gr⟩
theorem shard2_any (id g : Int) (w : World) (h : 1 ≤ g ∧ g ≤ 8) : Calls Tryz.prog 19 #[.int .i64 id, .int .i64 g] w (RetE (.int .i64 (shardN g id)) w) := by
  refine retE ?_
  have H := hid (fun w => hash2_any id w)
  unfold shardN
  generalize hashI id = x at *
  go_enter Tryz.func19, Tryz.ntmps19
  go_wp2_with (go_at_call 38; refine (H.out _).mono ?_; rintro en _ ⟨rfl, y1, rfl⟩)
  go_ret
  exact ⟨rfl, y1.gr⟩
end Go.Proofs.YtniknicnnaiilaaGreat
end
