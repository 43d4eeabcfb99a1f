/- Lemmas: what the functions of the engine answer, and which blocks they write. -/
import Derived.Deep.AppendLies
import Derived.Test.YtniknicnnaiilaaGreatX08
import Derived.Test.YtniknicnnaiilaaGreatX10
import Derived.Test.YtniknicnnaiilaaGreatX20
section
namespace Go.Proofs.YtniknicnnaiilaaGreat
set_option maxRecDepth 100000
open Go.RowKit Go.Ext Go.BigFrame Go.Maps Go.MapKept
attribute [local go_sem] Ext.cell Ext.frozen Ext.lt Ext.le s1 s2 s3 s4 s5 s6 t1 t2 t3 t4 t5 t6
attribute [local go_sem ↓] Go.wp_at_zero Go.wp_at_succ
theorem bad_cons {F : FS} {d : Dec} {r : List Dec} {now : Int} (h : FI F) (hb : badL F.id F.asked (isOf F.op) (d :: r) = false) :
    mayF d = true ∧ takeB (isOf F.op) d = true ∧ (5 ≤ d.kind → r = []) ∧ badL (doneF F d now).1.id (doneF F d now).1.asked (isOf (doneF F d now).1.op) r = false := by
  simp only [badL, badOne, Bool.or_eq_false_iff, Bool.and_eq_false_iff, Bool.not_eq_false', decide_eq_false_iff_not] at hb
  obtain ⟨⟨⟨⟨⟨hm, h5⟩, ht⟩, _⟩, _⟩, hb⟩ := hb
  have hr : 5 ≤ d.kind → r = [] := fun hk => by
    rcases h5 with h5 | h5
    · omega
    · simpa using h5
  refine ⟨hm, ht, hr, ?_⟩
  obtain ⟨e1, e2, e3, e4⟩ := doneF_l F d now
  by_cases hk : d.kind < 5
  · have hask : (doneF F d now).1.asked = F.asked := by
      have hh := (mayF_spec hm).1
      have hkk : d.kind = 1 ∨ d.kind = 2 ∨ d.kind = 3 ∨ d.kind = 4 := by omega
      rcases hkk with e | e | e | e <;> simp only [doneF, e] <;> rfl
    have his : isOf (doneF F d now).1.op = takeS (isOf F.op) d := funext fun p => done_is h hk ht (mayF_spec hm).1 p
    rw [his, hask, e3]
    exact hb
  · rw [hr (by omega)]
    rfl
def RetD (M : Bl) (k mb : Nat) (x : FS × List Out) (w : World) (e : Ending) (w' : World) : Prop :=
  FW w' M k mb x.1 ∧ Mod (fun b => b = k ∨ b = mb) w w' ∧ ((x.2 = [] ∧ e = .returned (.slice none 0 0)) ∨ ∃ o b off c dv, x.2 = [o] ∧ e = .returned (.slice (some ⟨b, off, none⟩) 1 c) ∧ BysM w' M dv o.data ∧ RdM w' M (some ⟨b, off, none⟩) (recC (outR o) dv))
theorem RetO.retD {M : Bl} {k mb : Nat} {F F' : FS} {o : Out} {w w' : World} {e : Ending} (h : FW w M k mb F) (hi : FI F') (hl : F'.l.length ≤ 100000) (hr : RetO M k mb (F', [o]) w e w') : RetD M k mb (F', [o]) w e w' := by
  obtain ⟨A, c, rfl, h1, h2, h3⟩ := hr
  refine ⟨h.same h1 h3 hi hl, h3, .inr ?_⟩
  obtain ⟨A', c', ds, e, hc, hd, hrd, hn⟩ := h2
  injection e with e1 e2 e3
  subst e1 e3
  rcases ds with _ | ⟨dv, ds⟩
  · exact hd.elim
  obtain ⟨hb, hds⟩ := hd
  obtain ⟨b, off, rfl, hM, hcell⟩ := hrd (by simp [rowC, recC])
  refine ⟨o, b, off, c, dv, rfl, rfl, hb, fun _ => ⟨b, off, rfl, hM, fun j u hu => hcell j u ?_⟩⟩
  have hlt := (List.getElem?_eq_some_iff.1 hu).1
  simp only [List.map_cons, rowC]
  rw [List.getElem?_append_left hlt]
  exact hu
theorem done_all (PUT : PutAny) (k mb : Nat) (F : FS) (d : Dec) (now : Int) (v : Value) (M : Bl) (w : World) (h : FW w M k mb F) (hlF : F.l.length ≤ 90000) (hne : F.l ≠ []) (hm : mayF d = true) (ht : takeB (isOf F.op) d = true) (hd : Bys w v d.data) (hnow : 0 ≤ now ∧ now ≤ 1099511627776) :
    Calls Tryz.prog 151 #[.pointer (some ⟨k, 0, none⟩), .agg #[.int .i64 d.kind, .int .i64 d.id, .int .i64 d.list, .int .i64 d.n, v], .int .i64 now] w (RetD M k mb (doneF F d now) w) := by
  obtain ⟨h1, h8, _⟩ := mayF_spec hm
  have hi := h.i.done hne hm ht (now := now)
  have hl : (doneF F d now).1.l.length ≤ 100000 := by rw [(doneF_l F d now).1]; omega
  have hc : d.kind = 1 ∨ d.kind = 2 ∨ d.kind = 3 ∨ d.kind = 4 ∨ d.kind = 5 ∨ d.kind = 6 ∨ d.kind = 7 ∨ d.kind = 8 := by omega
  have one : ∀ o, (doneF F d now).2 = [o] → Calls Tryz.prog 151 #[.pointer (some ⟨k, 0, none⟩), .agg #[.int .i64 d.kind, .int .i64 d.id, .int .i64 d.list, .int .i64 d.n, v], .int .i64 now] w (RetO M k mb (doneF F d now) w) →
      Calls Tryz.prog 151 #[.pointer (some ⟨k, 0, none⟩), .agg #[.int .i64 d.kind, .int .i64 d.id, .int .i64 d.list, .int .i64 d.n, v], .int .i64 now] w (RetD M k mb (doneF F d now) w) := fun o ho hcall => by
    obtain ⟨x, hx⟩ : ∃ x, doneF F d now = x := ⟨_, rfl⟩
    rw [hx] at hi hl ho hcall ⊢
    rcases x with ⟨F', os⟩
    simp only at hi hl ho
    subst ho
    exact hcall.mono fun _ _ hr => RetO.retD h hi hl hr
  rcases hc with hk | hk | hk | hk | hk | hk | hk | hk
  · exact one _ (by unfold doneF; rw [if_pos hk]) (done_1 PUT k mb F d now v M w h hlF hne hm ht hk hd hnow)
  · exact one _ (by unfold doneF; rw [if_neg (by omega), if_pos hk]) (done_2 PUT k mb F d now v M w h hlF hne hm ht hk hd hnow)
  · exact (done_3 PUT k mb F d now v M w h hlF hne hm hk hd).mono fun _ _ ⟨e1, e2, e3, e4⟩ => ⟨e2, e4, .inl ⟨e3, e1⟩⟩
  · exact one _ (by unfold doneF; rw [if_neg (by omega), if_neg (by omega), if_pos hk]) (done_4 PUT k mb F d now v M w h hlF hne hm ht hk hd hnow)
  · exact one ⟨7, 0, 0, 0, 0, 0, statusK 20, d.data⟩ (by unfold doneF; rw [if_neg (by omega), if_neg (by omega), if_neg (by omega), if_neg (by omega), hk]; rfl) (done_5 PUT k mb F d now v M w h hk hd)
  · exact one ⟨7, 0, 0, 0, 0, 0, statusK 21, d.data⟩ (by unfold doneF; rw [if_neg (by omega), if_neg (by omega), if_neg (by omega), if_neg (by omega), hk]; rfl) (done_6 PUT k mb F d now v M w h hk hd)
  · exact one ⟨7, 0, 0, 0, 0, 0, statusK 22, d.data⟩ (by unfold doneF; rw [if_neg (by omega), if_neg (by omega), if_neg (by omega), if_neg (by omega), hk]; rfl) (done_7 PUT k mb F d now v M w h hk hd)
  · exact one ⟨8, 0, 0, 0, 0, 0, 0, d.data⟩ (by unfold doneF; rw [if_neg (by omega), if_neg (by omega), if_neg (by omega), if_neg (by omega), hk]; rfl) (done_8 PUT k mb F d now v M w h hk hd)
def ownB (M : Bl) (v : Value) : Bl := fun b => M b ∨ v.ownBlock = some b
def OwnOuts (w : World) (M : Bl) (B0 : Nat) (v : Value) (xs : List Out) : Prop := ∃ ds, DatM w (ownB M v) (xs.map outR) ds ∧ w.ownsRow B0 188 8 v xs.length (rowC (xs.map outR) ds)
theorem up_less' {M M' : Bl} (w : World) (h : ∀ b, M b → M' b) : Up M' w M w := ⟨(Gr.refl w).mod _, fun b _ e => h b e⟩
theorem OwnOuts.nil (w : World) (M : Bl) (B0 : Nat) : OwnOuts w M B0 (.slice none 0 0) [] := ⟨[], trivial, World.ownsRow_nil _ _ _ _⟩
theorem OwnOuts.shape {w : World} {M : Bl} {B0 : Nat} {v : Value} {xs : List Out} (h : OwnOuts w M B0 v xs) : ∃ A c, v = .slice A xs.length c ∧ xs.length ≤ c ∧ (A = none → c = 0) := by
  obtain ⟨ds, _, h⟩ := h
  exact own_shape h
theorem OwnOuts.recs {w : World} {M : Bl} {B0 : Nat} {v : Value} {xs : List Out} (h : OwnOuts w M B0 v xs) (hM : ∀ b, M b → b < B0) : RecsM outR w M v xs := by
  obtain ⟨ds, hd, ho⟩ := h
  have hd' := DatM.up (up_less' w (fun b e => .inl e)) hd
  rcases id ho.2 with ⟨rfl, h0⟩ | ⟨g, cap, cur, rfl, hb, hh, hc, _⟩
  · have : xs = [] := List.eq_nil_of_length_eq_zero h0
    subst this
    exact RecsM.none _ _ _
  · refine ⟨some ⟨g, 0, none⟩, cap, ds, rfl, hc, hd', Rd.m (Rd.of_own ho) ?_, fun e => by cases e⟩
    rintro b off e _ hb2
    injection e with e
    injection e with e1
    subst e1
    have := hM _ hb2
    omega
theorem OwnOuts.mod {w w' : World} {M S : Bl} {B0 : Nat} {v : Value} {xs : List Out} (h : OwnOuts w M B0 v xs) (m : Mod S w w') (hS : ∀ b, S b → M b) (hv : ∀ b, v.ownBlock = some b → ¬ S b) : OwnOuts w' M B0 v xs := by
  obtain ⟨ds, hd, ho⟩ := h
  exact ⟨ds, DatM.up (Mod.up m (fun b _ e => .inl (hS b e))) hd, own_mod ho m hv⟩
theorem OwnOuts.app {w w' : World} {M : Bl} {B0 : Nat} {v v' : Value} {xs : List Out} {o : Out} {dv : Value} {ds : List Value} (hd : DatM w (ownB M v) (xs.map outR) ds) (hb : BysM w (ownB M v) dv o.data) (ho : w'.ownsRow B0 188 8 v' (xs.length + 1) (rowC (xs.map outR) ds ++ recC (outR o) dv))
    (u : Up (ownB M v) w (ownB M v') w') : OwnOuts w' M B0 v' (xs ++ [o]) := by
  refine ⟨ds ++ [dv], ?_, ?_⟩
  · rw [List.map_append]
    exact DatM.app (hd.up u) ⟨hb.up u, trivial⟩
  · rw [List.map_append, rowC_app _ _ _ _ hd.len, List.length_append]
    simpa [rowC] using ho
theorem ownB_up {w w' : World} {M : Bl} {v v' : Value} (m : Mod (fun b => some b = v.ownBlock) w w') (ho : v'.ownBlock = v.ownBlock ∨ ∃ b, v'.ownBlock = some b ∧ w.heap.size ≤ b) : Up (ownB M v) w (ownB M v') w' :=
  ⟨m.mono fun b _ e => .inr e.symm, fun b hb e => by
    rcases e with e | e
    · exact .inl e
    · rcases ho with ho | ⟨c, ho, hc⟩
      · exact .inr (ho ▸ e)
      · rw [ho] at e; injection e with e; omega⟩
def decideT (l : List Dec) (now : Int) (F : FS) : FR :=
  if F.late = true ∧ endsL l = true then ((faultyF F 2 now).1, (faultyF F 2 now).2, 23) else
  if F.late = true ∧ statusL (donesF now (putF F ⟨4, now, F.begun, 0, 0, 0, []⟩, []) l).1.l = 1 then
    ok ((scheduleF (donesF now (putF F ⟨4, now, F.begun, 0, 0, 0, []⟩, []) l).1 now).1, (donesF now (putF F ⟨4, now, F.begun, 0, 0, 0, []⟩, []) l).2 ++ (scheduleF (donesF now (putF F ⟨4, now, F.begun, 0, 0, 0, []⟩, []) l).1 now).2)
  else ok (donesF now (putF F ⟨4, now, F.begun, 0, 0, 0, []⟩, []) l)
theorem endsL_of {l : List Dec} {d : Dec} (h : l.getLast? = some d) : endsL l = decide (5 ≤ d.kind) := by unfold endsL; rw [h]
theorem append_none127 (A : Option Addr) (n c : Nat) (ty : TypeId) (W : World) (h : n ≤ c) : (Builtin.append_ #[127, 127] ty #[.slice A n c, .slice none 0 0]).run Tryz.prog W = .ok (.slice A n c) W := by
  have u := Tryz.underlying127
  cases A <;> go_simp
theorem FW.swap {w : World} {M M' : Bl} {k mb : Nat} {F : FS} (h : FW w M k mb F) (hM : ∀ b, b < w.heap.size → M' b → M b) (hk : M' k) (hmb : M' mb) (hlt : ∀ b, M' b → b < w.heap.size) : FW w M' k mb F :=
  ⟨h.r.up ⟨(Gr.refl w).mod M, hM⟩ rfl rfl, hk, hmb, h.ne, hlt, h.l, h.i⟩
structure DL (w w' : World) (M : Bl) (k mb B4 : Nat) (now : Int) (l : List Dec) (X0 : FS × List Out) (i : Nat) (v : Value) (x : FS × List Out) : Prop where
  fold : donesF now x (l.drop i) = X0
  fw : FW w' (ownB M v) k mb x.1
  outs : OwnOuts w' M w.heap.size v x.2
  mod : Mod (fun b => b = k ∨ b = mb) w w'
  bad : badL x.1.id x.1.asked (isOf x.1.op) (l.drop i) = false
  ne : x.1.l ≠ []
  len : x.1.l.length ≤ 5000 + i
  n : x.2.length ≤ i
  box : w'.heap[B4]? = some (.cells #[.int .i64 now] 3 (0, 0))
section
variable {w w' w2 w3 : World} {M : Bl} {k mb B4 : Nat} {now : Int} {l : List Dec} {X0 : FS × List Out} {i : Nat} {v v' : Value} {x : FS × List Out}
theorem DL.own (h : DL w w' M k mb B4 now l X0 i v x) : ∀ b, v.ownBlock = some b → w.heap.size ≤ b ∧ b < w'.heap.size := fun b e => by
  obtain ⟨ds, _, ho⟩ := h.outs
  exact ho.lt b e
theorem DL.none {d : Dec} (h : DL w w' M k mb B4 now l X0 i v x) (hM : ∀ b, M b → b < w.heap.size) (hk : M k) (hmb : M mb) (hd : l.drop i = d :: l.drop (i + 1)) (ho : (doneF x.1 d now).2 = [])
    (hfw : FW w2 (ownB M v) k mb (doneF x.1 d now).1) (hm : Mod (fun b => b = k ∨ b = mb) w' w2) (hi : FI x.1) : DL w w2 M k mb B4 now l X0 (i + 1) v ((doneF x.1 d now).1, x.2) := by
  have hb := h.bad
  have hf := h.fold
  rw [hd] at hb hf
  obtain ⟨h1, h2, h3, h4⟩ := bad_cons (now := now) hi hb
  have e1 := (doneF_l x.1 d now).1
  refine ⟨?_, hfw, h.outs.mod hm (fun b e => by rcases e with rfl | rfl <;> assumption) (fun b e e2 => ?_), h.mod.trans hm (fun _ _ e => e), h4, (doneF_l x.1 d now).2.1, ?_, by have := h.n; dsimp only; omega, box_keep h.fw.r h.box (by decide) hm⟩
  · simpa only [donesF, ho, List.append_nil] using hf
  · have := (h.own b e).1
    have := hM k hk
    have := hM mb hmb
    rcases e2 with rfl | rfl <;> omega
  · dsimp only; rw [e1]; have := h.len; omega
theorem DL.one {d : Dec} {o : Out} {dv : Value} {ds : List Value} (h : DL w w' M k mb B4 now l X0 i v x) (hM : ∀ b, M b → b < w.heap.size) (hk : M k) (hmb : M mb) (hd : l.drop i = d :: l.drop (i + 1)) (ho : (doneF x.1 d now).2 = [o])
    (hfw : FW w2 (ownB M v) k mb (doneF x.1 d now).1) (hm : Mod (fun b => b = k ∨ b = mb) w' w2) (hi : FI x.1) (hds : DatM w2 (ownB M v) (x.2.map outR) ds) (hdv : BysM w2 (ownB M v) dv o.data)
    (hown : w3.ownsRow w.heap.size 188 8 v' (x.2.length + 1) (rowC (x.2.map outR) ds ++ recC (outR o) dv)) (hg : Mod (fun b => some b = v.ownBlock) w2 w3) (hv : v'.ownBlock = v.ownBlock ∨ ∃ b, v'.ownBlock = some b ∧ w2.heap.size ≤ b) :
    DL w w3 M k mb B4 now l X0 (i + 1) v' ((doneF x.1 d now).1, x.2 ++ [o]) := by
  have hb := h.bad
  have hf := h.fold
  rw [hd] at hb hf
  obtain ⟨h1, h2, h3, h4⟩ := bad_cons (now := now) hi hb
  have e1 := (doneF_l x.1 d now).1
  have u := ownB_up (M := M) hg hv
  have hkk := hM k hk
  have hmm := hM mb hmb
  have nk : ¬ some k = v.ownBlock := fun e => by have := (h.own k e.symm).1; omega
  have nmb : ¬ some mb = v.ownBlock := fun e => by have := (h.own mb e.symm).1; omega
  have n4 : ¬ some B4 = v.ownBlock := fun e => by
    obtain ⟨ds', _, ho'⟩ := h.outs
    rcases ho'.2 with ⟨e', _⟩ | ⟨g, cap, cur, e', _, hh, _⟩
    · rw [e'] at e; cases e
    · rw [e'] at e
      injection e with e
      subst e
      rw [h.box] at hh
      injection hh with hh
      injection hh with _ hh _
      cases hh
  have hs2 := hm.size
  have hbox2 := box_keep h.fw.r h.box (by decide) hm
  refine ⟨?_, ⟨hfw.r.up u (hg.block k hfw.r.lt.1 nk) (hg.block mb hfw.r.lt.2 nmb), .inl hk, .inl hmb, hfw.ne, fun b e => ?_, hfw.l, hfw.i⟩, OwnOuts.app hds hdv hown u, (h.mod.trans hm (fun _ _ e => e)).trans hg (fun b hb e => ?_), h4, (doneF_l x.1 d now).2.1, ?_, by have := h.n; simp only [List.length_append, List.length_cons, List.length_nil]; omega, (hg.block B4 (block_lt hbox2) n4).trans hbox2⟩
  · simpa only [donesF, ho] using hf
  · rcases e with e | e
    · have := hM b e; have := h.mod.size; have := hg.size; omega
    · exact (hown.lt b e).2
  · have := (h.own b e.symm).1; omega
  · dsimp only; rw [e1]; have := h.len; omega
end
theorem rec_one {w : World} {M : Bl} (o : Out) {dv : Value} (h : BysM w M dv o.data) : ∀ u ∈ recC (outR o) dv, u.oneCell' = true := fun u hu => by
  simp only [recC, List.mem_append, List.mem_map, List.mem_singleton] at hu
  rcases hu with ⟨n, _, rfl⟩ | rfl
  · rfl
  · obtain ⟨_, _, rfl⟩ := h.shape; rfl
set_option maxHeartbeats 8000000 in
theorem cl_decide (PUT : PutAny) (k mb B1 B2 B3 B4 : Nat) (F : FS) (ref turn now : Int) (l : List Dec) (vl : Value) (M : Bl) (w : World) (h : FW w M k mb F) (hF : FOk F) (h1 : w.heap[B1]? = some (.cells #[.int .i64 ref] 3 (0, 0))) (h2 : w.heap[B2]? = some (.cells #[.int .i64 turn] 3 (0, 0)))
    (h3 : w.heap[B3]? = some (.cells #[vl] 33 (0, 0))) (h4 : w.heap[B4]? = some (.cells #[.int .i64 now] 3 (0, 0))) (hl : RecsM decR w M vl l) (hnow : 0 ≤ now ∧ now ≤ 1099511627776) :
    Calls Tryz.prog 148 #[.pointer (some ⟨k, 0, none⟩), .pointer (some ⟨B1, 0, none⟩), .pointer (some ⟨B2, 0, none⟩), .pointer (some ⟨B3, 0, none⟩), .pointer (some ⟨B4, 0, none⟩)] w (RetA M k mb (decideD ref turn l now F) w) := by
  have q1 := box_c h1
  have q2 := box_c h2
  have q3 := box_c h3
  have q4 := box_c h4
  have l1 := block_lt h1
  have l2 := block_lt h2
  have l3 := block_lt h3
  have l4 := block_lt h4
  have H3 := hid h3
  have H4 := hid h4
  have H := hid h
  have HL := hid hl
  obtain ⟨Al, cl_, rfl, hlc⟩ := hl.shape
  obtain ⟨A, c, hc, ⟨c0, c1, c2, c3, c4, c5, c6, c7, c8, c9, c10, c11⟩, hr, hk⟩ := h.r.parts
  have HBAD := hid (fun (W : World) (g : Gr w W) => bad_any k mb F M M l _ W (h.r.gr g) h.i h.l (hl.up (Gr.up g M)))
  have HFA := hid (fun (n : Int) (hn : 0 ≤ n ∧ n ≤ 1048576) (W : World) (g : Gr w W) => faulty_any PUT k mb F n now M W (h.gr g) hF hn)
  clear h h1 h2 h3 h4 hl hr hc
  unfold decideD
  have stale : ∀ W, Gr w W → RetA M k mb (F, [], 21) w (.returned (.tuple #[.slice none 0 0, .int .i64 21])) W := fun W g => ⟨none, 0, rfl, H.out.r.gr g, RecsM.none _ _ _, g.mod _⟩
  have ST := hid stale
  clear stale
  by_cases e1 : F.task = 2
  rotate_left
  · rw [if_pos (.inl e1)]
    have e1b : (F.task != 2) = true := by simpa using e1
    go_enter Tryz.func148, Tryz.ntmps148
    go_wp2_with fail
    refine wp_region_ext (by kernel_rfl) (by kernel_rfl) ?_
    repeat (go_big_quiet_step (fail))
    refine wpQuiet_nil ?_
    rintro _ ⟨x, rfl⟩
    go_wp2_with fail
    go_ret2
    exact ST.out _ x.gr
  by_cases e2 : F.place = ref
  rotate_left
  · rw [if_pos (.inr (.inl e2))]
    have e2b : (F.place != ref) = true := by simpa using e2
    rw [e1] at c5
    go_enter Tryz.func148, Tryz.ntmps148
    go_wp2_with fail
    refine wp_region_ext (by kernel_rfl) (by kernel_rfl) ?_
    repeat (go_big_quiet_step (fail))
    refine wpQuiet_nil ?_
    rintro _ ⟨x, rfl⟩
    go_wp2_with fail
    go_ret2
    exact ST.out _ x.gr
  by_cases e3 : F.turn = turn
  rotate_left
  · rw [if_pos (.inr (.inr e3))]
    have e3b : (F.turn != turn) = true := by simpa using e3
    rw [e1] at c5
    rw [e2] at c6
    go_enter Tryz.func148, Tryz.ntmps148
    go_wp2_with fail
    refine wp_region_ext (by kernel_rfl) (by kernel_rfl) ?_
    repeat (go_big_quiet_step (fail))
    refine wpQuiet_nil ?_
    rintro _ ⟨x, rfl⟩
    go_wp2_with fail
    go_ret2
    exact ST.out _ x.gr
  rw [if_neg (by rintro (e | e | e); exact e e1; exact e e2; exact e e3)]
  rw [e1] at c5
  rw [e2] at c6
  rw [e3] at c8
  clear e1 e2 e3
  cases hbad : badF F l
  rotate_left
  · rw [if_pos rfl]
    rw [hbad] at HBAD
    clear hbad
    go_enter Tryz.func148, Tryz.ntmps148
    go_wp2_with fail
    refine wp_region_ext (by kernel_rfl) (by kernel_rfl) ?_
    repeat (go_big_quiet_step (fail))
    refine wpQuiet_nil ?_
    rintro _ ⟨x, rfl⟩
    go_wp2_with (first
      | (go_at_call 149; (with_reducible refine (HBAD.out _ x.gr).mono ?_); rintro en _ ⟨rfl, y1, rfl⟩; have d4 : y1.val.cell? ⟨B4, 0, none⟩ = some (.int .i64 now) := ((x.gr.ext y1).cell (p := ⟨B4, 0, none⟩) l4).trans q4; have d5 := Nat.lt_of_lt_of_le l4 (x.gr.ext y1).size)
      | (go_at_call 150; refine (HFA.out 1 (by omega) _ (x.gr.ext y1)).mono ?_; rintro en w3 ⟨A3, c3_, rfl, hr3, ho3, hm3⟩; have HM3 := hid (((x.gr.ext y1).mod (fun b => b = k ∨ b = mb)).trans hm3 (fun _ _ e => e))))
    go_ret2
    exact ⟨A3, c3_, rfl, hr3, ho3, HM3.out⟩
  rw [if_neg (by simp)]
  rw [hbad] at HBAD
  refine (fun (hgoal : Calls Tryz.prog 148 #[.pointer (some ⟨k, 0, none⟩), .pointer (some ⟨B1, 0, none⟩), .pointer (some ⟨B2, 0, none⟩), .pointer (some ⟨B3, 0, none⟩), .pointer (some ⟨B4, 0, none⟩)] w (RetA M k mb (decideT l now F) w)) => hgoal) ?_
  obtain ⟨X, hX⟩ : ∃ X, decideT l now F = X := ⟨_, rfl⟩
  rw [hX]
  have HX := hid hX
  clear hX
  have hbd : badL F.id F.asked (isOf F.op) l = false ∧ l.length ≤ 32 := by
    unfold badF at hbad
    simp only [Bool.or_eq_false_iff, decide_eq_false_iff_not] at hbad
    exact ⟨hbad.2, by omega⟩
  obtain ⟨hbl, hl32⟩ := hbd
  have HBL := hid hbl
  clear hbad hbl
  go_enter Tryz.func148, Tryz.ntmps148
  go_wp2_with fail
  refine wp_region_ext (by kernel_rfl) (by kernel_rfl) ?_
  repeat (go_big_quiet_step (fail))
  refine wpQuiet_nil ?_
  rintro _ ⟨x, rfl⟩
  go_upto_region 5 with (go_at_call 149; (with_reducible refine (HBAD.out _ x.gr).mono ?_); rintro en _ ⟨rfl, y1, rfl⟩)
  have G1 := hid (x.gr.ext y1)
  obtain ⟨w1, hw1⟩ : ∃ w1, y1.val = w1 := ⟨_, rfl⟩
  rw [hw1] at G1 ⊢
  clear hw1
  have d3 : w1.cell? ⟨B3, 0, none⟩ = some (.slice Al l.length cl_) := (G1.out.cell (p := ⟨B3, 0, none⟩) l3).trans q3
  have d4 : w1.cell? ⟨B4, 0, none⟩ = some (.int .i64 now) := (G1.out.cell (p := ⟨B4, 0, none⟩) l4).trans q4
  have d9 : w1.cell? ⟨k, 9, none⟩ = some (.bool F.late) := (G1.out.cell (p := ⟨k, 9, none⟩) hk).trans c9
  have d7 : w1.cell? ⟨k, 7, none⟩ = some (.int .i64 F.begun) := (G1.out.cell (p := ⟨k, 7, none⟩) hk).trans c7
  have m3 := Nat.lt_of_lt_of_le l3 G1.out.size
  have m4 := Nat.lt_of_lt_of_le l4 G1.out.size
  have mk := Nat.lt_of_lt_of_le hk G1.out.size
  go_cut [41] from 42 (fun v wx => v = .bool (F.late && endsL l) ∧ Gr w wx)
  case first =>
    cases hlate : F.late
    · rw [hlate] at d9
      have HLT := hid hlate
      clear hlate
      go_wp2_with fail
      go_meet
      exact ⟨by rw [HLT.out]; rfl, G1.out⟩
    · rw [hlate] at d9
      have HLT := hid hlate
      clear hlate
      rcases hll : l.getLast? with _ | dl
      · have : l = [] := List.getLast?_eq_none_iff.1 hll
        subst this
        have hz : ¬ (0 : Int) < ((0 : Nat) : Int) := by omega
        simp only [List.length_nil] at d3
        clear hll
        go_wp2_with fail
        go_meet
        exact ⟨by rw [HLT.out]; rfl, G1.out⟩
      · have hlen : 0 < l.length := by
          rcases l with _ | ⟨x, r⟩
          · simp at hll
          · simp
        have hget : l[l.length - 1]? = some dl := by rw [← List.getLast?_eq_getElem?]; exact hll
        obtain ⟨b, off, Ad', cd', rfl, hb, _, _, g0, _, _, _, _⟩ := dec_at (HL.out.up (Gr.up G1.out M)) hget
        have HE := hid (endsL_of hll)
        clear hll hget
        generalize l.length = n at *
        have hz : (0 : Int) < (n : Int) := by omega
        have k0 : (0 : Int) ≤ (n : Int) - 1 := by omega
        have k1 : (n : Int) - 1 < (n : Int) := by omega
        have kw : IntKind.i64.wrap ((n : Int) - 1) = (n : Int) - 1 := IntWalk.i64_in _ (by omega)
        have kt : ((n : Int) - 1).toNat = n - 1 := by omega
        go_wp2_with fail
        go_meet
        exact ⟨by rw [HE.out, HLT.out]; simp, G1.out⟩
  case rest =>
    obtain ⟨rfl, hgc⟩ := hcut
    have GC := hid hgc
    clear hgc
    have d3 : wc.cell? ⟨B3, 0, none⟩ = some (.slice Al l.length cl_) := (GC.out.cell (p := ⟨B3, 0, none⟩) l3).trans q3
    have d4 : wc.cell? ⟨B4, 0, none⟩ = some (.int .i64 now) := (GC.out.cell (p := ⟨B4, 0, none⟩) l4).trans q4
    have d9 : wc.cell? ⟨k, 9, none⟩ = some (.bool F.late) := (GC.out.cell (p := ⟨k, 9, none⟩) hk).trans c9
    have d7 : wc.cell? ⟨k, 7, none⟩ = some (.int .i64 F.begun) := (GC.out.cell (p := ⟨k, 7, none⟩) hk).trans c7
    have m3 := Nat.lt_of_lt_of_le l3 GC.out.size
    have m4 := Nat.lt_of_lt_of_le l4 GC.out.size
    have mk := Nat.lt_of_lt_of_le hk GC.out.size
    cases hle : (F.late && endsL l)
    rotate_left
    · have HX1 := hid (show X = ((faultyF F 2 now).1, (faultyF F 2 now).2, 23) by
        rw [← HX.out]
        unfold decideT
        rw [if_pos (by simpa using hle)])
      go_wp2_with (go_at_call 150; refine (HFA.out 2 (by omega) _ GC.out).mono ?_; rintro en w3 ⟨A3, c3_, rfl, hr3, ho3, hm3⟩; have HM3 := hid ((GC.out.mod (fun b => b = k ∨ b = mb)).trans hm3 (fun _ _ e => e)))
      go_ret2
      rw [HX1.out]
      exact ⟨A3, c3_, rfl, hr3, ho3, HM3.out⟩
    have HX1 := hid (show (if F.late = true ∧ statusL (donesF now (putF F ⟨4, now, F.begun, 0, 0, 0, []⟩, []) l).1.l = 1 then
        ok ((scheduleF (donesF now (putF F ⟨4, now, F.begun, 0, 0, 0, []⟩, []) l).1 now).1, (donesF now (putF F ⟨4, now, F.begun, 0, 0, 0, []⟩, []) l).2 ++ (scheduleF (donesF now (putF F ⟨4, now, F.begun, 0, 0, 0, []⟩, []) l).1 now).2)
        else ok (donesF now (putF F ⟨4, now, F.begun, 0, 0, 0, []⟩, []) l)) = X by
      rw [← HX.out]
      unfold decideT
      exact (if_neg (by intro e; rw [e.1, e.2] at hle; cases hle)).symm)
    clear hle HX
    have HPO := hid (okP hF (e := ⟨4, now, F.begun, 0, 0, 0, []⟩) (by unfold plainK; dsimp only; omega) (by dsimp only; omega) (by simp))
    have HP := hid (fun (W : World) (g : Gr w W) => (show Calls Tryz.prog 143 #[.pointer (some ⟨k, 0, none⟩), .agg #[.int .i64 4, .int .i64 now, .int .i64 F.begun, .int .i64 0, .int .i64 0, .int .i64 0, .slice none 0 0]] W _ from
      fput PUT ⟨4, now, F.begun, 0, 0, 0, []⟩ (.slice none 0 0) (H.out.gr g) (BysM.none W M).bys HPO.out hF.l9 (by dsimp only; omega) (by dsimp only; omega)))
    go_upto_region 8 with fail
    refine wp_region_planM [(0, false), (1, false), (2, false), (3, false), (4, false), (5, false), (6, false), (7, true)] (fun W => Gr wc W) (by kernel_rfl) (by kernel_rfl) (fun _ _ d _ _ h => by cases d <;> exact h) (Gr.refl wc).drew (fun _ => ?_)
    iterate 7 (refine pm_take (v := ?_) rfl (by rfl) ?_ ?_; rotate_left; (focus (intro W9 hW9; obtain ⟨x9, rfl⟩ : ∃ x : Ext wc, W9 = x.val := ⟨⟨W9, hW9⟩, rfl⟩; go_simp; (try with_reducible rfl); done)); (try simp only [AP]))
    refine pm_last rfl (by rfl) (fun K hK => ?_)
    go_simp
    go_at_call 143
    refine (HP.out _ GC.out.drew).mono ?_
    rintro en w5 ⟨rfl, hw5, hm5⟩
    have HW5 := hid hw5
    have HM5 := hid ((GC.out.drew.mod (fun b => b = k ∨ b = mb)).trans hm5 (fun _ _ e => e))
    have HB3 := hid (box_keep (H.out.gr GC.out.drew).r ((GC.out.drew.block B3 l3).trans H3.out) (by decide) hm5)
    have HB4 := hid (box_keep (H.out.gr GC.out.drew).r ((GC.out.drew.block B4 l4).trans H4.out) (by decide) hm5)
    clear hw5 hm5
    refine hK.out _ _ ?_
    clear hK K
    have p3 := box_c HB3.out
    have p4 := box_c HB4.out
    go_wp2_with fail
    have HFI4 := hid (H.out.i.put HPO.out)
    have HN4 := hid (putF_ne F ⟨4, now, F.begun, 0, 0, 0, []⟩)
    have HL4 := hid (show (putF F ⟨4, now, F.begun, 0, 0, 0, []⟩).l.length ≤ 5000 by rw [putF_len]; have := hF.len; omega)
    have HB5 := hid (show badL (putF F ⟨4, now, F.begun, 0, 0, 0, []⟩).id (putF F ⟨4, now, F.begun, 0, 0, 0, []⟩).asked (isOf (putF F ⟨4, now, F.begun, 0, 0, 0, []⟩).op) l = false from HBL.out)
    obtain ⟨F4, hF4⟩ : ∃ F4, putF F ⟨4, now, F.begun, 0, 0, 0, []⟩ = F4 := ⟨_, rfl⟩
    rw [hF4] at HX1 HW5 HFI4 HN4 HL4 HB5
    clear hF4 HP HPO HBL HFA HBAD ST
    obtain ⟨X0, hX0⟩ : ∃ X0, donesF now (F4, []) l = X0 := ⟨_, rfl⟩
    rw [hX0] at HX1
    have HX0 := hid hX0
    clear hX0
    have HMM := hid H.out.hM
    have HKK := hid H.out.hk
    have HMB := hid H.out.hmb
    go_loopw [9, 78] (fun ov iv wr => ∃ (i : Nat) (x : FS × List Out), iv = .int .i64 i ∧ i ≤ l.length ∧ FI x.1 ∧ DL w wr M k mb B4 now l X0 i ov x) (fun _ iv _ => l.length - (intOf iv).toNat)
    case atStart =>
      refine ⟨0, (F4, []), rfl, Nat.zero_le _, HFI4.out, ⟨by rw [List.drop_zero]; exact HX0.out, HW5.out.swap (fun b _ e => by rcases e with e | e; exact e; cases e) (.inl HKK.out) (.inl HMB.out) (fun b e => by rcases e with e | e; exact HW5.out.hM b e; cases e), OwnOuts.nil _ _ _, HM5.out, by rw [List.drop_zero]; exact HB5.out, HN4.out, by have := HL4.out; dsimp only; omega, Nat.zero_le _, HB4.out⟩⟩
    case round =>
      obtain ⟨i, x, rfl, hi, hfi, hdl⟩ := hrel
      have HDL := hid hdl
      have HFI := hid hfi
      obtain ⟨Ao, co, rfl, hco, hcn⟩ := hdl.outs.shape
      have b4 := box_c hdl.box
      have bl4 := block_lt hdl.box
      have hup := hid (show Up M w (ownB M (.slice Ao x.2.length co)) wr from ⟨hdl.mod.mono fun b _ e => (by rcases e with rfl | rfl; exact HKK.out; exact HMB.out), fun b hb e => by
        rcases e with e | e
        · exact e
        · have := (HDL.out.own b e).1; omega⟩)
      clear hdl hfi
      by_cases hlt : i < l.length
      · have hget : l[i]? = some l[i] := List.getElem?_eq_getElem hlt
        have hdrop : l.drop i = l[i] :: l.drop (i + 1) := List.drop_eq_getElem_cons hlt
        obtain ⟨d, hd⟩ : ∃ d, l[i] = d := ⟨_, rfl⟩
        rw [hd] at hget hdrop
        obtain ⟨b, off, Ad, cd, rfl, hb, hMb, hdat, g0, g1, g2, g3, g4⟩ := dec_at (HL.out.up hup.out) hget
        have hbb := HDL.out.bad
        rw [hdrop] at hbb
        obtain ⟨hmay, htk, _, _⟩ := bad_cons (now := now) HFI.out hbb
        have HFN := hid (HFI.out.done HDL.out.ne hmay htk (now := now))
        have HCALL := hid (fun (W : World) (g : Gr wr W) => done_all PUT k mb x.1 d now (.slice Ad d.data.length cd) _ W (HDL.out.fw.gr g) (by have := HDL.out.len; omega) HDL.out.ne hmay htk (hdat.bys.gr g) hnow)
        have HDROP := hid hdrop
        have hlz : (i : Int) < (l.length : Int) := by omega
        have hos : (doneF x.1 d now).2.length ≤ 1 := by
          unfold doneF closeF
          repeat' split
          all_goals simp
        obtain ⟨y, hy⟩ : ∃ y, doneF x.1 d now = y := ⟨_, rfl⟩
        rw [hy] at HCALL hos
        have HY := hid hy
        clear hdat hd hget hdrop hbb hmay htk hy
        rcases d with ⟨dk, di, dl_, dn, dd⟩
        simp only at g0 g1 g2 g3 g4 HCALL
        generalize dd.length = dlen at *
        rcases y with ⟨F1, os⟩
        rcases os with _ | ⟨o, _ | ⟨o2, r⟩⟩
        · go_wp2_with (first
            | (go_at_call 151
               go_loud ((refine (HCALL.out _ ((Gr.refl wr).alloc _)).mono ?_; intro en w6 hret; obtain ⟨hfw6, hm6, hcase⟩ := hret; rcases hcase with ⟨_, hen⟩ | ⟨_, _, _, _, _, e2, _⟩; rotate_left; (cases e2); subst hen; have HFW6 := hid hfw6; have HM6 := hid ((((Gr.refl wr).alloc _).mod (fun b => b = k ∨ b = mb)).trans hm6 (fun _ _ e => e)); clear hfw6 hm6)))
            | (at_builtin; refine wpList_append_at _ rfl _ _ 127 127 rfl (.slice Ao x.2.length co) (.slice none 0 0) rfl rfl (append_none127 _ _ _ _ _ hco) ?_))
          go_roundw
          case rel =>
            have hdn := DL.none (w2 := w6) HDL.out HMM.out HKK.out HMB.out HDROP.out (by rw [HY.out]) (by rw [HY.out]; exact HFW6.out) HM6.out HFI.out
            rw [HY.out] at hdn
            exact ⟨i + 1, _, by go_num, by omega, by have := HFN.out; rw [HY.out] at this; exact this, hdn⟩
          case measure => simp [intOf]; omega
        · have hxn : x.2.length ≤ 100 := by have := HDL.out.n; omega
          obtain ⟨i0, hi0, hz0, hz1, hz2⟩ := info_parts info188
          have HKL := hid (show ∀ b, (Value.slice Ao x.2.length co).ownBlock = some b → ¬ (b = k ∨ b = mb) from fun b e e2 => by
            have := (HDL.out.own b e).1
            have := HMM.out k HKK.out
            have := HMM.out mb HMB.out
            rcases e2 with rfl | rfl <;> omega)
          have HSM := hid (show ∀ b, (b = k ∨ b = mb) → M b from fun b e => by
            rcases e with rfl | rfl
            · exact HKK.out
            · exact HMB.out)
          go_wp2_with (first
            | (go_at_call 151
               go_loud ((refine (HCALL.out _ ((Gr.refl wr).alloc _)).mono ?_; intro en w6 hret; obtain ⟨hfw6, hm6, hcase⟩ := hret; rcases hcase with ⟨e2, _⟩ | ⟨o2, b2, off2, cc2, dv, e2, hen, hbys, hrd⟩; (cases e2); injection e2 with e2; subst e2; subst hen; have HFW6 := hid hfw6; have HM6 := hid ((((Gr.refl wr).alloc _).mod (fun b => b = k ∨ b = mb)).trans hm6 (fun _ _ e => e)); obtain ⟨ds, hds, hown⟩ := HDL.out.outs.mod HM6.out HSM.out HKL.out; have HDS := hid hds; have HOWN := hid hown; have HDV := hid hbys; have HNW := hid hrd.rd.add; have HONE := hid (rec_one o hbys); clear hfw6 hm6 hds hown hbys hrd)))
            | (at_builtin; go_loud ((refine wpList_append_lies _ rfl _ _ 127 rfl w.heap.size 188 i0 _ 8 80 Tryz.underlying127 hi0 hz0 hz1 hz2 rfl (by omega) (.slice Ao x.2.length co) x.2.length (rowC (x.2.map outR) ds) rfl HOWN.out ⟨b2, off2, none⟩ 1 cc2 (recC (outR o) dv) rfl rfl HNW.out HONE.out (by omega) (by unfold maxLen; omega) (by omega) (by have := HM6.out.size; have := HDL.out.mod.size; omega) _ rfl ?_; intro gg cap w7 hown7 hgrow hat hlt7))))
          go_roundw
          case rel =>
            have hdn := DL.one (w2 := w6) (w3 := w7) (v' := .slice (some ⟨gg, 0, none⟩) (x.2.length + 1) cap) HDL.out HMM.out HKK.out HMB.out HDROP.out (by rw [HY.out]) (by rw [HY.out]; exact HFW6.out) HM6.out HFI.out HDS.out HDV.out hown7 (mod_grown hgrow) (by
              rcases hat with h | h
              · exact .inl h.symm
              · exact .inr ⟨gg, rfl, by omega⟩)
            rw [HY.out] at hdn
            exact ⟨i + 1, _, by go_num, by omega, by have := HFN.out; rw [HY.out] at this; exact this, hdn⟩
          case measure => simp [intOf]; omega
        · simp at hos
      · have hnil : l.drop i = [] := List.drop_eq_nil_of_le (by omega)
        have hfold := HDL.out.fold
        rw [hnil] at hfold
        obtain rfl : x = X0 := hfold
        have HST := hid (statusO_any k mb x.1 _ wr HDL.out.fw.r (by have := HDL.out.len; omega))
        have HRES := hid (show ∀ (W : World), Gr wr W → RetA M k mb (x.1, x.2, 0) w (.returned (.tuple #[.slice Ao x.2.length co, .int .i64 0])) W from fun W g =>
          ⟨Ao, co, rfl, (HDL.out.fw.r.up (up_less' wr (fun b e => .inl e)) rfl rfl).gr g, (HDL.out.outs.recs HMM.out).up (Gr.up g M), HDL.out.mod.gr g⟩)
        have hlz : ¬ (i : Int) < (l.length : Int) := by omega
        cases hlate : F.late
        · have HX2 := hid (show X = (x.1, x.2, 0) by rw [← HX1.out, if_neg (by rw [hlate]; simp)]; rfl)
          clear hlate
          go_wp2_with fail
          go_ret2
          rw [HX2.out]
          exact HRES.out wr (Gr.refl wr)
        · by_cases hst : statusL x.1.l = 1
          · rw [hst] at HST
            have HX2 := hid (show X = ((scheduleF x.1 now).1, x.2 ++ (scheduleF x.1 now).2, 0) by rw [← HX1.out, if_pos ⟨hlate, hst⟩]; rfl)
            have HFS := hid (HFI.out.schedule (now := now) HDL.out.ne (by have := HDL.out.len; omega))
            have HSC := hid (fun (W : World) (g : Gr wr W) => (schedule_any PUT k mb x.1 now _ W (HDL.out.fw.gr g)).mono fun e w' hr => RetO.retD (HDL.out.fw.gr g) HFS.out (by have := HDL.out.len; simp only [scheduleF, putF_len]; omega) hr)
            have hxn : x.2.length ≤ 100 := by have := HDL.out.n; omega
            obtain ⟨i0, hi0, hz0, hz1, hz2⟩ := info_parts info188
            have HKL := hid (show ∀ b, (Value.slice Ao x.2.length co).ownBlock = some b → ¬ (b = k ∨ b = mb) from fun b e e2 => by
              have := (HDL.out.own b e).1
              have := HMM.out k HKK.out
              have := HMM.out mb HMB.out
              rcases e2 with rfl | rfl <;> omega)
            have HSM := hid (show ∀ b, (b = k ∨ b = mb) → M b from fun b e => by
              rcases e with rfl | rfl
              · exact HKK.out
              · exact HMB.out)
            clear hst hlate
            go_wp2_with (first
              | (go_at_call 65; (with_reducible refine HST.out.mono ?_); rintro en _ ⟨rfl, y8, rfl⟩; have dd4 : y8.val.cell? ⟨B4, 0, none⟩ = some (.int .i64 now) := (y8.gr.cell (p := ⟨B4, 0, none⟩) bl4).trans b4; have bb4 := Nat.lt_of_lt_of_le bl4 y8.gr.size)
              | (go_at_call 152
                 go_loud ((refine (HSC.out _ y8.gr).mono ?_; intro en w6 hret; obtain ⟨hfw6, hm6, hcase⟩ := hret; rcases hcase with ⟨e2, _⟩ | ⟨o, b2, off2, cc2, dv, e2, hen, hbys, hrd⟩; (cases e2); subst hen; have E2 := hid e2; have HFW6 := hid hfw6; have HM6 := hid ((y8.gr.mod (fun b => b = k ∨ b = mb)).trans hm6 (fun _ _ e => e)); obtain ⟨ds, hds, hown⟩ := HDL.out.outs.mod HM6.out HSM.out HKL.out; have HDS := hid hds; have HOWN := hid hown; have HDV := hid hbys; have HNW := hid hrd.rd.add; have HONE := hid (rec_one o hbys); clear hfw6 hm6 hds hown hbys hrd e2)))
              | (at_builtin; go_loud ((refine wpList_append_lies _ rfl _ _ 127 rfl w.heap.size 188 i0 _ 8 80 Tryz.underlying127 hi0 hz0 hz1 hz2 rfl (by omega) (.slice Ao x.2.length co) x.2.length (rowC (x.2.map outR) ds) rfl HOWN.out ⟨b2, off2, none⟩ 1 cc2 (recC (outR o) dv) rfl rfl HNW.out HONE.out (by omega) (by unfold maxLen; omega) (by omega) (by have := HM6.out.size; have := HDL.out.mod.size; omega) _ rfl ?_; intro gg cap w7 hown7 hgrow hat hlt7))))
            go_ret2
            rw [HX2.out]
            have u7 := ownB_up (M := M) (v := .slice Ao x.2.length co) (v' := .slice (some ⟨gg, 0, none⟩) (x.2.length + 1) cap) (mod_grown hgrow) (by
              rcases hat with h | h
              · exact .inl h.symm
              · exact .inr ⟨gg, rfl, by omega⟩)
            have ho7 := OwnOuts.app HDS.out HDV.out hown7 u7
            have hr7 := ho7.recs HMM.out
            have E3 : (scheduleF x.1 now).2 = [o] := E2.out
            rw [← E3] at hr7
            have nk : ¬ some k = (Value.slice Ao x.2.length co).ownBlock := fun e => HKL.out k e.symm (.inl rfl)
            have nm : ¬ some mb = (Value.slice Ao x.2.length co).ownBlock := fun e => HKL.out mb e.symm (.inr rfl)
            refine ⟨some ⟨gg, 0, none⟩, cap, by simp only [E3]; simp, (HFW6.out.r.up u7 ((mod_grown hgrow).block k HFW6.out.r.lt.1 nk) ((mod_grown hgrow).block mb HFW6.out.r.lt.2 nm)).up (up_less' w7 (fun b e => .inl e)) rfl rfl, ?_, ((HDL.out.mod.trans HM6.out (fun _ _ e => e)).trans (mod_grown hgrow) (fun b hb e => by have := (HDL.out.own b e.symm).1; omega))⟩
            have e8 : (x.2 ++ (scheduleF x.1 now).2).length = x.2.length + 1 := by rw [E3]; simp
            simp only [e8]
            exact hr7
          · have HX2 := hid (show X = (x.1, x.2, 0) by rw [← HX1.out, if_neg (by intro e; exact hst e.2)]; rfl)
            obtain ⟨st, hstt⟩ : ∃ st, statusL x.1.l = st := ⟨_, rfl⟩
            rw [hstt] at HST hst
            have hstb : (st == 1) = false := by simpa using hst
            clear hst hstt hlate
            go_wp2_with (go_at_call 65; (with_reducible refine HST.out.mono ?_); rintro en _ ⟨rfl, y8, rfl⟩)
            go_ret2
            rw [HX2.out]
            exact HRES.out _ y8.gr
end Go.Proofs.YtniknicnnaiilaaGreat
end
