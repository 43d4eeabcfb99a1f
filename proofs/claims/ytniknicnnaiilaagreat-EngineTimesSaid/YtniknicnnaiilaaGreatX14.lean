/- Lemmas: what the functions of the engine answer, and which blocks they write. -/
import Derived.OwnWalk
import Derived.Test.YtniknicnnaiilaaGreatX08
import Derived.Test.YtniknicnnaiilaaGreatX13
section
namespace Go.Proofs.YtniknicnnaiilaaGreat
set_option maxRecDepth 100000
open Go.RowKit Go.Ext Go.BigFrame Go.Maps Go.MapKept
attribute [local go_sem] Ext.cell Ext.frozen Ext.lt Ext.le s1 s2 s3 s4 s5 s6 t1 t2 t3 t4 t5 t6
attribute [local go_sem ↓] Go.wp_at_zero Go.wp_at_succ
set_option maxHeartbeats 4000000 in
theorem out_k3 (k : Nat) (E : ES) (id n now : Int) (o : Out) (d : Value) (M S : Bl) (w : World) (h : EngR w M S k E) (hE : EOk E) (hdue : E.due.length ≤ 1000000) (hd : ∃ A l c, d = .slice A l c) (hk : o.kind = 3) :
    Calls Tryz.prog 117 #[.pointer (some ⟨k, 0, none⟩), .int .i64 id, .int .i64 n, .int .i64 now, outV o d] w (RetS M S k (out0 E id n o) (.bool true) vF w) := by
  obtain ⟨kd, ka, md, ma, mr, kh, hv, h⟩ := h
  have H := hid h
  obtain ⟨e0, e1, e2, e3, e4, e5, e6, hkl⟩ := h.cells
  have HA := hid (fun W (y : Gr w W) => add_any 0 kh hv E.due (o.tick, id, n, o.ref, o.turn, o.kind) W (h.gr y).h hE.due hdue (Nat.zero_le _))
  unfold out0
  rw [if_neg (by omega), if_neg (by omega)]
  rcases o with ⟨ok, ol, or_, ot, oa, oi, on, od⟩
  obtain ⟨Ad, dl, cd, rfl⟩ := hd
  simp only at hk
  subst hk
  clear h
  simp only [outV, iv] at *
  have HAE := hid (show addD E.due (oa, id, n, or_, ot, 3) = addF E.due (oa, id, n, or_, ot, 3) from rfl)
  rw [HAE.out]
  go_enter Tryz.func117, Tryz.ntmps117
  go_wp2_with fail
  have G1 := hid ((Gr.refl w).alloc (.cells #[.int .i64 3, .int .i64 ol, .int .i64 or_, .int .i64 ot, .int .i64 oa, .int .i64 oi, .int .i64 on, .slice Ad dl cd] 188))
  have HB1 := hid (heap_alloc_new w (.cells #[.int .i64 3, .int .i64 ol, .int .i64 or_, .int .i64 ot, .int .i64 oa, .int .i64 oi, .int .i64 on, .slice Ad dl cd] 188))
  obtain ⟨W1, hW1⟩ : ∃ W1, w.alloc (.cells #[.int .i64 3, .int .i64 ol, .int .i64 or_, .int .i64 ot, .int .i64 oa, .int .i64 oi, .int .i64 on, .slice Ad dl cd] 188) = W1 := ⟨_, rfl⟩
  rw [hW1] at G1 HB1 ⊢
  clear hW1
  have hl1 : w.heap.size < W1.heap.size := block_lt HB1.out
  obtain ⟨b0, b1, b2, b3, b4⟩ : W1.cell? ⟨w.heap.size, 0, none⟩ = some (.int .i64 3) ∧ W1.cell? ⟨w.heap.size, 1, none⟩ = some (.int .i64 ol) ∧ W1.cell? ⟨w.heap.size, 2, none⟩ = some (.int .i64 or_) ∧ W1.cell? ⟨w.heap.size, 3, none⟩ = some (.int .i64 ot) ∧ W1.cell? ⟨w.heap.size, 4, none⟩ = some (.int .i64 oa) := by
    refine ⟨?_, ?_, ?_, ?_, ?_⟩ <;> simp [World.cell?, HB1.out]
  have f6 : W1.cell? ⟨k, 6, none⟩ = some (.pointer (some ⟨kh, 0, none⟩)) := (G1.out.cell (p := ⟨k, 6, none⟩) hkl).trans e6
  have hk1 : k < W1.heap.size := Nat.lt_of_lt_of_le hkl G1.out.size
  refine wp_region_planM [(0, false), (1, false), (2, false), (3, false), (4, false), (5, false), (6, false), (7, false), (8, false), (9, false), (10, false), (11, false), (12, false), (13, false), (14, false), (15, true)] (fun W => Gr W1 W) (by kernel_rfl) (by kernel_rfl) (fun _ _ d _ _ h => by cases d <;> exact h) (Gr.refl W1).drew (fun _ => ?_)
  iterate 15 (refine pm_take (v := ?_) rfl (by rfl) ?_ ?_; rotate_left; (focus (intro W9 hW9; obtain ⟨x9, rfl⟩ : ∃ x : Ext W1, W9 = x.val := ⟨⟨W9, hW9⟩, rfl⟩; go_simp; (try with_reducible rfl); done)); (try simp only [AP]))
  refine pm_last rfl (by rfl) (fun K hK => ?_)
  go_simp
  go_at_call 44
  refine (HA.out _ (G1.out.drew)).mono ?_
  intro en w2 hr
  have R2 := hid (((H.out.gr G1.out.drew).retDue (vok := .bool true) (vfull := vF) hr).grow G1.out.drew)
  obtain ⟨_, rfl, _⟩ := hr
  refine hK.out _ _ ?_
  clear hK K
  go_wp2_with fail
  go_ret
  exact R2.out
set_option maxHeartbeats 4000000 in
theorem out_k4 (k : Nat) (E : ES) (id n now : Int) (o : Out) (d : Value) (M S : Bl) (w : World) (h : EngR w M S k E) (hE : EOk E) (hdue : E.due.length ≤ 1000000) (hd : ∃ A l c, d = .slice A l c) (hk : o.kind = 4) :
    Calls Tryz.prog 117 #[.pointer (some ⟨k, 0, none⟩), .int .i64 id, .int .i64 n, .int .i64 now, outV o d] w (RetS M S k (out0 E id n o) (.bool true) vF w) := by
  obtain ⟨kd, ka, md, ma, mr, kh, hv, h⟩ := h
  have H := hid h
  obtain ⟨e0, e1, e2, e3, e4, e5, e6, hkl⟩ := h.cells
  have HA := hid (fun W (y : Gr w W) => add_any 0 kh hv E.due (o.tick, id, n, o.ref, o.turn, o.kind) W (h.gr y).h hE.due hdue (Nat.zero_le _))
  unfold out0
  rw [if_neg (by omega), if_neg (by omega)]
  rcases o with ⟨ok, ol, or_, ot, oa, oi, on, od⟩
  obtain ⟨Ad, dl, cd, rfl⟩ := hd
  simp only at hk
  subst hk
  clear h
  simp only [outV, iv] at *
  have HAE := hid (show addD E.due (oa, id, n, or_, ot, 4) = addF E.due (oa, id, n, or_, ot, 4) from rfl)
  rw [HAE.out]
  go_enter Tryz.func117, Tryz.ntmps117
  go_wp2_with fail
  have G1 := hid ((Gr.refl w).alloc (.cells #[.int .i64 4, .int .i64 ol, .int .i64 or_, .int .i64 ot, .int .i64 oa, .int .i64 oi, .int .i64 on, .slice Ad dl cd] 188))
  have HB1 := hid (heap_alloc_new w (.cells #[.int .i64 4, .int .i64 ol, .int .i64 or_, .int .i64 ot, .int .i64 oa, .int .i64 oi, .int .i64 on, .slice Ad dl cd] 188))
  obtain ⟨W1, hW1⟩ : ∃ W1, w.alloc (.cells #[.int .i64 4, .int .i64 ol, .int .i64 or_, .int .i64 ot, .int .i64 oa, .int .i64 oi, .int .i64 on, .slice Ad dl cd] 188) = W1 := ⟨_, rfl⟩
  rw [hW1] at G1 HB1 ⊢
  clear hW1
  have hl1 : w.heap.size < W1.heap.size := block_lt HB1.out
  obtain ⟨b0, b1, b2, b3, b4⟩ : W1.cell? ⟨w.heap.size, 0, none⟩ = some (.int .i64 4) ∧ W1.cell? ⟨w.heap.size, 1, none⟩ = some (.int .i64 ol) ∧ W1.cell? ⟨w.heap.size, 2, none⟩ = some (.int .i64 or_) ∧ W1.cell? ⟨w.heap.size, 3, none⟩ = some (.int .i64 ot) ∧ W1.cell? ⟨w.heap.size, 4, none⟩ = some (.int .i64 oa) := by
    refine ⟨?_, ?_, ?_, ?_, ?_⟩ <;> simp [World.cell?, HB1.out]
  have f6 : W1.cell? ⟨k, 6, none⟩ = some (.pointer (some ⟨kh, 0, none⟩)) := (G1.out.cell (p := ⟨k, 6, none⟩) hkl).trans e6
  have hk1 : k < W1.heap.size := Nat.lt_of_lt_of_le hkl G1.out.size
  refine wp_region_planM [(0, false), (1, false), (2, false), (3, false), (4, false), (5, false), (6, false), (7, false), (8, false), (9, false), (10, false), (11, false), (12, false), (13, false), (14, false), (15, true)] (fun W => Gr W1 W) (by kernel_rfl) (by kernel_rfl) (fun _ _ d _ _ h => by cases d <;> exact h) (Gr.refl W1).drew (fun _ => ?_)
  iterate 15 (refine pm_take (v := ?_) rfl (by rfl) ?_ ?_; rotate_left; (focus (intro W9 hW9; obtain ⟨x9, rfl⟩ : ∃ x : Ext W1, W9 = x.val := ⟨⟨W9, hW9⟩, rfl⟩; go_simp; (try with_reducible rfl); done)); (try simp only [AP]))
  refine pm_last rfl (by rfl) (fun K hK => ?_)
  go_simp
  go_at_call 44
  refine (HA.out _ (G1.out.drew)).mono ?_
  intro en w2 hr
  have R2 := hid (((H.out.gr G1.out.drew).retDue (vok := .bool true) (vfull := vF) hr).grow G1.out.drew)
  obtain ⟨_, rfl, _⟩ := hr
  refine hK.out _ _ ?_
  clear hK K
  go_wp2_with fail
  go_ret
  exact R2.out
set_option maxHeartbeats 4000000 in
theorem out_k5 (k : Nat) (E : ES) (id n now : Int) (o : Out) (d : Value) (M S : Bl) (w : World) (h : EngR w M S k E) (hE : EOk E) (hdue : E.due.length ≤ 1000000) (hd : ∃ A l c, d = .slice A l c) (hk : o.kind = 5) :
    Calls Tryz.prog 117 #[.pointer (some ⟨k, 0, none⟩), .int .i64 id, .int .i64 n, .int .i64 now, outV o d] w (RetS M S k (out0 E id n o) (.bool true) vF w) := by
  obtain ⟨kd, ka, md, ma, mr, kh, hv, h⟩ := h
  have H := hid h
  obtain ⟨e0, e1, e2, e3, e4, e5, e6, hkl⟩ := h.cells
  have HA := hid (fun W (y : Gr w W) => add_any 0 kh hv E.due (o.tick, id, n, o.ref, o.turn, o.kind) W (h.gr y).h hE.due hdue (Nat.zero_le _))
  unfold out0
  rw [if_neg (by omega), if_neg (by omega)]
  rcases o with ⟨ok, ol, or_, ot, oa, oi, on, od⟩
  obtain ⟨Ad, dl, cd, rfl⟩ := hd
  simp only at hk
  subst hk
  clear h
  simp only [outV, iv] at *
  have HAE := hid (show addD E.due (oa, id, n, or_, ot, 5) = addF E.due (oa, id, n, or_, ot, 5) from rfl)
  rw [HAE.out]
  go_enter Tryz.func117, Tryz.ntmps117
  go_wp2_with fail
  have G1 := hid ((Gr.refl w).alloc (.cells #[.int .i64 5, .int .i64 ol, .int .i64 or_, .int .i64 ot, .int .i64 oa, .int .i64 oi, .int .i64 on, .slice Ad dl cd] 188))
  have HB1 := hid (heap_alloc_new w (.cells #[.int .i64 5, .int .i64 ol, .int .i64 or_, .int .i64 ot, .int .i64 oa, .int .i64 oi, .int .i64 on, .slice Ad dl cd] 188))
  obtain ⟨W1, hW1⟩ : ∃ W1, w.alloc (.cells #[.int .i64 5, .int .i64 ol, .int .i64 or_, .int .i64 ot, .int .i64 oa, .int .i64 oi, .int .i64 on, .slice Ad dl cd] 188) = W1 := ⟨_, rfl⟩
  rw [hW1] at G1 HB1 ⊢
  clear hW1
  have hl1 : w.heap.size < W1.heap.size := block_lt HB1.out
  obtain ⟨b0, b1, b2, b3, b4⟩ : W1.cell? ⟨w.heap.size, 0, none⟩ = some (.int .i64 5) ∧ W1.cell? ⟨w.heap.size, 1, none⟩ = some (.int .i64 ol) ∧ W1.cell? ⟨w.heap.size, 2, none⟩ = some (.int .i64 or_) ∧ W1.cell? ⟨w.heap.size, 3, none⟩ = some (.int .i64 ot) ∧ W1.cell? ⟨w.heap.size, 4, none⟩ = some (.int .i64 oa) := by
    refine ⟨?_, ?_, ?_, ?_, ?_⟩ <;> simp [World.cell?, HB1.out]
  have f6 : W1.cell? ⟨k, 6, none⟩ = some (.pointer (some ⟨kh, 0, none⟩)) := (G1.out.cell (p := ⟨k, 6, none⟩) hkl).trans e6
  have hk1 : k < W1.heap.size := Nat.lt_of_lt_of_le hkl G1.out.size
  refine wp_region_planM [(0, false), (1, false), (2, false), (3, false), (4, false), (5, false), (6, false), (7, false), (8, false), (9, false), (10, false), (11, false), (12, false), (13, false), (14, false), (15, true)] (fun W => Gr W1 W) (by kernel_rfl) (by kernel_rfl) (fun _ _ d _ _ h => by cases d <;> exact h) (Gr.refl W1).drew (fun _ => ?_)
  iterate 15 (refine pm_take (v := ?_) rfl (by rfl) ?_ ?_; rotate_left; (focus (intro W9 hW9; obtain ⟨x9, rfl⟩ : ∃ x : Ext W1, W9 = x.val := ⟨⟨W9, hW9⟩, rfl⟩; go_simp; (try with_reducible rfl); done)); (try simp only [AP]))
  refine pm_last rfl (by rfl) (fun K hK => ?_)
  go_simp
  go_at_call 44
  refine (HA.out _ (G1.out.drew)).mono ?_
  intro en w2 hr
  have R2 := hid (((H.out.gr G1.out.drew).retDue (vok := .bool true) (vfull := vF) hr).grow G1.out.drew)
  obtain ⟨_, rfl, _⟩ := hr
  refine hK.out _ _ ?_
  clear hK K
  go_wp2_with fail
  go_ret
  exact R2.out
theorem out_any0 (k : Nat) (E : ES) (id n now : Int) (o : Out) (d : Value) (M S : Bl) (w : World) (h : EngR w M S k E) (hE : EOk E) (hdue : E.due.length ≤ 1000000) (hd : ∃ A l c, d = .slice A l c) (hk : 1 ≤ o.kind ∧ o.kind ≤ 5) :
    Calls Tryz.prog 117 #[.pointer (some ⟨k, 0, none⟩), .int .i64 id, .int .i64 n, .int .i64 now, outV o d] w (RetS M S k (out0 E id n o) (.bool true) vF w) := by
  have hc : o.kind = 1 ∨ o.kind = 2 ∨ o.kind = 3 ∨ o.kind = 4 ∨ o.kind = 5 := by omega
  rcases hc with hc | hc | hc | hc | hc
  · exact out_k1 k E id n now o d M S w h hE hd hc
  · exact out_k2 k E id n now o d M S w h hE hd hc
  · exact out_k3 k E id n now o d M S w h hE hdue hd hc
  · exact out_k4 k E id n now o d M S w h hE hdue hd hc
  · exact out_k5 k E id n now o d M S w h hE hdue hd hc
def foldO (step : ES → Out → Option ES) : ES → List Out → Option ES
  | E, [] => some E
  | E, o :: r => (step E o).bind fun E' => foldO step E' r
theorem outs0_fold (id n : Int) : ∀ (l : List Out) (E : ES), outs0 E id n l = foldO (fun E o => out0 E id n o) E l
  | [], _ => rfl
  | o :: r, E => by
    simp only [outs0, foldO]
    congr 1
    funext E'
    exact outs0_fold id n r E'
theorem outsE_fold (id n now : Int) : ∀ (l : List Out) (E : ES), outsE E id n now l = foldO (fun E o => outE E id n now o) E l
  | [], _ => rfl
  | o :: r, E => by
    simp only [outsE, foldO]
    congr 1
    funext E'
    exact outsE_fold id n now r E'
theorem out_at {w : World} {M : Bl} {A : Option Addr} {n c i : Nat} {l : List Out} {o : Out} (h : RecsM outR w M (.slice A n c) l) (ho : l[i]? = some o) : ∃ b off d, A = some ⟨b, off, none⟩ ∧ b < w.heap.size ∧ ¬ M b ∧ BysM w M d o.data ∧
    w.cell? ⟨b, off + i * 8, none⟩ = some (.int .i64 o.kind) ∧ w.cell? ⟨b, off + i * 8 + 1, none⟩ = some (.int .i64 o.list) ∧ w.cell? ⟨b, off + i * 8 + 2, none⟩ = some (.int .i64 o.ref) ∧ w.cell? ⟨b, off + i * 8 + 3, none⟩ = some (.int .i64 o.turn) ∧ w.cell? ⟨b, off + i * 8 + 4, none⟩ = some (.int .i64 o.tick) ∧
    w.cell? ⟨b, off + i * 8 + 5, none⟩ = some (.int .i64 o.id) ∧ w.cell? ⟨b, off + i * 8 + 6, none⟩ = some (.int .i64 o.n) ∧ w.cell? ⟨b, off + i * 8 + 7, none⟩ = some d := by
  obtain ⟨b, off, v, h1, h2, h3, h4, h5⟩ := h.at_ (m := 7) (fun x => outR_len x) ho
  exact ⟨b, off, v, h1, h2, h3, h4, h5 0 _ rfl, h5 1 _ rfl, h5 2 _ rfl, h5 3 _ rfl, h5 4 _ rfl, h5 5 _ rfl, h5 6 _ rfl, h5 7 _ rfl⟩
structure Along (w : World) (M S : Bl) (w' : World) (M' S' : Bl) : Prop where
  mod : Mod S w w'
  s : ∀ b, b < w.heap.size → S' b → S b
  m : ∀ b, b < w.heap.size → M' b → M b
  mm : ∀ b, M b → M' b
section
variable {w w1 w2 : World} {M M' M1 S S' S1 : Bl} {k : Nat}
theorem Along.refl (w : World) (M S : Bl) : Along w M S w M S := ⟨(Gr.refl w).mod S, fun _ _ e => e, fun _ _ e => e, fun _ e => e⟩
theorem Along.trans (h : Along w M S w1 M1 S1) (k : Along w1 M1 S1 w2 M' S') : Along w M S w2 M' S' :=
  ⟨h.mod.trans k.mod h.s, fun b hb e => h.s b hb (k.s b (Nat.lt_of_lt_of_le hb h.mod.size) e), fun b hb e => h.m b hb (k.m b (Nat.lt_of_lt_of_le hb h.mod.size) e), fun b e => k.mm b (h.mm b e)⟩
theorem Along.gr (h : Along w M S w1 M1 S1) (g : Gr w1 w2) : Along w M S w2 M1 S1 := h.trans ⟨g.mod _, fun _ _ e => e, fun _ _ e => e, fun _ e => e⟩
theorem Along.up (h : Along w M S w1 M1 S1) (SM : ∀ b, S b → M b) : Up M w M1 w1 := ⟨h.mod.mono fun b _ e => SM b e, h.m⟩
theorem RetS.along {R : Option ES} {vok : Value} {vfull : Value → Prop} {en : Ending} (a : Along w M S w1 M1 S1) (h : RetS M1 S1 k R vok vfull w1 en w2) : RetS M S k R vok vfull w en w2 := h.after a.mod a.s a.m a.mm
theorem RetS.cases {R : Option ES} {vok : Value} {vfull : Value → Prop} {en : Ending} (h : RetS M S k R vok vfull w en w2) :
    (R = none ∧ ∃ v, en = .returned v ∧ vfull v ∧ Mod S w w2) ∨ ∃ E' M' S', R = some E' ∧ en = .returned vok ∧ EngR w2 M' S' k E' ∧ Along w M S w2 M' S' := by
  obtain ⟨hm, h⟩ := h
  cases R with
  | none =>
    obtain ⟨v, e, hv⟩ := h
    exact .inl ⟨rfl, v, e, hv, hm⟩
  | some E' =>
    obtain ⟨e, M', S', h1, h2, h3, h4⟩ := h
    exact .inr ⟨E', M', S', rfl, e, h1, hm, h2, h3, h4⟩
theorem RetS.some_ {E : ES} {vok : Value} {vfull : Value → Prop} (a : Along w M S w1 M1 S1) (h : EngR w1 M1 S1 k E) : RetS M S k (some E) vok vfull w (.returned vok) w1 := RetS.along a (RetS.done h ((Gr.refl w1).mod _))
theorem RetS.none_ {vok v : Value} {vfull : Value → Prop} (a : Along w M S w1 M1 S1) (m : Mod S1 w1 w2) (hv : vfull v) : RetS M S k none vok vfull w (.returned v) w2 := RetS.along a (RetS.full m hv)
end
theorem field109 (p : Option Addr) (x y : Int) (w : World) : (Instr.field 109 (.agg #[.pointer p, .int .i64 x, .int .i64 y]) 0).run Tryz.prog w = .ok (.pointer p) w := by kernel_rfl
set_option maxHeartbeats 4000000 in
theorem outs_genQ (Q : ES → Prop) (B : Nat) (hB : B ≤ 1000000) (k : Nat) (E : ES) (id now : Int) (l : List Out) (v : Value) (M S : Bl) (w : World) (h : EngR w M S k E) (hE : EOk E) (r : RunS) (hr : lk E.runs id = some r) (hl : RecsM outR w M v l) (hdue : E.due.length + l.length ≤ B) (hQ : Q E)
    (step : ES → Out → Option ES) (hnx : ∀ E E' o, o ∈ l → EOk E → Q E → step E o = some E' → Nx 1 E E' ∧ Q E')
    (hout : ∀ W M' S' E' o d, o ∈ l → EngR W M' S' k E' → EOk E' → Q E' → E'.due.length ≤ B → BysM W M' d o.data → Calls Tryz.prog 117 #[.pointer (some ⟨k, 0, none⟩), .int .i64 id, .int .i64 r.f.run, .int .i64 now, outV o d] W (RetS M' S' k (step E' o) (.bool true) vF W)) :
    Calls Tryz.prog 77 #[.pointer (some ⟨k, 0, none⟩), .int .i64 id, .int .i64 now, v] w (RetS M S k (foldO step E l) (.bool true) vF w) := by
  have HENG := hid h
  have HLT := hid h.lt
  obtain ⟨kd, ka, md, ma, mr, kh, hv, hP⟩ := h
  obtain ⟨e0, e1, e2, e3, e4, e5, e6, hkl⟩ := hP.cells
  rcases hP.look id false with ⟨hn, _⟩ | ⟨r', kf, hr', hf, hlk⟩
  · rw [hr] at hn; cases hn
  rw [hr] at hr'
  injection hr' with hr'
  subst hr'
  have hlk0 := hlk w (Gr.refl w)
  obtain ⟨_, mb, _, hfr⟩ := hf
  have hfld := field109 (some ⟨kf, 0, none⟩) r.pf r.pr w
  have HRUN := hid (runO_any kf mb r.f M w hfr)
  obtain ⟨A, c, rfl, hlc⟩ := hl.shape
  have HL := hid hl
  have HNX := hid hnx
  have HOUT := hid hout
  clear hP hlk hfr hl hnx hout hr
  simp only [runV, Bool.false_eq_true, if_false] at hlk0
  obtain ⟨X, hX⟩ : ∃ X, foldO step E l = X := ⟨_, rfl⟩
  rw [hX]
  have HX := hid hX
  clear hX
  go_enter Tryz.func77, Tryz.ntmps77
  go_wp2_with (go_at_call 63; refine HRUN.out.mono ?_; rintro en _ ⟨rfl, y1, rfl⟩)
  have HY := hid y1.gr
  go_loopw [22] (fun iv wr => ∃ (i : Nat) (Ei : ES) (Mi Si : Bl), iv = .int .i64 i ∧ i ≤ l.length ∧ EngR wr Mi Si k Ei ∧ EOk Ei ∧ Q Ei ∧ foldO step Ei (l.drop i) = X ∧ Ei.due.length ≤ E.due.length + i ∧ Along w M S wr Mi Si) (fun iv _ => l.length - (intOf iv).toNat)
  case atStart => exact ⟨0, E, M, S, rfl, Nat.zero_le _, HENG.out.gr HY.out, hE, hQ, by rw [List.drop_zero]; exact HX.out, by omega, (Along.refl w M S).gr HY.out⟩
  case round =>
    obtain ⟨i, Ei, Mi, Si, rfl, hi, heng, hok, hqi, hfold, hd, hal⟩ := hrel
    have HE := hid heng
    have HAL := hid hal
    have HLR := hid (HL.out.up (hal.up HLT.out.2.1))
    have HF := hid hfold
    clear heng hal hfold
    by_cases hlt : i < l.length
    · have hget : l[i]? = some l[i] := List.getElem?_eq_getElem hlt
      have hmem : l[i] ∈ l := List.getElem_mem hlt
      have hdrop : l.drop i = l[i] :: l.drop (i + 1) := List.drop_eq_getElem_cons hlt
      rw [hdrop] at HF
      obtain ⟨o, ho⟩ : ∃ o, l[i] = o := ⟨_, rfl⟩
      rw [ho] at hget hmem HF
      obtain ⟨b, off, d, rfl, hb, hMb, hdat, c0, c1, c2, c3, c4, c5, c6, c7⟩ := out_at HLR.out hget
      have HC := hid (HOUT.out wr Mi Si Ei o d hmem HE.out hok hqi (by omega) hdat)
      have HG := hid (fun W (g : Gr wr W) => HOUT.out W Mi Si Ei o d hmem (HE.out.gr g) hok hqi (by omega) (hdat.up (Gr.up g Mi)))
      have HMEM := hid hmem
      obtain ⟨Ad, cd, rfl⟩ := hdat.shape
      have hlz : (i : Int) < (l.length : Int) := by omega
      clear hdat ho hdrop hget hmem HC
      rcases o with ⟨ok_, ol, or_, ot, oa, oi, on, od⟩
      simp only [outV] at HG c0 c1 c2 c3 c4 c5 c6 c7
      generalize od.length = dl at *
      obtain ⟨R, hR⟩ : ∃ R, step Ei ⟨ok_, ol, or_, ot, oa, oi, on, od⟩ = R := ⟨_, rfl⟩
      have HR := hid hR
      rw [hR] at HG
      clear hR
      have G1 := hid ((Gr.refl wr).alloc (.cells #[.int .i64 ok_, .int .i64 ol, .int .i64 or_, .int .i64 ot, .int .i64 oa, .int .i64 oi, .int .i64 on, .slice Ad dl cd] 188))
      cases R with
      | none =>
        have HX0 := hid (show X = none by rw [← HF.out]; simp only [foldO, HR.out, Option.bind_none])
        go_wp2_with (go_at_call 117; go_loud ((refine (HG.out _ G1.out).mono ?_; intro en w2 hret; rcases (hret.grow G1.out).cases with ⟨_, v2, hen, hv2, hm2⟩ | ⟨E2, M2, S2, e2, _⟩; rotate_left; (cases e2); have hv2 : v2 = .bool false := hv2; subst hv2; subst hen; have HM2 := hid hm2; clear hret hm2)))
        go_ret
        rw [HX0.out]
        exact RetS.none_ HAL.out HM2.out rfl
      | some E1 =>
        have HN1 := hid (HNX.out Ei E1 _ HMEM.out hok hqi HR.out)
        have HF1 := hid (show foldO step E1 (l.drop (i + 1)) = X by rw [← HF.out]; simp only [foldO, HR.out, Option.bind_some])
        go_wp2_with (go_at_call 117
                     refine (HG.out _ G1.out).mono ?_
                     intro en w2 hret
                     obtain ⟨e2, _⟩ | ⟨E2, M2, S2, e2, rfl, heng2, hal2⟩ := (hret.grow G1.out).cases
                     · cases e2
                     injection e2 with e2
                     subst e2
                     have HE2 := hid heng2
                     have HA2 := hid hal2
                     clear hret heng2 hal2)
        go_roundw
        case rel => exact ⟨i + 1, E1, M2, S2, by go_num, by omega, HE2.out, HN1.out.1.ok hok, HN1.out.2, HF1.out, by have := HN1.out.1.due; omega, HAL.out.trans HA2.out⟩
        case measure => simp [intOf]; omega
    · go_wp2_with fail
      go_ret
      have hnil : l.drop i = [] := List.drop_eq_nil_of_le (by omega)
      have hx := HF.out
      rw [hnil] at hx
      rw [← hx]
      exact RetS.some_ HAL.out HE.out
theorem outs_gen (k : Nat) (E : ES) (id now : Int) (l : List Out) (v : Value) (M S : Bl) (w : World) (h : EngR w M S k E) (hE : EOk E) (r : RunS) (hr : lk E.runs id = some r) (hl : RecsM outR w M v l) (hdue : E.due.length + l.length ≤ 1000000)
    (step : ES → Out → Option ES) (hnx : ∀ E E' o, o ∈ l → step E o = some E' → Nx 1 E E')
    (hout : ∀ W M' S' E' o d, o ∈ l → EngR W M' S' k E' → EOk E' → E'.due.length ≤ 1000000 → BysM W M' d o.data → Calls Tryz.prog 117 #[.pointer (some ⟨k, 0, none⟩), .int .i64 id, .int .i64 r.f.run, .int .i64 now, outV o d] W (RetS M' S' k (step E' o) (.bool true) vF W)) :
    Calls Tryz.prog 77 #[.pointer (some ⟨k, 0, none⟩), .int .i64 id, .int .i64 now, v] w (RetS M S k (foldO step E l) (.bool true) vF w) :=
  outs_genQ (fun _ => True) 1000000 (Nat.le_refl _) k E id now l v M S w h hE r hr hl hdue trivial step (fun E E' o ho _ _ he => ⟨hnx E E' o ho he, trivial⟩) (fun W M' S' E' o d ho h1 h2 _ h3 h4 => hout W M' S' E' o d ho h1 h2 h3 h4)
theorem right_spec {F : FS} {data : List UInt8} {now : Int} (h : rightF F data now = true) : data.length ≤ 4096 ∧ 0 ≤ now ∧ now ≤ 1099511627776 := by
  unfold rightF at h
  simp only [Bool.and_eq_true, decide_eq_true_eq] at h
  exact ⟨h.1.1.1, h.1.1.2, h.1.2⟩
theorem up_lessN {M M' : Bl} (w : World) (h : ∀ b, M b → M' b) : Up M' w M w := ⟨(Gr.refl w).mod _, fun b _ e => h b e⟩
theorem gr_new {w w1 w2 : World} {k mb : Nat} (g : Gr w w1) (m : Mod (fun b => b = k ∨ b = mb) w1 w2) (hk : w.heap.size ≤ k := by omega) (hmb : w.heap.size ≤ mb := by omega) : Gr w w2 :=
  ⟨m.os.trans g.os, m.tape.trans g.tape, m.output.trans g.output, Nat.le_trans g.size m.size, fun b hb => (m.block b (Nat.lt_of_lt_of_le hb g.size) (by omega)).trans (g.block b hb)⟩
theorem fi_f0 (id run : Int) : FI (f0 id run) := ⟨fun x hx => (by cases hx), List.nodup_nil, fun x hx => (by cases hx), fun x hx => (by cases hx), by simp [f0], fun x hx => (by cases hx), fun h => absurd rfl h, by simp [f0], fun x hx => (by cases hx)⟩
def RetNew (M : Bl) (x : Option (FS × List Out)) (w : World) (e : Ending) (w' : World) : Prop :=
  match x with
  | none => e = .returned (.tuple #[.pointer none, .slice none 0 0, .int .i64 1]) ∧ Gr w w'
  | some (F, os) => ∃ k A c, e = .returned (.tuple #[.pointer (some ⟨k, 0, none⟩), .slice A os.length c, .int .i64 0]) ∧ Gr w w' ∧ w.heap.size ≤ k ∧ FlowI w' M k F ∧ RecsM outR w' M (.slice A os.length c) os
set_option maxHeartbeats 4000000 in
theorem newO_any (PUT : PutAny) (id run list n : Int) (d : Value) (data : List UInt8) (now : Int) (M : Bl) (w : World) (hM : ∀ b, M b → b < w.heap.size) (hd : BysM w M d data) :
    Calls Tryz.prog 135 #[.int .i64 id, .int .i64 run, .int .i64 list, .int .i64 n, d, .int .i64 now] w (RetNew M (newF id run list n data now) w) := by
  obtain ⟨Ad, cd, rfl⟩ : ∃ A c, d = .slice A data.length c := by
    obtain ⟨A, c, e, _⟩ := hd
    exact ⟨A, c, e⟩
  have hmm := @run_makeMap Tryz.prog
  have G1 := hid (show Gr w ((w.alloc (.map #[] 0)).alloc (.cells #[.int .i64 id, .int .i64 run, .int .i64 0, .int .i64 0, .slice none 0 0, .int .i64 0, .int .i64 0, .int .i64 0, .int .i64 0, .bool false, .bool false, .map (some w.heap.size)] 157)) from ((Gr.refl w).alloc _).alloc _)
  have HFR := hid (show FW ((w.alloc (.map #[] 0)).alloc (.cells #[.int .i64 id, .int .i64 run, .int .i64 0, .int .i64 0, .slice none 0 0, .int .i64 0, .int .i64 0, .int .i64 0, .int .i64 0, .bool false, .bool false, .map (some w.heap.size)] 157)) (plus M (w.heap.size + 1) w.heap.size) (w.heap.size + 1) w.heap.size (f0 id run) from by
    have e1 := heap_alloc_new (w.alloc (.map #[] 0)) (.cells #[.int .i64 id, .int .i64 run, .int .i64 0, .int .i64 0, .slice none 0 0, .int .i64 0, .int .i64 0, .int .i64 0, .int .i64 0, .bool false, .bool false, .map (some w.heap.size)] 157)
    rw [show (w.alloc (.map #[] 0)).heap.size = w.heap.size + 1 by simp] at e1
    refine ⟨⟨⟨_, e1, RecsM.none _ _ _⟩, (MI.made w).gr ((Gr.refl _).alloc _)⟩, .inr (.inl rfl), .inr (.inr rfl), by omega, fun b hb => ?_, by simp [f0], fi_f0 id run⟩
    have := G1.out.size
    have e2 := block_lt e1
    rcases hb with hb | hb | hb
    · have := hM b hb; omega
    · omega
    · omega)
  have HDB := hid (fun (W : World) (g : Gr ((w.alloc (.map #[] 0)).alloc (.cells #[.int .i64 id, .int .i64 run, .int .i64 0, .int .i64 0, .slice none 0 0, .int .i64 0, .int .i64 0, .int .i64 0, .int .i64 0, .bool false, .bool false, .map (some w.heap.size)] 157)) W) => (hd.up (Gr.up (G1.out.trans g) M)).bys)
  have HN1 := hid (fun W => numberO_any id W)
  have HN2 := hid (fun W => ticksO_any run W)
  have HN3 := hid (fun W => numberO_any list W)
  have HN4 := hid (fun W => ticksO_any n W)
  have HRT := hid (fun (W : World) (g : Gr ((w.alloc (.map #[] 0)).alloc (.cells #[.int .i64 id, .int .i64 run, .int .i64 0, .int .i64 0, .slice none 0 0, .int .i64 0, .int .i64 0, .int .i64 0, .int .i64 0, .bool false, .bool false, .map (some w.heap.size)] 157)) W) => rightO_any (w.heap.size + 1) w.heap.size (f0 id run) _ (.slice Ad data.length cd) data now W ((HFR.out.gr g).r) (HDB.out W g) (by simp [f0]))
  have HMM := hid hM
  unfold newF
  cases h1 : numB id
  · simp only [Bool.false_and, Bool.false_eq_true, if_false]
    rw [h1] at HN1
    clear h1
    go_enter Tryz.func135, Tryz.ntmps135
    go_wp2_with (first
      | (go_at_call 178; (with_reducible refine (HN1.out _).mono ?_); rintro en _ ⟨rfl, y1, rfl⟩; have GA := hid (G1.out.ext y1); have HA := hid y1.gr)
      | (go_at_call 179; (with_reducible refine (HN2.out _).mono ?_); rintro en _ ⟨rfl, y2, rfl⟩; have GB := hid (GA.out.ext y2); have HB := hid (HA.out.ext y2))
      | (go_at_call 178; (with_reducible refine (HN3.out _).mono ?_); rintro en _ ⟨rfl, y3, rfl⟩; have GC := hid (GB.out.ext y3); have HC := hid (HB.out.ext y3))
      | (go_at_call 179; (with_reducible refine (HN4.out _).mono ?_); rintro en _ ⟨rfl, y4, rfl⟩; have GD := hid (GC.out.ext y4); have HD4 := hid (HC.out.ext y4))
      | (go_at_call 180; refine (HRT.out _ HD4.out).mono ?_; rintro en _ ⟨rfl, y5, rfl⟩; have GE := hid (GD.out.ext y5); have HE := hid (HD4.out.ext y5))
      | (go_at_call 143; refine (HP.out _ HE.out).mono ?_; rintro en w6 ⟨rfl, hw6, hm6⟩; have HW6 := hid hw6; have HM6 := hid (gr_new GE.out hm6); have HSC := hid (schedule_any PUT (w.heap.size + 1) w.heap.size _ now _ w6 hw6); clear hw6 hm6)
      | (go_at_call 152; refine HSC.out.mono ?_; rintro en w7 ⟨A7, c7, rfl, hr7, ho7, hm7⟩))
    go_ret3
    exact ⟨rfl, GA.out⟩
  rw [h1] at HN1
  clear h1
  cases h2 : ticksB run
  · simp only [Bool.true_and, Bool.false_and, Bool.false_eq_true, if_false]
    rw [h2] at HN2
    clear h2
    go_enter Tryz.func135, Tryz.ntmps135
    go_wp2_with (first
      | (go_at_call 178; (with_reducible refine (HN1.out _).mono ?_); rintro en _ ⟨rfl, y1, rfl⟩; have GA := hid (G1.out.ext y1); have HA := hid y1.gr)
      | (go_at_call 179; (with_reducible refine (HN2.out _).mono ?_); rintro en _ ⟨rfl, y2, rfl⟩; have GB := hid (GA.out.ext y2); have HB := hid (HA.out.ext y2))
      | (go_at_call 178; (with_reducible refine (HN3.out _).mono ?_); rintro en _ ⟨rfl, y3, rfl⟩; have GC := hid (GB.out.ext y3); have HC := hid (HB.out.ext y3))
      | (go_at_call 179; (with_reducible refine (HN4.out _).mono ?_); rintro en _ ⟨rfl, y4, rfl⟩; have GD := hid (GC.out.ext y4); have HD4 := hid (HC.out.ext y4))
      | (go_at_call 180; refine (HRT.out _ HD4.out).mono ?_; rintro en _ ⟨rfl, y5, rfl⟩; have GE := hid (GD.out.ext y5); have HE := hid (HD4.out.ext y5))
      | (go_at_call 143; refine (HP.out _ HE.out).mono ?_; rintro en w6 ⟨rfl, hw6, hm6⟩; have HW6 := hid hw6; have HM6 := hid (gr_new GE.out hm6); have HSC := hid (schedule_any PUT (w.heap.size + 1) w.heap.size _ now _ w6 hw6); clear hw6 hm6)
      | (go_at_call 152; refine HSC.out.mono ?_; rintro en w7 ⟨A7, c7, rfl, hr7, ho7, hm7⟩))
    go_ret3
    exact ⟨rfl, GB.out⟩
  rw [h2] at HN2
  clear h2
  cases h3 : numB list
  · simp only [Bool.true_and, Bool.false_and, Bool.false_eq_true, if_false]
    rw [h3] at HN3
    clear h3
    go_enter Tryz.func135, Tryz.ntmps135
    go_wp2_with (first
      | (go_at_call 178; (with_reducible refine (HN1.out _).mono ?_); rintro en _ ⟨rfl, y1, rfl⟩; have GA := hid (G1.out.ext y1); have HA := hid y1.gr)
      | (go_at_call 179; (with_reducible refine (HN2.out _).mono ?_); rintro en _ ⟨rfl, y2, rfl⟩; have GB := hid (GA.out.ext y2); have HB := hid (HA.out.ext y2))
      | (go_at_call 178; (with_reducible refine (HN3.out _).mono ?_); rintro en _ ⟨rfl, y3, rfl⟩; have GC := hid (GB.out.ext y3); have HC := hid (HB.out.ext y3))
      | (go_at_call 179; (with_reducible refine (HN4.out _).mono ?_); rintro en _ ⟨rfl, y4, rfl⟩; have GD := hid (GC.out.ext y4); have HD4 := hid (HC.out.ext y4))
      | (go_at_call 180; refine (HRT.out _ HD4.out).mono ?_; rintro en _ ⟨rfl, y5, rfl⟩; have GE := hid (GD.out.ext y5); have HE := hid (HD4.out.ext y5))
      | (go_at_call 143; refine (HP.out _ HE.out).mono ?_; rintro en w6 ⟨rfl, hw6, hm6⟩; have HW6 := hid hw6; have HM6 := hid (gr_new GE.out hm6); have HSC := hid (schedule_any PUT (w.heap.size + 1) w.heap.size _ now _ w6 hw6); clear hw6 hm6)
      | (go_at_call 152; refine HSC.out.mono ?_; rintro en w7 ⟨A7, c7, rfl, hr7, ho7, hm7⟩))
    go_ret3
    exact ⟨rfl, GC.out⟩
  rw [h3] at HN3
  clear h3
  cases h4 : ticksB n
  · simp only [Bool.true_and, Bool.false_and, Bool.false_eq_true, if_false]
    rw [h4] at HN4
    clear h4
    go_enter Tryz.func135, Tryz.ntmps135
    go_wp2_with (first
      | (go_at_call 178; (with_reducible refine (HN1.out _).mono ?_); rintro en _ ⟨rfl, y1, rfl⟩; have GA := hid (G1.out.ext y1); have HA := hid y1.gr)
      | (go_at_call 179; (with_reducible refine (HN2.out _).mono ?_); rintro en _ ⟨rfl, y2, rfl⟩; have GB := hid (GA.out.ext y2); have HB := hid (HA.out.ext y2))
      | (go_at_call 178; (with_reducible refine (HN3.out _).mono ?_); rintro en _ ⟨rfl, y3, rfl⟩; have GC := hid (GB.out.ext y3); have HC := hid (HB.out.ext y3))
      | (go_at_call 179; (with_reducible refine (HN4.out _).mono ?_); rintro en _ ⟨rfl, y4, rfl⟩; have GD := hid (GC.out.ext y4); have HD4 := hid (HC.out.ext y4))
      | (go_at_call 180; refine (HRT.out _ HD4.out).mono ?_; rintro en _ ⟨rfl, y5, rfl⟩; have GE := hid (GD.out.ext y5); have HE := hid (HD4.out.ext y5))
      | (go_at_call 143; refine (HP.out _ HE.out).mono ?_; rintro en w6 ⟨rfl, hw6, hm6⟩; have HW6 := hid hw6; have HM6 := hid (gr_new GE.out hm6); have HSC := hid (schedule_any PUT (w.heap.size + 1) w.heap.size _ now _ w6 hw6); clear hw6 hm6)
      | (go_at_call 152; refine HSC.out.mono ?_; rintro en w7 ⟨A7, c7, rfl, hr7, ho7, hm7⟩))
    go_ret3
    exact ⟨rfl, GD.out⟩
  rw [h4] at HN4
  cases h5 : rightF (f0 id run) data now
  · simp only [Bool.true_and, Bool.false_eq_true, if_false]
    rw [h5] at HRT
    clear h5 h4
    go_enter Tryz.func135, Tryz.ntmps135
    go_wp2_with (first
      | (go_at_call 178; (with_reducible refine (HN1.out _).mono ?_); rintro en _ ⟨rfl, y1, rfl⟩; have GA := hid (G1.out.ext y1); have HA := hid y1.gr)
      | (go_at_call 179; (with_reducible refine (HN2.out _).mono ?_); rintro en _ ⟨rfl, y2, rfl⟩; have GB := hid (GA.out.ext y2); have HB := hid (HA.out.ext y2))
      | (go_at_call 178; (with_reducible refine (HN3.out _).mono ?_); rintro en _ ⟨rfl, y3, rfl⟩; have GC := hid (GB.out.ext y3); have HC := hid (HB.out.ext y3))
      | (go_at_call 179; (with_reducible refine (HN4.out _).mono ?_); rintro en _ ⟨rfl, y4, rfl⟩; have GD := hid (GC.out.ext y4); have HD4 := hid (HC.out.ext y4))
      | (go_at_call 180; refine (HRT.out _ HD4.out).mono ?_; rintro en _ ⟨rfl, y5, rfl⟩; have GE := hid (GD.out.ext y5); have HE := hid (HD4.out.ext y5))
      | (go_at_call 143; refine (HP.out _ HE.out).mono ?_; rintro en w6 ⟨rfl, hw6, hm6⟩; have HW6 := hid hw6; have HM6 := hid (gr_new GE.out hm6); have HSC := hid (schedule_any PUT (w.heap.size + 1) w.heap.size _ now _ w6 hw6); clear hw6 hm6)
      | (go_at_call 152; refine HSC.out.mono ?_; rintro en w7 ⟨A7, c7, rfl, hr7, ho7, hm7⟩))
    go_ret3
    exact ⟨rfl, GE.out⟩
  rw [h5] at HRT
  obtain ⟨r1, r2, r3⟩ := right_spec h5
  have hn4 : 1 ≤ n ∧ n ≤ 1048576 := by simpa [ticksB] using h4
  have HPO := hid (show PutOk (f0 id run) ⟨1, now, 0, 0, list, n, data⟩ from ⟨by dsimp only; omega, r1, fun _ => rfl, fun _ => hn4.1, fun e => by simp at e, fun e => by simp at e, fun e => by simp at e, fun e => by simp at e⟩)
  have HP := hid (fun (W : World) (g : Gr ((w.alloc (.map #[] 0)).alloc (.cells #[.int .i64 id, .int .i64 run, .int .i64 0, .int .i64 0, .slice none 0 0, .int .i64 0, .int .i64 0, .int .i64 0, .int .i64 0, .bool false, .bool false, .map (some w.heap.size)] 157)) W) => (show Calls Tryz.prog 143 #[.pointer (some ⟨w.heap.size + 1, 0, none⟩), .agg #[.int .i64 1, .int .i64 now, .int .i64 0, .int .i64 0, .int .i64 list, .int .i64 n, .slice Ad data.length cd]] W _ from
    fput PUT ⟨1, now, 0, 0, list, n, data⟩ (.slice Ad data.length cd) (HFR.out.gr g) (HDB.out W g) HPO.out (by simp [f0]) (by dsimp only; omega) (by dsimp only; omega)))
  clear h4 h5 r1 r2 r3 hn4
  simp only [Bool.and_self, if_true]
  go_enter Tryz.func135, Tryz.ntmps135
  go_wp2_with (first
      | (go_at_call 178; (with_reducible refine (HN1.out _).mono ?_); rintro en _ ⟨rfl, y1, rfl⟩; have GA := hid (G1.out.ext y1); have HA := hid y1.gr)
      | (go_at_call 179; (with_reducible refine (HN2.out _).mono ?_); rintro en _ ⟨rfl, y2, rfl⟩; have GB := hid (GA.out.ext y2); have HB := hid (HA.out.ext y2))
      | (go_at_call 178; (with_reducible refine (HN3.out _).mono ?_); rintro en _ ⟨rfl, y3, rfl⟩; have GC := hid (GB.out.ext y3); have HC := hid (HB.out.ext y3))
      | (go_at_call 179; (with_reducible refine (HN4.out _).mono ?_); rintro en _ ⟨rfl, y4, rfl⟩; have GD := hid (GC.out.ext y4); have HD4 := hid (HC.out.ext y4))
      | (go_at_call 180; refine (HRT.out _ HD4.out).mono ?_; rintro en _ ⟨rfl, y5, rfl⟩; have GE := hid (GD.out.ext y5); have HE := hid (HD4.out.ext y5))
      | (go_at_call 143; refine (HP.out _ HE.out).mono ?_; rintro en w6 ⟨rfl, hw6, hm6⟩; have HW6 := hid hw6; have HM6 := hid (gr_new GE.out hm6); have HSC := hid (schedule_any PUT (w.heap.size + 1) w.heap.size _ now _ w6 hw6); clear hw6 hm6)
      | (go_at_call 152; refine HSC.out.mono ?_; rintro en w7 ⟨A7, c7, rfl, hr7, ho7, hm7⟩))
  go_ret3
  have g7 : Gr w w7 := gr_new HM6.out hm7
  refine ⟨w.heap.size + 1, A7, c7, rfl, g7, by omega, ⟨fun e => ?_, w.heap.size, fun e => ?_, hr7.up (up_lessN w7 (fun b e => .inl e)) rfl rfl⟩, ho7.up (up_lessN w7 (fun b e => .inl e))⟩
  · have := HMM.out _ e; omega
  · have := HMM.out _ e; omega
end Go.Proofs.YtniknicnnaiilaaGreat
end
