/- Lemmas: what the functions of the engine answer, and which blocks they write. -/
import Derived.Test.YtniknicnnaiilaaGreatX14
import Derived.Test.YtniknicnnaiilaaGreatX15
import Derived.Test.YtniknicnnaiilaaGreatX16
section
namespace Go.Proofs.YtniknicnnaiilaaGreat
set_option maxRecDepth 100000
open Go.RowKit Go.Ext Go.BigFrame Go.Maps Go.MapKept
attribute [local go_sem] Ext.cell Ext.frozen Ext.lt Ext.le s1 s2 s3 s4 s5 s6 t1 t2 t3 t4 t5 t6
attribute [local go_sem ↓] Go.wp_at_zero Go.wp_at_succ
set_option maxHeartbeats 2000000 in
theorem missed_any (PUT : PutAny) (k : Nat) (F : FS) (ref : Int) (turn : Int) (now : Int) (M : Bl) (w : World) (h : FlowF w M k F) (hM : ∀ b, M b → b < w.heap.size) (hk : M k) (hF : FOk F) :
    Calls Tryz.prog 114 #[.pointer (some ⟨k, 0, none⟩), .int .i64 ref, .int .i64 turn, .int .i64 now] w (RetT M k (tryF F [] now (missedD ref turn now)) w) := by
  have b0 := heap_alloc_new w (.cells #[.int .i64 ref] 3)
  have HB0 := hid (((((Gr.refl _).alloc (.cells #[.int .i64 turn] 3)).alloc (.cells #[.int .i64 now] 3)).block _ (block_lt b0)).trans b0)
  clear b0
  have b1 := heap_alloc_new (w.alloc (.cells #[.int .i64 ref] 3)) (.cells #[.int .i64 turn] 3)
  rw [show (w.alloc (.cells #[.int .i64 ref] 3)).heap.size = w.heap.size + 1 by simp] at b1
  have HB1 := hid ((((Gr.refl _).alloc (.cells #[.int .i64 now] 3)).block _ (block_lt b1)).trans b1)
  clear b1
  have b2 := heap_alloc_new ((w.alloc (.cells #[.int .i64 ref] 3)).alloc (.cells #[.int .i64 turn] 3)) (.cells #[.int .i64 now] 3)
  rw [show ((w.alloc (.cells #[.int .i64 ref] 3)).alloc (.cells #[.int .i64 turn] 3)).heap.size = w.heap.size + 1 + 1 by simp] at b2
  have HB2 := hid (((Gr.refl _).block _ (block_lt b2)).trans b2)
  clear b2
  have G1 := hid (show Gr w (((w.alloc (.cells #[.int .i64 ref] 3)).alloc (.cells #[.int .i64 turn] 3)).alloc (.cells #[.int .i64 now] 3)) from ((((Gr.refl w).alloc _).alloc _).alloc _))
  have HT := hid (show ∀ _ : Unit, Calls Tryz.prog 141 _ (((w.alloc (.cells #[.int .i64 ref] 3)).alloc (.cells #[.int .i64 turn] 3)).alloc (.cells #[.int .i64 now] 3)) _ from fun _ =>
    try_any 156 #[.pointer (some ⟨w.heap.size, 0, none⟩), .pointer (some ⟨w.heap.size + 1, 0, none⟩), .pointer (some ⟨w.heap.size + 1 + 1, 0, none⟩)] k F (.slice none 0 0) [] now (missedD ref turn now) M (((w.alloc (.cells #[.int .i64 ref] 3)).alloc (.cells #[.int .i64 turn] 3)).alloc (.cells #[.int .i64 now] 3)) (h.gr G1.out) (fun b e => Nat.lt_of_lt_of_le (hM b e) G1.out.size) hk ((BysM.none _ M).bys) hF.i hF.len (fun _ _ => rfl) fun hr W k' mb' g n1 n2 hfw => by
      obtain ⟨r1, r2, r3⟩ := right_spec hr
      exact cl_missed PUT k' mb' (w.heap.size) (w.heap.size + 1) (w.heap.size + 1 + 1) F ref turn now (plus M k' mb') W hfw hF ((g.block _ (block_lt HB0.out)).trans HB0.out) ((g.block _ (block_lt HB1.out)).trans HB1.out) ((g.block _ (block_lt HB2.out)).trans HB2.out))
  have H := hid h
  clear h hk
  go_enter Tryz.func114, Tryz.ntmps114
  go_wp2_with (first
    | (go_at_call 141; refine (HT.out ()).mono ?_; rintro en w3 ⟨A3, c3, rfl, hf3, ho3, hm3⟩))
  go_ret2
  exact ⟨A3, c3, rfl, hf3, ho3, (G1.out.mod _).trans hm3 (fun _ _ e => e)⟩
set_option maxHeartbeats 2000000 in
theorem lapsed_any (PUT : PutAny) (k : Nat) (F : FS) (ref : Int) (turn : Int) (now : Int) (M : Bl) (w : World) (h : FlowF w M k F) (hM : ∀ b, M b → b < w.heap.size) (hk : M k) (hF : FOk F) :
    Calls Tryz.prog 115 #[.pointer (some ⟨k, 0, none⟩), .int .i64 ref, .int .i64 turn, .int .i64 now] w (RetT M k (tryF F [] now (lapsedD ref turn now)) w) := by
  have b0 := heap_alloc_new w (.cells #[.int .i64 ref] 3)
  have HB0 := hid (((((Gr.refl _).alloc (.cells #[.int .i64 turn] 3)).alloc (.cells #[.int .i64 now] 3)).block _ (block_lt b0)).trans b0)
  clear b0
  have b1 := heap_alloc_new (w.alloc (.cells #[.int .i64 ref] 3)) (.cells #[.int .i64 turn] 3)
  rw [show (w.alloc (.cells #[.int .i64 ref] 3)).heap.size = w.heap.size + 1 by simp] at b1
  have HB1 := hid ((((Gr.refl _).alloc (.cells #[.int .i64 now] 3)).block _ (block_lt b1)).trans b1)
  clear b1
  have b2 := heap_alloc_new ((w.alloc (.cells #[.int .i64 ref] 3)).alloc (.cells #[.int .i64 turn] 3)) (.cells #[.int .i64 now] 3)
  rw [show ((w.alloc (.cells #[.int .i64 ref] 3)).alloc (.cells #[.int .i64 turn] 3)).heap.size = w.heap.size + 1 + 1 by simp] at b2
  have HB2 := hid (((Gr.refl _).block _ (block_lt b2)).trans b2)
  clear b2
  have G1 := hid (show Gr w (((w.alloc (.cells #[.int .i64 ref] 3)).alloc (.cells #[.int .i64 turn] 3)).alloc (.cells #[.int .i64 now] 3)) from ((((Gr.refl w).alloc _).alloc _).alloc _))
  have HT := hid (show ∀ _ : Unit, Calls Tryz.prog 141 _ (((w.alloc (.cells #[.int .i64 ref] 3)).alloc (.cells #[.int .i64 turn] 3)).alloc (.cells #[.int .i64 now] 3)) _ from fun _ =>
    try_any 157 #[.pointer (some ⟨w.heap.size + 1, 0, none⟩), .pointer (some ⟨w.heap.size, 0, none⟩), .pointer (some ⟨w.heap.size + 1 + 1, 0, none⟩)] k F (.slice none 0 0) [] now (lapsedD ref turn now) M (((w.alloc (.cells #[.int .i64 ref] 3)).alloc (.cells #[.int .i64 turn] 3)).alloc (.cells #[.int .i64 now] 3)) (h.gr G1.out) (fun b e => Nat.lt_of_lt_of_le (hM b e) G1.out.size) hk ((BysM.none _ M).bys) hF.i hF.len (fun _ _ => rfl) fun hr W k' mb' g n1 n2 hfw => by
      obtain ⟨r1, r2, r3⟩ := right_spec hr
      exact cl_lapsed PUT k' mb' (w.heap.size + 1) (w.heap.size) (w.heap.size + 1 + 1) F turn ref now (plus M k' mb') W hfw hF ((g.block _ (block_lt HB1.out)).trans HB1.out) ((g.block _ (block_lt HB0.out)).trans HB0.out) ((g.block _ (block_lt HB2.out)).trans HB2.out))
  have H := hid h
  clear h hk
  go_enter Tryz.func115, Tryz.ntmps115
  go_wp2_with (first
    | (go_at_call 141; refine (HT.out ()).mono ?_; rintro en w3 ⟨A3, c3, rfl, hf3, ho3, hm3⟩))
  go_ret2
  exact ⟨A3, c3, rfl, hf3, ho3, (G1.out.mod _).trans hm3 (fun _ _ e => e)⟩
set_option maxHeartbeats 2000000 in
theorem fired_any (PUT : PutAny) (k : Nat) (F : FS) (ref : Int) (turn : Int) (now : Int) (M : Bl) (w : World) (h : FlowF w M k F) (hM : ∀ b, M b → b < w.heap.size) (hk : M k) (hF : FOk F) :
    Calls Tryz.prog 116 #[.pointer (some ⟨k, 0, none⟩), .int .i64 ref, .int .i64 turn, .int .i64 now] w (RetT M k (tryF F [] now (firedD ref turn now)) w) := by
  have b0 := heap_alloc_new w (.cells #[.int .i64 ref] 3)
  have HB0 := hid (((((Gr.refl _).alloc (.cells #[.int .i64 turn] 3)).alloc (.cells #[.int .i64 now] 3)).block _ (block_lt b0)).trans b0)
  clear b0
  have b1 := heap_alloc_new (w.alloc (.cells #[.int .i64 ref] 3)) (.cells #[.int .i64 turn] 3)
  rw [show (w.alloc (.cells #[.int .i64 ref] 3)).heap.size = w.heap.size + 1 by simp] at b1
  have HB1 := hid ((((Gr.refl _).alloc (.cells #[.int .i64 now] 3)).block _ (block_lt b1)).trans b1)
  clear b1
  have b2 := heap_alloc_new ((w.alloc (.cells #[.int .i64 ref] 3)).alloc (.cells #[.int .i64 turn] 3)) (.cells #[.int .i64 now] 3)
  rw [show ((w.alloc (.cells #[.int .i64 ref] 3)).alloc (.cells #[.int .i64 turn] 3)).heap.size = w.heap.size + 1 + 1 by simp] at b2
  have HB2 := hid (((Gr.refl _).block _ (block_lt b2)).trans b2)
  clear b2
  have G1 := hid (show Gr w (((w.alloc (.cells #[.int .i64 ref] 3)).alloc (.cells #[.int .i64 turn] 3)).alloc (.cells #[.int .i64 now] 3)) from ((((Gr.refl w).alloc _).alloc _).alloc _))
  have HT := hid (show ∀ _ : Unit, Calls Tryz.prog 141 _ (((w.alloc (.cells #[.int .i64 ref] 3)).alloc (.cells #[.int .i64 turn] 3)).alloc (.cells #[.int .i64 now] 3)) _ from fun _ =>
    try_any 158 #[.pointer (some ⟨w.heap.size, 0, none⟩), .pointer (some ⟨w.heap.size + 1, 0, none⟩), .pointer (some ⟨w.heap.size + 1 + 1, 0, none⟩)] k F (.slice none 0 0) [] now (firedD ref turn now) M (((w.alloc (.cells #[.int .i64 ref] 3)).alloc (.cells #[.int .i64 turn] 3)).alloc (.cells #[.int .i64 now] 3)) (h.gr G1.out) (fun b e => Nat.lt_of_lt_of_le (hM b e) G1.out.size) hk ((BysM.none _ M).bys) hF.i hF.len (fun _ _ => rfl) fun hr W k' mb' g n1 n2 hfw => by
      obtain ⟨r1, r2, r3⟩ := right_spec hr
      exact cl_fired PUT k' mb' (w.heap.size) (w.heap.size + 1) (w.heap.size + 1 + 1) F ref turn now (plus M k' mb') W hfw hF ((g.block _ (block_lt HB0.out)).trans HB0.out) ((g.block _ (block_lt HB1.out)).trans HB1.out) ((g.block _ (block_lt HB2.out)).trans HB2.out))
  have H := hid h
  clear h hk
  go_enter Tryz.func116, Tryz.ntmps116
  go_wp2_with (first
    | (go_at_call 141; refine (HT.out ()).mono ?_; rintro en w3 ⟨A3, c3, rfl, hf3, ho3, hm3⟩))
  go_ret2
  exact ⟨A3, c3, rfl, hf3, ho3, (G1.out.mod _).trans hm3 (fun _ _ e => e)⟩
set_option maxHeartbeats 2000000 in
theorem workedT_any (PUT : PutAny) (k : Nat) (F : FS) (ref : Int) (d : Value) (data : List UInt8)  (now : Int) (M : Bl) (w : World) (h : FlowF w M k F) (hM : ∀ b, M b → b < w.heap.size) (hk : M k) (hF : FOk F) (hd : BysM w M d data) :
    Calls Tryz.prog 111 #[.pointer (some ⟨k, 0, none⟩), .int .i64 ref, d, .bool true, .int .i64 now] w (RetT M k (workedF F ref data true now) w) := by
  obtain ⟨Ad, cd, rfl⟩ : ∃ A c, d = .slice A data.length c := by
    obtain ⟨A, c, e, _⟩ := hd
    exact ⟨A, c, e⟩
  have b0 := heap_alloc_new w (.cells #[.int .i64 ref] 3)
  have HB0 := hid ((((((Gr.refl _).alloc (.cells #[.slice Ad data.length cd] 22)).alloc (.cells #[.int .i64 now] 3)).alloc (.cells #[.int .i64 9] 3)).block _ (block_lt b0)).trans b0)
  clear b0
  have b1 := heap_alloc_new (w.alloc (.cells #[.int .i64 ref] 3)) (.cells #[.slice Ad data.length cd] 22)
  rw [show (w.alloc (.cells #[.int .i64 ref] 3)).heap.size = w.heap.size + 1 by simp] at b1
  have HB1 := hid (((((Gr.refl _).alloc (.cells #[.int .i64 now] 3)).alloc (.cells #[.int .i64 9] 3)).block _ (block_lt b1)).trans b1)
  clear b1
  have b2 := heap_alloc_new ((w.alloc (.cells #[.int .i64 ref] 3)).alloc (.cells #[.slice Ad data.length cd] 22)) (.cells #[.int .i64 now] 3)
  rw [show ((w.alloc (.cells #[.int .i64 ref] 3)).alloc (.cells #[.slice Ad data.length cd] 22)).heap.size = w.heap.size + 1 + 1 by simp] at b2
  have HB2 := hid ((((Gr.refl _).alloc (.cells #[.int .i64 9] 3)).block _ (block_lt b2)).trans b2)
  clear b2
  have b3 := heap_alloc_new (((w.alloc (.cells #[.int .i64 ref] 3)).alloc (.cells #[.slice Ad data.length cd] 22)).alloc (.cells #[.int .i64 now] 3)) (.cells #[.int .i64 9] 3)
  rw [show (((w.alloc (.cells #[.int .i64 ref] 3)).alloc (.cells #[.slice Ad data.length cd] 22)).alloc (.cells #[.int .i64 now] 3)).heap.size = w.heap.size + 1 + 1 + 1 by simp] at b3
  have HB3 := hid (((Gr.refl _).block _ (block_lt b3)).trans b3)
  clear b3
  have G1 := hid (show Gr w ((((w.alloc (.cells #[.int .i64 ref] 3)).alloc (.cells #[.slice Ad data.length cd] 22)).alloc (.cells #[.int .i64 now] 3)).alloc (.cells #[.int .i64 9] 3)) from (((((Gr.refl w).alloc _).alloc _).alloc _).alloc _))
  have HT := hid (show ∀ _ : Unit, Calls Tryz.prog 141 _ ((((w.alloc (.cells #[.int .i64 ref] 3)).alloc (.cells #[.slice Ad data.length cd] 22)).alloc (.cells #[.int .i64 now] 3)).alloc (.cells #[.int .i64 9] 3)) _ from fun _ =>
    try_any 154 #[.pointer (some ⟨w.heap.size + 1 + 1 + 1, 0, none⟩), .pointer (some ⟨w.heap.size, 0, none⟩), .pointer (some ⟨w.heap.size + 1, 0, none⟩), .pointer (some ⟨w.heap.size + 1 + 1, 0, none⟩)] k F (.slice Ad data.length cd) data now (endsF 9 ref data now) M ((((w.alloc (.cells #[.int .i64 ref] 3)).alloc (.cells #[.slice Ad data.length cd] 22)).alloc (.cells #[.int .i64 now] 3)).alloc (.cells #[.int .i64 9] 3)) (h.gr G1.out) (fun b e => Nat.lt_of_lt_of_le (hM b e) G1.out.size) hk ((hd.up (Gr.up G1.out M)).bys) hF.i hF.len (fun _ _ => rfl) fun hr W k' mb' g n1 n2 hfw => by
      obtain ⟨r1, r2, r3⟩ := right_spec hr
      exact cl_worked PUT k' mb' (w.heap.size + 1 + 1 + 1) (w.heap.size) (w.heap.size + 1) (w.heap.size + 1 + 1) F 9 ref now (.slice Ad data.length cd) data (plus M k' mb') W hfw hF ((g.block _ (block_lt HB3.out)).trans HB3.out) ((g.block _ (block_lt HB0.out)).trans HB0.out) ((g.block _ (block_lt HB1.out)).trans HB1.out) ((g.block _ (block_lt HB2.out)).trans HB2.out) (.inl rfl) ((hd.up (Gr.up (G1.out.trans g) M)).bys) r1)
  have H := hid h
  clear h hk
  go_enter Tryz.func111, Tryz.ntmps111
  go_wp2_with (first
    | (go_at_call 141; refine (HT.out ()).mono ?_; rintro en w3 ⟨A3, c3, rfl, hf3, ho3, hm3⟩))
  go_ret2
  exact ⟨A3, c3, rfl, hf3, ho3, (G1.out.mod _).trans hm3 (fun _ _ e => e)⟩
set_option maxHeartbeats 2000000 in
theorem workedF__any (PUT : PutAny) (k : Nat) (F : FS) (ref : Int) (d : Value) (data : List UInt8)  (now : Int) (M : Bl) (w : World) (h : FlowF w M k F) (hM : ∀ b, M b → b < w.heap.size) (hk : M k) (hF : FOk F) (hd : BysM w M d data) :
    Calls Tryz.prog 111 #[.pointer (some ⟨k, 0, none⟩), .int .i64 ref, d, .bool false, .int .i64 now] w (RetT M k (workedF F ref data false now) w) := by
  obtain ⟨Ad, cd, rfl⟩ : ∃ A c, d = .slice A data.length c := by
    obtain ⟨A, c, e, _⟩ := hd
    exact ⟨A, c, e⟩
  have b0 := heap_alloc_new w (.cells #[.int .i64 ref] 3)
  have HB0 := hid ((((((Gr.refl _).alloc (.cells #[.slice Ad data.length cd] 22)).alloc (.cells #[.int .i64 now] 3)).alloc (.cells #[.int .i64 10] 3)).block _ (block_lt b0)).trans b0)
  clear b0
  have b1 := heap_alloc_new (w.alloc (.cells #[.int .i64 ref] 3)) (.cells #[.slice Ad data.length cd] 22)
  rw [show (w.alloc (.cells #[.int .i64 ref] 3)).heap.size = w.heap.size + 1 by simp] at b1
  have HB1 := hid (((((Gr.refl _).alloc (.cells #[.int .i64 now] 3)).alloc (.cells #[.int .i64 10] 3)).block _ (block_lt b1)).trans b1)
  clear b1
  have b2 := heap_alloc_new ((w.alloc (.cells #[.int .i64 ref] 3)).alloc (.cells #[.slice Ad data.length cd] 22)) (.cells #[.int .i64 now] 3)
  rw [show ((w.alloc (.cells #[.int .i64 ref] 3)).alloc (.cells #[.slice Ad data.length cd] 22)).heap.size = w.heap.size + 1 + 1 by simp] at b2
  have HB2 := hid ((((Gr.refl _).alloc (.cells #[.int .i64 10] 3)).block _ (block_lt b2)).trans b2)
  clear b2
  have b3 := heap_alloc_new (((w.alloc (.cells #[.int .i64 ref] 3)).alloc (.cells #[.slice Ad data.length cd] 22)).alloc (.cells #[.int .i64 now] 3)) (.cells #[.int .i64 10] 3)
  rw [show (((w.alloc (.cells #[.int .i64 ref] 3)).alloc (.cells #[.slice Ad data.length cd] 22)).alloc (.cells #[.int .i64 now] 3)).heap.size = w.heap.size + 1 + 1 + 1 by simp] at b3
  have HB3 := hid (((Gr.refl _).block _ (block_lt b3)).trans b3)
  clear b3
  have G1 := hid (show Gr w ((((w.alloc (.cells #[.int .i64 ref] 3)).alloc (.cells #[.slice Ad data.length cd] 22)).alloc (.cells #[.int .i64 now] 3)).alloc (.cells #[.int .i64 10] 3)) from (((((Gr.refl w).alloc _).alloc _).alloc _).alloc _))
  have HT := hid (show ∀ _ : Unit, Calls Tryz.prog 141 _ ((((w.alloc (.cells #[.int .i64 ref] 3)).alloc (.cells #[.slice Ad data.length cd] 22)).alloc (.cells #[.int .i64 now] 3)).alloc (.cells #[.int .i64 10] 3)) _ from fun _ =>
    try_any 154 #[.pointer (some ⟨w.heap.size + 1 + 1 + 1, 0, none⟩), .pointer (some ⟨w.heap.size, 0, none⟩), .pointer (some ⟨w.heap.size + 1, 0, none⟩), .pointer (some ⟨w.heap.size + 1 + 1, 0, none⟩)] k F (.slice Ad data.length cd) data now (endsF 10 ref data now) M ((((w.alloc (.cells #[.int .i64 ref] 3)).alloc (.cells #[.slice Ad data.length cd] 22)).alloc (.cells #[.int .i64 now] 3)).alloc (.cells #[.int .i64 10] 3)) (h.gr G1.out) (fun b e => Nat.lt_of_lt_of_le (hM b e) G1.out.size) hk ((hd.up (Gr.up G1.out M)).bys) hF.i hF.len (fun _ _ => rfl) fun hr W k' mb' g n1 n2 hfw => by
      obtain ⟨r1, r2, r3⟩ := right_spec hr
      exact cl_worked PUT k' mb' (w.heap.size + 1 + 1 + 1) (w.heap.size) (w.heap.size + 1) (w.heap.size + 1 + 1) F 10 ref now (.slice Ad data.length cd) data (plus M k' mb') W hfw hF ((g.block _ (block_lt HB3.out)).trans HB3.out) ((g.block _ (block_lt HB0.out)).trans HB0.out) ((g.block _ (block_lt HB1.out)).trans HB1.out) ((g.block _ (block_lt HB2.out)).trans HB2.out) (.inr (.inl rfl)) ((hd.up (Gr.up (G1.out.trans g) M)).bys) r1)
  have H := hid h
  clear h hk
  go_enter Tryz.func111, Tryz.ntmps111
  go_wp2_with (first
    | (go_at_call 141; refine (HT.out ()).mono ?_; rintro en w3 ⟨A3, c3, rfl, hf3, ho3, hm3⟩))
  go_ret2
  exact ⟨A3, c3, rfl, hf3, ho3, (G1.out.mod _).trans hm3 (fun _ _ e => e)⟩
set_option maxHeartbeats 2000000 in
theorem childEnds_any (PUT : PutAny) (k : Nat) (F : FS) (id status : Int) (d : Value) (data : List UInt8) (now : Int) (M : Bl) (w : World) (h : FlowF w M k F) (hM : ∀ b, M b → b < w.heap.size) (hk : M k) (hF : FOk F) (hd : BysM w M d data) :
    Calls Tryz.prog 192 #[.pointer (some ⟨k, 0, none⟩), .int .i64 id, .int .i64 status, d, .int .i64 now] w (RetT M k (childEndsF F id status data now) w) := by
  obtain ⟨Ad, cd, rfl⟩ : ∃ A c, d = .slice A data.length c := by
    obtain ⟨A, c, e, _⟩ := hd
    exact ⟨A, c, e⟩
  have b0 := heap_alloc_new w (.cells #[.int .i64 id] 3)
  have HB0 := hid ((((((Gr.refl _).alloc (.cells #[.int .i64 status] 3)).alloc (.cells #[.slice Ad data.length cd] 22)).alloc (.cells #[.int .i64 now] 3)).block _ (block_lt b0)).trans b0)
  clear b0
  have b1 := heap_alloc_new (w.alloc (.cells #[.int .i64 id] 3)) (.cells #[.int .i64 status] 3)
  rw [show (w.alloc (.cells #[.int .i64 id] 3)).heap.size = w.heap.size + 1 by simp] at b1
  have HB1 := hid (((((Gr.refl _).alloc (.cells #[.slice Ad data.length cd] 22)).alloc (.cells #[.int .i64 now] 3)).block _ (block_lt b1)).trans b1)
  clear b1
  have b2 := heap_alloc_new ((w.alloc (.cells #[.int .i64 id] 3)).alloc (.cells #[.int .i64 status] 3)) (.cells #[.slice Ad data.length cd] 22)
  rw [show ((w.alloc (.cells #[.int .i64 id] 3)).alloc (.cells #[.int .i64 status] 3)).heap.size = w.heap.size + 1 + 1 by simp] at b2
  have HB2 := hid ((((Gr.refl _).alloc (.cells #[.int .i64 now] 3)).block _ (block_lt b2)).trans b2)
  clear b2
  have b3 := heap_alloc_new (((w.alloc (.cells #[.int .i64 id] 3)).alloc (.cells #[.int .i64 status] 3)).alloc (.cells #[.slice Ad data.length cd] 22)) (.cells #[.int .i64 now] 3)
  rw [show (((w.alloc (.cells #[.int .i64 id] 3)).alloc (.cells #[.int .i64 status] 3)).alloc (.cells #[.slice Ad data.length cd] 22)).heap.size = w.heap.size + 1 + 1 + 1 by simp] at b3
  have HB3 := hid (((Gr.refl _).block _ (block_lt b3)).trans b3)
  clear b3
  have G1 := hid (show Gr w ((((w.alloc (.cells #[.int .i64 id] 3)).alloc (.cells #[.int .i64 status] 3)).alloc (.cells #[.slice Ad data.length cd] 22)).alloc (.cells #[.int .i64 now] 3)) from (((((Gr.refl w).alloc _).alloc _).alloc _).alloc _))
  have HT := hid (fun (W1 : World) (y : Gr ((((w.alloc (.cells #[.int .i64 id] 3)).alloc (.cells #[.int .i64 status] 3)).alloc (.cells #[.slice Ad data.length cd] 22)).alloc (.cells #[.int .i64 now] 3)) W1) => (show Calls Tryz.prog 141 _ W1 _ from
    try_any 204 #[.pointer (some ⟨w.heap.size, 0, none⟩), .pointer (some ⟨w.heap.size + 1, 0, none⟩), .pointer (some ⟨w.heap.size + 1 + 1 + 1, 0, none⟩), .pointer (some ⟨w.heap.size + 1 + 1, 0, none⟩)] k F (.slice Ad data.length cd) data now (childEndsD id status data now) M W1 (h.gr (G1.out.trans y)) (fun b e => Nat.lt_of_lt_of_le (hM b e) (G1.out.trans y).size) hk ((hd.up (Gr.up (G1.out.trans y) M)).bys) hF.i hF.len (fun _ _ => rfl) fun hr W k' mb' g n1 n2 hfw => by
      obtain ⟨r1, r2, r3⟩ := right_spec hr
      exact cl_childEnds PUT k' mb' (w.heap.size) (w.heap.size + 1) (w.heap.size + 1 + 1 + 1) (w.heap.size + 1 + 1) F id status now (.slice Ad data.length cd) data (plus M k' mb') W hfw hF (((y.trans g).block _ (block_lt HB0.out)).trans HB0.out) (((y.trans g).block _ (block_lt HB1.out)).trans HB1.out) (((y.trans g).block _ (block_lt HB3.out)).trans HB3.out) (((y.trans g).block _ (block_lt HB2.out)).trans HB2.out) ((hd.up (Gr.up ((G1.out.trans y).trans g) M)).bys) r1))
  have H := hid h
  have HN := hid (fun W => numberO_any id W)
  clear h hk
  unfold childEndsF
  cases hn : numB id
  · rw [hn] at HN
    simp only [if_true]
    clear hn
    go_enter Tryz.func192, Tryz.ntmps192
    go_wp2_with (go_at_call 178; (with_reducible refine (HN.out _).mono ?_); rintro en _ ⟨rfl, y1, rfl⟩)
    go_ret2
    exact ⟨none, 0, rfl, H.out.gr (G1.out.ext y1), RecsM.none _ _ _, (G1.out.ext y1).mod _⟩
  · rw [hn] at HN
    simp only [Bool.true_eq_false, if_false]
    clear hn
    go_enter Tryz.func192, Tryz.ntmps192
    go_wp2_with (first
      | (go_at_call 178; (with_reducible refine (HN.out _).mono ?_); rintro en _ ⟨rfl, y1, rfl⟩)
      | (go_at_call 141; refine (HT.out _ y1.gr).mono ?_; rintro en w3 ⟨A3, c3, rfl, hf3, ho3, hm3⟩))
    go_ret2
    exact ⟨A3, c3, rfl, hf3, ho3, ((G1.out.ext y1).mod _).trans hm3 (fun _ _ e => e)⟩
set_option maxHeartbeats 2000000 in
theorem fire_any (PUT : PutAny) (k : Nat) (F : FS) (kind ref turn now : Int) (M : Bl) (w : World) (h : FlowF w M k F) (hM : ∀ b, M b → b < w.heap.size) (hk : M k) (hF : FOk F) :
    Calls Tryz.prog 76 #[.pointer (some ⟨k, 0, none⟩), .int .i64 kind, .int .i64 ref, .int .i64 turn, .int .i64 now] w (RetT M k (fireF F kind ref turn now) w) := by
  have H3 := hid (missed_any PUT k F ref turn now M w h hM hk hF)
  have H4 := hid (lapsed_any PUT k F ref turn now M w h hM hk hF)
  have H5 := hid (fired_any PUT k F ref turn now M w h hM hk hF)
  have H := hid h
  clear h
  unfold fireF
  by_cases h3 : kind = 3
  · subst h3
    simp only [if_true]
    go_enter Tryz.func76, Tryz.ntmps76
    go_wp2_with (first | (go_at_fn 30; refine H3.out.mono ?_; rintro en w3 ⟨A3, c3, rfl, hf3, ho3, hm3⟩) | (go_at_call 114; refine H3.out.mono ?_; rintro en w3 ⟨A3, c3, rfl, hf3, ho3, hm3⟩))
    go_ret2
    exact ⟨A3, c3, rfl, hf3, ho3, hm3⟩
  by_cases h4 : kind = 4
  · subst h4
    rw [if_neg (by decide), if_pos rfl]
    go_enter Tryz.func76, Tryz.ntmps76
    go_wp2_with (first | (go_at_fn 30; refine H4.out.mono ?_; rintro en w3 ⟨A3, c3, rfl, hf3, ho3, hm3⟩) | (go_at_call 115; refine H4.out.mono ?_; rintro en w3 ⟨A3, c3, rfl, hf3, ho3, hm3⟩))
    go_ret2
    exact ⟨A3, c3, rfl, hf3, ho3, hm3⟩
  by_cases h5 : kind = 5
  · subst h5
    rw [if_neg (by decide), if_neg (by decide), if_pos rfl]
    go_enter Tryz.func76, Tryz.ntmps76
    go_wp2_with (first | (go_at_fn 30; refine H5.out.mono ?_; rintro en w3 ⟨A3, c3, rfl, hf3, ho3, hm3⟩) | (go_at_call 116; refine H5.out.mono ?_; rintro en w3 ⟨A3, c3, rfl, hf3, ho3, hm3⟩))
    go_ret2
    exact ⟨A3, c3, rfl, hf3, ho3, hm3⟩
  rw [if_neg h3, if_neg h4, if_neg h5]
  go_enter Tryz.func76, Tryz.ntmps76
  go_wp2_with fail
  go_ret2
  exact ⟨none, 0, rfl, H.out, RecsM.none _ _ _, (Gr.refl w).mod _⟩
theorem cells3c {W : World} {B : Nat} {t : TypeId} {a b c : Value} (h : W.heap[B]? = some (.cells #[a, b, c] t (0, 0))) : W.cell? ⟨B, 0, none⟩ = some a ∧ W.cell? ⟨B, 1, none⟩ = some b ∧ W.cell? ⟨B, 2, none⟩ = some c := by
  refine ⟨?_, ?_, ?_⟩ <;> simp [World.cell?, h]
def plusK (M : Bl) (k : Nat) : Bl := fun b => M b ∨ b = k
theorem FlowR.twinF {w : World} {M : Bl} {k mb : Nat} {F : FS} (h : FlowR w (plus M k mb) k mb F) (hne : k ≠ mb) (hM : ¬ M mb) : FlowF w (plusK M k) k F :=
  ⟨mb, fun e => by rcases e with e | e; exact hM e; exact hne e.symm, h.up ⟨(Gr.refl w).mod _, fun b _ e => by rcases e with e | e; exact .inl e; exact .inr (.inl e)⟩ rfl rfl⟩
theorem FlowF.stay {w : World} {M M' : Bl} {k : Nat} {F : FS} (h : FlowF w M' k F) (hM : ∀ b, M b → M' b) (hk : ¬ M k) : FlowI w M k F := by
  obtain ⟨mb, hmb, h⟩ := h
  exact ⟨hk, mb, fun e => hmb (hM _ e), h.up ⟨(Gr.refl w).mod _, fun b _ e => hM b e⟩ rfl rfl⟩
theorem flowF_set {w : World} {M : Bl} {k B j : Nat} {F : FS} {u : Value} (h : FlowF w M k F) (hB : M B) (hk : k ≠ B) : FlowF (w.setCell ⟨B, j, none⟩ u) M k F := by
  obtain ⟨mb, hmb, h⟩ := h
  have m := mod_set (S := fun b => b = B) ((Gr.refl w).mod _) (b := B) (j := j) (fun _ => rfl) u
  exact ⟨mb, hmb, h.up (Mod.up m (fun b _ e => e ▸ hB)) (m.block k h.lt.1 hk) (m.block mb h.lt.2 (fun e => hmb (e ▸ hB)))⟩
def plusB (M : Bl) (w : World) : Bl := fun b => M b ∨ b = w.heap.size
theorem gr_k {a w w' : World} {k : Nat} (g : Gr a w) (m : Mod (fun b => b = k) w w') (hk : a.heap.size ≤ k) : Gr a w' :=
  ⟨m.os.trans g.os, m.tape.trans g.tape, m.output.trans g.output, Nat.le_trans g.size m.size, fun b hb => (m.block b (Nat.lt_of_lt_of_le hb g.size) (by omega)).trans (g.block b hb)⟩
theorem up_newB {M : Bl} {w W : World} (g : Gr w W) : Up M w (plusB M w) W := ⟨g.mod M, fun b hb h => by
  rcases h with h | h
  · exact h
  · omega⟩
set_option maxHeartbeats 4000000 in
theorem ends_any (PUT : PutAny) (k : Nat) (E : ES) (id now child status : Int) (d : Value) (data : List UInt8) (M S : Bl) (w : World) (h : EngR w M S k E) (hE : EOk E) (hdue : E.due.length ≤ 999000) (r : RunS) (hr : lk E.runs id = some r) (hd : BysM w M d data) :
    Calls Tryz.prog 162 #[.pointer (some ⟨k, 0, none⟩), .int .i64 id, .int .i64 now, .int .i64 child, .int .i64 status, d] w (RetS M S k (endsE E id now child status data) (.bool true) vF w) := by
  obtain ⟨kd, ka, md, ma, mr, kh, hv, hP⟩ := h
  have H := hid hP
  obtain ⟨e0, e1, e2, e3, e4, e5, e6, hkl⟩ := hP.cells
  rcases hP.look id false with ⟨hn, _⟩ | ⟨r', kf, hr', hf, hlk'⟩
  · rw [hr] at hn; cases hn
  rw [hr] at hr'
  injection hr' with hr'
  subst hr'
  have hlk := hlk' w (Gr.refl w)
  simp only [Bool.false_eq_true, if_false, runV] at hlk
  obtain ⟨_, mb, _, hfr⟩ := hf
  have HFOK := hid (hE.get hr)
  have HD := hid hd
  obtain ⟨Ad, cd, rfl⟩ := hd.shape
  have HTW := hid (fun (W : World) (g : Gr w W) (hs : w.heap.size < W.heap.size) => twin_any kf mb r.f (plusB M w) W (hfr.up (up_newB g) (g.block _ hfr.lt.1) (g.block _ hfr.lt.2)) (fun b e => by rcases e with e | e; exact Nat.lt_of_lt_of_le (H.out.lt b e) g.size; exact e ▸ hs))
  have hg := good_childEnds child status data now
  obtain ⟨x, hx⟩ : ∃ x, childEndsF r.f child status data now = x := ⟨_, rfl⟩
  have hfk := hg.ok r.f HFOK.out.1
  have hol := childEnds_outs child status data now r.f
  have hokk := childEnds_kind r.f child status data now
  rw [hx] at hfk hol hokk
  have HEN := hid (show endsE E id now child status data = (if x.2.2 = 0 then outs0 { E with runs := up E.runs id { r with f := x.1 } } id r.f.run x.2.1 else if x.2.2 = 4 then none else some E) by
    unfold endsE; rw [hr]; simp only; rw [hx])
  rw [HEN.out]
  have HX := hid hx
  have HFK := hid hfk
  have HOL := hid hol
  have HOK := hid hokk
  rcases x with ⟨F', os, ec⟩
  simp only at HFK HOL HOK ⊢
  clear hP hlk' hfr hr hd hx hfk hol hokk HEN hg
  obtain ⟨R, hR⟩ : ∃ R, outs0 { E with runs := up E.runs id ⟨F', r.pf, r.pr⟩ } id r.f.run os = R := ⟨_, rfl⟩
  have HR := hid hR
  have hgoal : ∀ X, (if ec = 0 then R else if ec = 4 then none else some E) = X → Calls Tryz.prog 162 #[.pointer (some ⟨k, 0, none⟩), .int .i64 id, .int .i64 now, .int .i64 child, .int .i64 status, .slice Ad data.length cd] w (RetS M S k X (.bool true) vF w) := by
    intro X hX
    have HXX := hid hX
    clear hX hR
    go_enter Tryz.func162, Tryz.ntmps162
    go_upto_region 4 with (first
      | (go_at_call 75
         go_loud ((refine (HTW.out _ ((Gr.refl w).alloc _) (by simp)).mono ?_; rintro en w2 ⟨k', mb', rfl, hk', hmb', hne', g2, hr2, hM2⟩; have HR2 := hid hr2; have G2 := hid g2; have HB2 := hid ((g2.block w.heap.size (by simp)).trans (heap_alloc_new w _)); have fz := frozen_of (j := 0) HB2.out; obtain ⟨p0, p1, p2⟩ := cells3c HB2.out; have hb2 := block_lt HB2.out; have hks : w.heap.size < k' := (by simp at hk'; omega); have hmbs : w.heap.size < mb' := (by simp at hmb'; omega); clear hr2 g2 hM2 hk' hmb')))
      | (go_at_call 192
         have g3 : Gr w (w2.setCell ⟨w.heap.size, 0, none⟩ (.pointer (some ⟨k', 0, none⟩))) := (((Gr.refl w).alloc _).trans G2.out).set (p := ⟨w.heap.size, 0, none⟩) (Nat.le_refl _) _
         have hs3 : (w2.setCell ⟨w.heap.size, 0, none⟩ (.pointer (some ⟨k', 0, none⟩))).heap.size = w2.heap.size := by simp [World.setCell]
         have hkn : ¬ M k' := fun e => by have := H.out.lt k' e; omega
         have hmn : ¬ M mb' := fun e => by have := H.out.lt mb' e; omega
         have hff := HR2.out.twinF hne' (fun e => by rcases e with e | e; exact hmn e; omega)
         have hff3 : FlowF (w2.setCell ⟨w.heap.size, 0, none⟩ (.pointer (some ⟨k', 0, none⟩))) (plusK (plusB M w) k') k' r.f := flowF_set hff (.inl (.inr rfl)) (by omega)
         have hlt3 : ∀ b, plusK (plusB M w) k' b → b < (w2.setCell ⟨w.heap.size, 0, none⟩ (.pointer (some ⟨k', 0, none⟩))).heap.size := fun b e => by
           rcases e with (e | e) | e
           · exact Nat.lt_of_lt_of_le (H.out.lt b e) g3.size
           · rw [e, hs3]; exact hb2
           · rw [e, hs3]; exact HR2.out.lt.1
         have hd3 : BysM (w2.setCell ⟨w.heap.size, 0, none⟩ (.pointer (some ⟨k', 0, none⟩))) (plusK (plusB M w) k') (.slice Ad data.length cd) data := HD.out.up ⟨g3.mod M, fun b hb e => by
           rcases e with (e | e) | e
           · exact e
           · omega
           · omega⟩
         have hcall := childEnds_any PUT k' r.f child status _ data now (plusK (plusB M w) k') _ hff3 hlt3 (.inr rfl) HFOK.out.1 hd3
         rw [HX.out] at hcall
         refine hcall.mono ?_
         rintro en w4 ⟨A4, c4, rfl, hf4, ho4, hm4⟩
         have HFI := hid (hf4.stay (M := M) (fun b e => .inl (.inl e)) hkn)
         have HREC := hid (ho4.up (up_lessN w4 (M := M) (M' := plusK (plusB M w) k') (fun b e => .inl (.inl e))))
         have G4 := hid (gr_k g3 hm4 (by omega))
         have HB4 := hid ((hm4.block w.heap.size (by rw [hs3]; exact hb2) (by show ¬ w.heap.size = k'; omega)).trans (set1_heap HB2.out (j := 0) _))
         clear hf4 ho4 hm4 hff hff3 g3 hs3 hcall hd3 hlt3))
    obtain ⟨p0, p1, p2⟩ := cells3c HB4.out
    have hl4 := block_lt HB4.out
    have P4 := hid (H.out.gr G4.out)
    obtain ⟨_, _, _, _, _, f5, _, hk4⟩ := P4.out.cells
    obtain ⟨kv, hmi, hrel⟩ := P4.out.r
    have HMI := hid hmi
    have HREL := hid hrel
    clear hmi hrel
    have HRN := hid HFK.out.2.2
    have HNX := hid (nx_run (E := E) (id := id) (r := ⟨F', r.pf, r.pr⟩) (fun _ => ⟨HFK.out.1, HFK.out.2.1.trans HFOK.out.2⟩))
    by_cases h0 : ec = 0
    · subst h0
      have hxr := HXX.out
      simp only [if_true] at hxr
      subst hxr
      cases R with
      | none =>
        go_wp2_with fail
        refine wp_region_planM [(0, false), (1, false), (2, false), (3, false), (4, false), (5, false), (6, true)] (fun W => Gr w4 W) (by kernel_rfl) (by kernel_rfl) (fun _ _ d _ _ h => by cases d <;> exact h) (Gr.refl w4).drew (fun _ => ?_)
        iterate 6 (refine pm_take (v := ?_) rfl (by rfl) ?_ ?_; rotate_left; (focus (intro W9 hW9; obtain ⟨x9, rfl⟩ : ∃ x : Ext w4, W9 = x.val := ⟨⟨W9, hW9⟩, rfl⟩; go_simp; (try with_reducible rfl); done)); (try simp only [AP]))
        refine pm_last rfl (by rfl) (fun K hK => ?_)
        refine opwp_mapUpdate _ _ _ _ 76 rfl 3 109 Tryz.underlying76 Tryz.underlying3 mr kv id (runV k' r.pf r.pr) (by rfl) (HMI.out.gr (Gr.refl w4).drew) (by rfl) (by rfl) ?_
        intro w7 hmi7 hm7
        have P7 := hid ((P4.out.gr (Gr.refl w4).drew).putRun hm7 (HREL.out.mono fun a v hr => hr.up (Gr.up (Gr.refl w4).drew M)) hmi7 (HFI.out.up (Gr.up (Gr.refl w4).drew M)))
        have AL := hid (show Along w M S w7 M S from ⟨(G4.out.drew.mod S).trans hm7 (fun b _ e => e ▸ H.out.smr), fun _ _ e => e, fun _ _ e => e, fun _ e => e⟩)
        have HREC7 := hid (HREC.out.up ((Gr.up (Gr.refl w4).drew M).trans (Mod.up hm7 (fun b _ e => e ▸ H.out.SM _ H.out.smr))))
        have HOUT := hid (outs0_any k { E with runs := up E.runs id ⟨F', r.pf, r.pr⟩ } id now os _ M S w7 P7.out (HNX.out.ok hE) ⟨F', r.pf, r.pr⟩ (lk_up_same _ _ _) HREC7.out (by have := HOL.out; simp; omega) (fun o ho => by have := HOK.out o ho; omega))
        simp only [HRN.out] at HOUT
        rw [HR.out] at HOUT
        refine hK.out _ _ ?_
        clear hK K hmi7 hm7
        go_wp2_with (go_at_call 77; go_loud ((refine HOUT.out.mono ?_; intro en w9 hret; rcases hret.cases with ⟨_, v9, hen, hv9, hm9⟩ | ⟨E9, M9, S9, e9, _⟩; rotate_left; (cases e9); have hv9' : v9 = .bool false := hv9; subst hv9'; subst hen; have HM9 := hid hm9; clear hret hm9 hv9)))
        go_ret
        exact RetS.none_ AL.out HM9.out rfl
      | some E' =>
        go_wp2_with fail
        refine wp_region_planM [(0, false), (1, false), (2, false), (3, false), (4, false), (5, false), (6, true)] (fun W => Gr w4 W) (by kernel_rfl) (by kernel_rfl) (fun _ _ d _ _ h => by cases d <;> exact h) (Gr.refl w4).drew (fun _ => ?_)
        iterate 6 (refine pm_take (v := ?_) rfl (by rfl) ?_ ?_; rotate_left; (focus (intro W9 hW9; obtain ⟨x9, rfl⟩ : ∃ x : Ext w4, W9 = x.val := ⟨⟨W9, hW9⟩, rfl⟩; go_simp; (try with_reducible rfl); done)); (try simp only [AP]))
        refine pm_last rfl (by rfl) (fun K hK => ?_)
        refine opwp_mapUpdate _ _ _ _ 76 rfl 3 109 Tryz.underlying76 Tryz.underlying3 mr kv id (runV k' r.pf r.pr) (by rfl) (HMI.out.gr (Gr.refl w4).drew) (by rfl) (by rfl) ?_
        intro w7 hmi7 hm7
        have P7 := hid ((P4.out.gr (Gr.refl w4).drew).putRun hm7 (HREL.out.mono fun a v hr => hr.up (Gr.up (Gr.refl w4).drew M)) hmi7 (HFI.out.up (Gr.up (Gr.refl w4).drew M)))
        have AL := hid (show Along w M S w7 M S from ⟨(G4.out.drew.mod S).trans hm7 (fun b _ e => e ▸ H.out.smr), fun _ _ e => e, fun _ _ e => e, fun _ e => e⟩)
        have HREC7 := hid (HREC.out.up ((Gr.up (Gr.refl w4).drew M).trans (Mod.up hm7 (fun b _ e => e ▸ H.out.SM _ H.out.smr))))
        have HOUT := hid (outs0_any k { E with runs := up E.runs id ⟨F', r.pf, r.pr⟩ } id now os _ M S w7 P7.out (HNX.out.ok hE) ⟨F', r.pf, r.pr⟩ (lk_up_same _ _ _) HREC7.out (by have := HOL.out; simp; omega) (fun o ho => by have := HOK.out o ho; omega))
        simp only [HRN.out] at HOUT
        rw [HR.out] at HOUT
        refine hK.out _ _ ?_
        clear hK K hmi7 hm7
        go_wp2_with (go_at_call 77; go_loud ((refine HOUT.out.mono ?_; intro en w9 hret; rcases hret.cases with ⟨e9, _⟩ | ⟨E9, M9, S9, e9, hen, he9, ha9⟩; (cases e9); injection e9 with e9; subst e9; subst hen; have HE9 := hid he9; have HA9 := hid ha9; clear hret he9 ha9)))
        go_ret
        exact RetS.some_ (AL.out.trans HA9.out) HE9.out
    by_cases h4 : ec = 4
    · subst h4
      have hxr := HXX.out
      simp only [show ¬ (4 : Int) = 0 by decide, if_false, if_true] at hxr
      subst hxr
      go_wp2_with fail
      go_ret
      exact RetS.full (G4.out.mod S) rfl
    · have hxr := HXX.out
      rw [if_neg h0, if_neg h4] at hxr
      subst hxr
      go_wp2_with fail
      go_ret
      exact RetS.done ⟨kd, ka, md, ma, mr, kh, hv, P4.out⟩ (G4.out.mod S)
  have hg2 := hgoal _ rfl
  rw [← HR.out] at hg2
  exact hg2
theorem cells8 {W : World} {B : Nat} {t : TypeId} {a b c d e f g h : Value} (hh : W.heap[B]? = some (.cells #[a, b, c, d, e, f, g, h] t (0, 0))) : W.cell? ⟨B, 0, none⟩ = some a ∧ W.cell? ⟨B, 1, none⟩ = some b ∧ W.cell? ⟨B, 2, none⟩ = some c ∧ W.cell? ⟨B, 3, none⟩ = some d ∧ W.cell? ⟨B, 4, none⟩ = some e ∧ W.cell? ⟨B, 5, none⟩ = some f ∧ W.cell? ⟨B, 6, none⟩ = some g ∧ W.cell? ⟨B, 7, none⟩ = some h := by
  refine ⟨?_, ?_, ?_, ?_, ?_, ?_, ?_, ?_⟩ <;> simp [World.cell?, hh]
set_option maxHeartbeats 4000000 in
theorem child_any (PUT : PutAny) (k : Nat) (E : ES) (id n now : Int) (o : Out) (d : Value) (M S : Bl) (w : World) (h : EngR w M S k E) (hE : EOk E) (hdue : E.due.length ≤ 999000) (r : RunS) (hr : lk E.runs id = some r) (hd : BysM w M d o.data) :
    Calls Tryz.prog 160 #[.pointer (some ⟨k, 0, none⟩), .int .i64 id, .int .i64 n, .int .i64 now, outV o d] w (RetS M S k (childE E id n now o) (.bool true) vF w) := by
  have H := hid h
  have HIO := hid (fun (W : World) (g : Gr w W) => isOpen_any k E o.id M S W (h.gr g) hE)
  have HEN := hid (fun (W : World) (g : Gr w W) => ends_any PUT k E id now o.id 0 (.slice none 0 0) [] M S W (h.gr g) hE hdue r hr (BysM.none W M))
  have HBG := hid (fun (W : World) (g : Gr w W) => begin_any PUT k E o.id o.list o.n d o.data id n now M S W (h.gr g) hE hdue (hd.up (Gr.up g M)))
  obtain ⟨Ad, cd, rfl⟩ := hd.shape
  unfold childE
  rcases o with ⟨ok, ol, or_, ot, oa, oi, on, od⟩
  simp only [outV] at *
  clear h hr hd
  generalize od.length = dl at *
  obtain ⟨N, hN⟩ : ∃ N, nextE E oi = N := ⟨_, rfl⟩
  rw [hN] at HBG
  clear hN
  cases hio : isOpenE E oi
  · rw [hio] at HIO
    simp only [Bool.false_eq_true, if_false]
    clear hio
    obtain ⟨R, hR⟩ : ∃ R, (beginF E oi ol on od id n now).map (·.1) = R := ⟨_, rfl⟩
    rw [hR] at HBG ⊢
    clear hR
    cases R with
    | none =>
      go_enter Tryz.func160, Tryz.ntmps160
      go_wp2_with (first
        | (go_at_call 99
           refine (HIO.out _ ((Gr.refl w).alloc _)).mono ?_
           rintro en _ ⟨rfl, y1, rfl⟩
           have G1 := hid (((Gr.refl w).alloc _).ext y1)
           have HB := (y1.gr.block w.heap.size (by simp)).trans (heap_alloc_new w _)
           obtain ⟨b0, b1, b2, b3, b4, b5, b6, b7⟩ := cells8 HB
           have hbl := block_lt HB
           clear HB)
        | (go_at_call 100
           refine (HBG.out _ G1.out).mono ?_
           intro en w3 hret
           rcases (hret.grow G1.out).cases with ⟨_, v9, hen, hv9, hm9⟩ | ⟨E9, M9, S9, e9, _⟩
           rotate_left
           · cases e9
           obtain ⟨x9, rfl⟩ := hv9
           subst hen
           have HM9 := hid hm9
           clear hret hm9))
      go_ret
      exact RetS.full HM9.out rfl
    | some E' =>
      go_enter Tryz.func160, Tryz.ntmps160
      go_wp2_with (first
        | (go_at_call 99
           refine (HIO.out _ ((Gr.refl w).alloc _)).mono ?_
           rintro en _ ⟨rfl, y1, rfl⟩
           have G1 := hid (((Gr.refl w).alloc _).ext y1)
           have HB := (y1.gr.block w.heap.size (by simp)).trans (heap_alloc_new w _)
           obtain ⟨b0, b1, b2, b3, b4, b5, b6, b7⟩ := cells8 HB
           have hbl := block_lt HB
           clear HB)
        | (go_at_call 100
           refine (HBG.out _ G1.out).mono ?_
           intro en w3 hret
           rcases (hret.grow G1.out).cases with ⟨e9, _⟩ | ⟨E9, M9, S9, e9, hen, he9, ha9⟩
           · cases e9
           injection e9 with e9
           subst e9
           subst hen
           have HE9 := hid he9
           have HA9 := hid ha9
           clear hret he9 ha9))
      go_ret
      exact RetS.some_ HA9.out HE9.out
  · rw [hio] at HIO
    simp only [if_true]
    clear hio
    obtain ⟨R, hR⟩ : ∃ R, endsE E id now oi 0 [] = R := ⟨_, rfl⟩
    rw [hR] at HEN ⊢
    clear hR
    go_enter Tryz.func160, Tryz.ntmps160
    go_wp2_with (first
      | (go_at_call 99
         refine (HIO.out _ ((Gr.refl w).alloc _)).mono ?_
         rintro en _ ⟨rfl, y1, rfl⟩
         have G1 := hid (((Gr.refl w).alloc _).ext y1)
         have HB := (y1.gr.block w.heap.size (by simp)).trans (heap_alloc_new w _)
         obtain ⟨b0, b1, b2, b3, b4, b5, b6, b7⟩ := cells8 HB
         have hbl := block_lt HB
         clear HB)
      | (go_at_call 162
         refine (HEN.out _ G1.out).mono ?_
         intro en w3 hret
         obtain ⟨b9, rfl⟩ : ∃ b9, en = .returned (.bool b9) := by
           rcases hret.cases with ⟨_, v9, hen, hv9, _⟩ | ⟨E9, M9, S9, e9, hen, _⟩
           · exact ⟨false, by rw [hen, show v9 = .bool false from hv9]⟩
           · exact ⟨true, hen⟩
         have HRT := hid (hret.grow G1.out)
         clear hret))
    go_ret
    exact HRT.out
set_option maxHeartbeats 4000000 in
theorem out_k6 (PUT : PutAny) (k : Nat) (E : ES) (id n now : Int) (o : Out) (d : Value) (M S : Bl) (w : World) (h : EngR w M S k E) (hE : EOk E) (hdue : E.due.length ≤ 999000) (r : RunS) (hr : lk E.runs id = some r) (hd : BysM w M d o.data) (hk : o.kind = 6) :
    Calls Tryz.prog 117 #[.pointer (some ⟨k, 0, none⟩), .int .i64 id, .int .i64 n, .int .i64 now, outV o d] w (RetS M S k (outE E id n now o) (.bool true) vF w) := by
  have HCH := hid (fun (W : World) (g : Gr w W) => child_any PUT k E id n now o d M S W (h.gr g) hE hdue r hr (hd.up (Gr.up g M)))
  obtain ⟨Ad, cd, rfl⟩ := hd.shape
  have HO := hid (show outE E id n now o = childE E id n now o by unfold outE; rw [if_neg (by omega), if_pos hk])
  rw [HO.out]
  obtain ⟨R, hR⟩ : ∃ R, childE E id n now o = R := ⟨_, rfl⟩
  rw [hR] at HCH ⊢
  clear hR HO
  rcases o with ⟨ok, ol, or_, ot, oa, oi, on, od⟩
  simp only at hk
  subst hk
  simp only [outV] at *
  clear h hr hd
  generalize od.length = dl at *
  have G1 := hid ((Gr.refl w).alloc (.cells #[.int .i64 6, .int .i64 ol, .int .i64 or_, .int .i64 ot, .int .i64 oa, .int .i64 oi, .int .i64 on, .slice Ad dl cd] 188))
  go_enter Tryz.func117, Tryz.ntmps117
  go_wp2_with (go_at_call 160
               refine (HCH.out _ G1.out).mono ?_
               intro en w3 hret
               obtain ⟨b9, rfl⟩ : ∃ b9, en = .returned (.bool b9) := by
                 rcases hret.cases with ⟨_, v9, hen, hv9, _⟩ | ⟨E9, M9, S9, e9, hen, _⟩
                 · exact ⟨false, by rw [hen, show v9 = .bool false from hv9]⟩
                 · exact ⟨true, hen⟩
               have HRT := hid (hret.grow G1.out)
               clear hret)
  go_ret
  exact HRT.out
end Go.Proofs.YtniknicnnaiilaaGreat
end
