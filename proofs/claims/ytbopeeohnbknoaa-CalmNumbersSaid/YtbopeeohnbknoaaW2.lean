import Derived.Test.YtbopeeohnbknoaaW1
namespace Go.Proofs.Ytbopeeohnbknoaa
open Go.RowKit Go.Ext Go.BigFrame
attribute [local go_sem] Ext.cell Ext.frozen Ext.lt Ext.le s1 s2 s3 s4 s5 s6 t1 t2 t3 t4 t5 t6

theorem shape_any (w : World) :
    Calls Try.prog 12 #[] w (RetE (.agg #[.int .i64 0, .int .i64 3, .int .i64 1, .int .i64 20, .int .i64 3, .int .i64 6, .int .i64 1, .int .i64 10, .int .i64 400, .int .u64 3]) w) := by
  refine retE ?_
  go_enter Try.func12, Try.ntmps12
  go_wp2
  exact bodyPost_ret (v := .agg #[.int .i64 0, .int .i64 3, .int .i64 1, .int .i64 20, .int .i64 3, .int .i64 6, .int .i64 1, .int .i64 10, .int .i64 400, .int .u64 3]) (by simp [results, Try.results12, go_sem]) rfl ⟨rfl, (Gr.refl _).alloc _⟩

theorem least_some (l : List String) (h : l ≠ []) : ∃ m, Instr.least l = some m := by
  cases l with
  | nil => exact absurd rfl h
  | cons a r => exact ⟨_, rfl⟩
theorem least_or (p : String → Bool) (f : String → String) (l : List String) (hm : l ≠ []) :
    ∃ m, (Instr.least (l.filter fun x => !p x) <|> Instr.least ((l.filter p).map f)) = some m := by
  by_cases h1 : l.filter (fun x => !p x) = []
  · have h2 : l.filter p ≠ [] := by
      cases l with
      | nil => exact absurd rfl hm
      | cons a r => cases hb : p a <;> simp [hb] at h1 ⊢
    obtain ⟨m, hmm⟩ := least_some ((l.filter p).map f) (by simpa using h2)
    exact ⟨m, by rw [h1, hmm]; rfl⟩
  · obtain ⟨m, hmm⟩ := least_some _ h1
    exact ⟨m, by rw [hmm]; rfl⟩
theorem missing_some (want : Array (String × TypeId)) (got : Array Method) (h : (want.toList.filter fun (name, sig) => !got.any fun m => m.name == name && m.sig == sig) ≠ []) : ∃ m, Instr.missingMethod want got = some m := by
  unfold Instr.missingMethod
  simp only [List.partition_eq_filter_filter]
  exact least_or _ _ _ (by simpa using h)

/-- An assertion to an interface that a type does not meet. -/
theorem run_assert_no {P : Program} {t s x : TypeId} {v z : Value} {want : Array (String × TypeId)} {i j : TypeInfo} (hu : P.underlying s = some (.interface want)) (hi : P.info? t = some i) (hj : P.info? s = some j) (hz : j.zero = some z)
    (h : (want.toList.filter fun (name, sig) => !i.methods.any fun m => m.name == name && m.sig == sig) ≠ []) (w : World) :
    (Instr.typeAssert (.iface t v) x s true).run P w = .ok (.tuple #[z, .bool false]) w := by
  obtain ⟨m, hm⟩ := missing_some want i.methods h
  simp [Instr.typeAssert, run_underlying hu, typeInfo, hi, hm, zeroValue, hj, hz]

theorem ifc43 : Try.prog.underlying 43 = some (.interface #[("Held", 26)]) := by kernel_rfl
theorem info43 : (Try.prog.info? 43).map (fun i => i.zero) = some (some .nilIface) := by kernel_rfl
theorem info3m : (Try.prog.info? 3).map (fun i => i.methods) = some #[] := by kernel_rfl
theorem info23m : (Try.prog.info? 23).map (fun i => i.methods) = some #[] := by kernel_rfl
theorem ta_no {t : TypeId} (ht : (Try.prog.info? t).map (fun i => i.methods) = some #[]) (v : Value) (w : World) : (Instr.typeAssert (.iface t v) 20 43 true).run Try.prog w = .ok (.tuple #[.nilIface, .bool false]) w := by
  obtain ⟨i, hi, hm⟩ := Option.map_eq_some_iff.1 ht
  obtain ⟨j, hj, hz⟩ := Option.map_eq_some_iff.1 info43
  exact run_assert_no ifc43 hi hj hz (by rw [hm]; simp) w
theorem quiet_int (n : Int) (w : World) : Calls Try.prog 11 #[.iface 3 (.int .i64 n)] w (RetE (.bool false) w) := by
  refine retE_same ?_
  have h := fun (n : Int) => ta_no info3m (.int .i64 n)
  go_enter Try.func11, Try.ntmps11
  go_wp2
  go_ret
  exact ⟨rfl, rfl⟩
theorem quiet_load (c : Value) (w : World) : Calls Try.prog 11 #[.iface 23 c] w (RetE (.bool false) w) := by
  refine retE_same ?_
  have h := ta_no info23m
  go_enter Try.func11, Try.ntmps11
  go_wp2
  go_ret
  exact ⟨rfl, rfl⟩
theorem ta_nil (w : World) : (Instr.typeAssert .nilIface 20 43 true).run Try.prog w = .ok (.tuple #[.nilIface, .bool false]) w := by kernel_rfl
theorem ta_held (b : Bool) (w : World) : (Instr.typeAssert (.iface 38 (.bool b)) 20 43 true).run Try.prog w = .ok (.tuple #[.iface 38 (.bool b), .bool true]) w := by kernel_rfl
theorem me_held (b : Bool) (w : World) : (method 162 38 (.bool b) "Held").run Try.prog w = .ok (28, .bool b) w := by kernel_rfl

theorem quiet_nil (w : World) : Calls Try.prog 11 #[.nilIface] w (RetE (.bool false) w) := by
  refine retE_same ?_
  have h := ta_nil
  go_enter Try.func11, Try.ntmps11
  go_wp2
  go_ret
  exact ⟨rfl, rfl⟩
theorem quiet_held (b : Bool) (w : World) : Calls Try.prog 11 #[.iface 38 (.bool b)] w (RetE (.bool b) w) := by
  refine retE_same ?_
  have h := ta_held
  have h2 := me_held
  go_enter Try.func11, Try.ntmps11
  go_wp2
  go_ret
  exact ⟨rfl, rfl⟩
end Go.Proofs.Ytbopeeohnbknoaa
