import Derived.Test.YtkgmienjioplaaaB1
import Derived.Test.YtkgmienjioplaaaW11
namespace Go.Proofs.Ytkgmienjioplaaa
open Go.RowKit Go.Shelf Go.Ext
attribute [local go_sem] Oper.semAt_some
attribute [local go_sem] Ext.cell Ext.frozen Ext.lt Ext.le s1 s2 s3 s4 s5 s6 t1 t2 t3 t4 t5 t6

section
variable {base : Nat} {w w' : World} {g kb : Nat} {off : Bool} {armed : Int} {keep : Value} {S sz : Nat} {K : List UInt8} {P : List Ent} {pend : Value} {writes : Int} {n : Nat}

set_option maxRecDepth 100000 in
set_option maxHeartbeats 2000000 in
theorem read_bad (i : Int) (h : DkAt base w g kb off armed keep S sz K P pend writes) (hbad : chk off S i true ≠ 0) :
    Calls Try.prog 13 #[.pointer (some ⟨g, 0, none⟩), .int .i64 i] w (RetE (.tuple #[.slice none 0 0, .int .i64 (chk off S i true)]) w) := by
  refine retE ?_
  have H := hid h
  have CK := fun (W : World) (hg : Gr w W) => hid (check_any S i true (h.gr hg).db rfl (by have := h.z1; omega) h.max)
  clear h
  generalize chk off S i true = r at *
  have hr1 : (r == 0) = false := by simpa using hbad
  refine (callsIn_wide (n := 6)).1 ?_
  refine callsIn_of_wp_marks Try.func13 rfl trivial ?_ rfl
  simp only [Try.ntmps13, List.size_toArray, List.length_cons, List.length_nil, Nat.reduceAdd, Nat.reduceSub, Array.replicate_succ, Array.replicate_zero, List.push_toArray, List.append_toArray, List.nil_append, List.cons_append]
  gi_wp2_with (refine ⟨trivial, ?_⟩; gi_at_call 29; refine (callsIn_wide.2 (CK _ (((Gr.refl w).alloc _ |>.alloc _).alloc _)).out).mono ?_; rintro e _ ⟨rfl, y1, rfl⟩)
  have hz := y1.gr.size
  simp at hz
  refine ⟨.tuple #[.slice none 0 0, .int .i64 r], ?_, rfl, ?_⟩
  · simp [results, Try.f13, go_sem]
  · exact (((((Gr.refl w).alloc _).alloc _).alloc _).trans y1.gr |>.set (by simp <;> omega) _).set (by simp <;> omega) _
end
end Go.Proofs.Ytkgmienjioplaaa
