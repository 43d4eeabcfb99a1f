import Derived.Test.YtkgmienjioplaaaW5
namespace Go.Proofs.Ytkgmienjioplaaa
open Go.RowKit Go.Ext Go.BigFrame
attribute [local go_sem] Ext.cell Ext.frozen Ext.lt Ext.le s1 s2 s3 s4 s5 s6 t1 t2 t3 t4 t5 t6
attribute [local go_sem ↓] Go.wp_at_zero Go.wp_at_succ

/-- A disk: its block, its sectors' bytes, its pending writes. -/
structure DkAt (base : Nat) (w : World) (g kb : Nat) (off : Bool) (armed : Int) (keep : Value) (S sz : Nat) (K : List UInt8) (P : List Ent) (pend : Value) (writes : Int) : Prop where
  db : DB w g kb off armed keep sz (S * sz) pend writes
  kept : KB w kb K
  size : K.length = S * sz
  s1 : 1 ≤ S
  s2 : S ≤ 16384
  z1 : 64 ≤ sz
  z2 : sz ≤ 1024
  row : OwnE kb base base w pend P
  len : P.length ≤ 4398046511103
  sect : ∀ j, j < P.length → 0 ≤ (P.getD j (0, [])).1 ∧ (P.getD j (0, [])).1 < S ∧ (P.getD j (0, [])).2.length = sz
  ne : kb ≠ g
  lg : base ≤ g
  lk : base ≤ kb
section
variable {base : Nat} {w w' : World} {g kb : Nat} {off : Bool} {armed : Int} {keep : Value} {S sz : Nat} {K : List UInt8} {P : List Ent} {pend : Value} {writes : Int}
theorem DkAt.max (h : DkAt base w g kb off armed keep S sz K P pend writes) : S * sz ≤ 16777216 := Nat.mul_le_mul h.s2 h.z2
theorem DkAt.gr (h : DkAt base w g kb off armed keep S sz K P pend writes) (k : Gr w w') : DkAt base w' g kb off armed keep S sz K P pend writes :=
  ⟨h.db.gr k, (k.block kb (Array.getElem?_eq_some_iff.1 h.kept).1).trans h.kept, h.size, h.s1, h.s2, h.z1, h.z2, h.row.gr k, h.len, h.sect, h.ne, h.lg, h.lk⟩

theorem callFunc36 (args : Array Value) (W : World) : Sem.run Try.prog (callFunc 36 args) W = Result.ok (Next.enter 36 args) W := by rfl
theorem callFunc33 (args : Array Value) (W : World) : Sem.run Try.prog (callFunc 33 args) W = Result.ok (Next.enter 33 args) W := by rfl

theorem layF_nonneg (h : DkAt base w g kb off armed keep S sz K P pend writes) (kp : Nat → Bool) : (layF sz kp K P P.length).length = S * sz := layF_length kp K P S h.size h.sect P.length (Nat.le_refl _)

/-- What is left of a disk whose pending writes have been laid. -/
def RetY (base g kb : Nat) (off : Bool) (armed : Int) (keep : Value) (S sz : Nat) (K : List UInt8) (writes : Int) (v : Value) (w : World) (e : Ending) (w' : World) : Prop :=
  e = .returned v ∧ DkAt base w' g kb off armed keep S sz K [] (.slice none 0 0) writes ∧ Mod (fun b => b = kb ∨ b = g) w w'

theorem lay_dk (fn : FuncId) (caps : Array Value) (kp : Nat → Bool) (h : DkAt base w g kb off armed keep S sz K P pend writes)
    (hfn : ∀ (args : Array Value) (W : World), Sem.run Try.prog (callFunc fn args) W = Result.ok (Next.enter fn args) W)
    (hf : ∀ (j : Nat) (W : World), j < P.length → Mod (fun b => b = kb) w W → Calls Try.prog fn (#[.int .i64 j] ++ caps) W (RetE (.bool (kp j)) W)) :
    Calls Try.prog 32 #[.pointer (some ⟨g, 0, none⟩), .func (.func fn) #[] caps] w (RetY base g kb off armed keep S sz (layF sz kp K P P.length) writes (.tuple #[]) w) := by
  refine (lay_any base S fn caps kp K P base h.db h.kept rfl h.size (by have := h.z1; omega) h.max h.row h.len h.sect h.ne h.lk hfn hf).mono ?_
  rintro e w' ⟨rfl, h1, h2, h3⟩
  exact ⟨rfl, ⟨h1, h2, layF_nonneg h kp, h.s1, h.s2, h.z1, h.z2, ⟨[], World.ownsRow_nil _ _ _ _, ents_nil _ _ _⟩, by simp, fun j hj => absurd hj (by simp), h.ne, h.lg, h.lk⟩, h3⟩

set_option maxHeartbeats 1000000 in
theorem sync_off (h : DkAt base w g kb true armed keep S sz K P pend writes) : Calls Try.prog 15 #[.pointer (some ⟨g, 0, none⟩)] w (RetE (.int .i64 5) w) := by
  refine retE ?_
  have C := hid (off_any h.db)
  clear h
  go_enter Try.func15, Try.ntmps15
  go_wp2_with (go_at_call 21; (with_reducible refine C.out.mono ?_); rintro e _ ⟨rfl, y1, rfl⟩)
  go_ret
  exact ⟨rfl, y1.gr⟩
set_option maxHeartbeats 1000000 in
theorem sync_on (h : DkAt base w g kb false armed keep S sz K P pend writes) : Calls Try.prog 15 #[.pointer (some ⟨g, 0, none⟩)] w (RetY base g kb false armed keep S sz (layF sz (fun _ => true) K P P.length) writes (.int .i64 0) w) := by
  have C := hid (off_any h.db)
  have L := fun (y : Ext w) => hid (lay_dk 36 #[] (fun _ => true) (h.gr y.gr) callFunc36 (fun j W _ _ => by simpa using sync1_any j W))
  clear h
  go_enter Try.func15, Try.ntmps15
  go_wp2_with (first | (go_at_call 21; (with_reducible refine C.out.mono ?_); rintro e _ ⟨rfl, y1, rfl⟩) | (go_at_call 32; (with_reducible refine (L y1).out.mono ?_); rintro e w2 ⟨rfl, h2, h3⟩; have H2 := hid h2; have H3 := hid h3; clear h2 h3))
  go_ret
  exact ⟨rfl, H2.out, (y1.gr.mod _).trans H3.out (fun _ _ h => h)⟩
end
end Go.Proofs.Ytkgmienjioplaaa
