import Derived.Test.YtlencagfkajcnaaM9
import Derived.Test.YtlencagfkajcnaaM7
import Derived.Test.YtlencagfkajcnaaN9
import Derived.Laws.BytesString
import Derived.Laws.BytesArg
import Derived.Lib.SlBytesConst
namespace Go.Proofs.Ytlencagfkajcnaa
open Go.RowKit Go.Ext Go.BigFrame Go.Maps
attribute [local go_sem] Ext.cell Ext.frozen Ext.lt Ext.le s1 s2 s3 s4 s5 s6 t1 t2 t3 t4 t5 t6
attribute [local go_sem ↓] Go.wp_at_zero Go.wp_at_succ

/-- The string of bytes. -/
def sb (bs : List UInt8) : ByteArray := if bs = [] then ByteArray.empty else strOfNums (bs.map fun b => (b.toNat : Int))
theorem conv_bys {w : World} {d : Value} {bs : List UInt8} (h : Bys w d bs) : (convert 22 9 d).run Try.prog w = .ok (.string (sb bs)) w := by
  obtain ⟨A, c, rfl, hl, hr, hn⟩ := h
  by_cases hb : bs = []
  · subst hb
    rw [run_convert_bytes_string w 22 9 5 A _ c Try.underlying22 Try.underlying5 Try.underlying9]
    cases A with
    | none => simp [Conv.bytesToString, sb]
    | some a =>
      have := run_bytesToString (P := Try.prog) w a 0 c [] (by have := run_loadCells_list (P := Try.prog) w a [] (by simp); simpa using this)
      simpa [sb] using this
  · obtain ⟨b, off, rfl, hc⟩ := hr (by simpa [bc] using hb)
    unfold sb
    rw [if_neg hb]
    refine run_convert_bytes_arg w 22 5 Try.underlying22 Try.underlying5 b off bs.length c _ (by simp) (fun i hi => ?_) 9 Try.underlying9
    rw [hc i (.int .u8 (bs[i]'hi).toNat) (by simp [bc, hi])]
    simp [List.getD, hi]

theorem bys_lit {w : World} {b : Nat} {fr : Nat × Nat} (x : UInt8) (h : w.heap[b]? = some (.cells #[.int .u8 (x.toNat : Int)] 5 fr)) : Bys w (.slice (some ⟨b, 0, none⟩) 1 1) [x] := by
  refine ⟨_, _, rfl, by simp, fun _ => ⟨b, 0, rfl, fun j u hu => ?_⟩, fun e => by cases e⟩
  have hj := (List.getElem?_eq_some_iff.1 hu).1
  simp [bc] at hj
  subst hj
  simp [bc] at hu
  subst hu
  simp [World.cell?, h]

theorem known_any (w : World) : Calls Try.prog 7 #[] w (RetE (.bool true) w) := by
  refine retE ?_
  go_enter Try.func7, Try.ntmps7
  go_wp2_with fail
  refine (new_any 3 w w.heap.size (Nat.le_refl _)).mono ?_
  rintro en w1 (⟨hno, _⟩ | ⟨_, g, rfl, h1, g1⟩)
  · exact absurd ⟨by omega, by omega⟩ hno
  have H1 := hid h1
  have G1 := hid g1
  clear h1 g1
  have hcv := Lib.run_convert_bytes_const (P := Try.prog) w1 22 5 #[.int .u8 97] 1 1 Try.underlying22 Try.underlying5
  go_wp2_with fail
  clear hcv
  have GA : Gr w1 (w1.alloc (.cells #[.int .u8 97] 5 (1, 2))) := (Gr.refl w1).alloc _
  refine (send_any w.heap.size g 0 3 0 0 1 (fun _ => false) [] _ [97] _ (H1.out.gr GA) (bys_lit 97 (heap_alloc_new w1 _)) (by simp) (by omega) (G1.out.trans GA).size).mono ?_
  rintro en w2 ⟨rfl, h2, m2⟩
  have e2 : sendF 3 0 (fun _ => false) [] 0 1 [97] = (0, [(0, 1, 0, [97])], 1) := by simp [sendF, isN, opF]
  rw [e2] at h2
  have H2 := hid h2
  have G2 := hid (m2.gr (Nat.le_refl _) (G1.out.trans GA))
  clear h2 m2 e2 GA
  have hcv := Lib.run_convert_bytes_const (P := Try.prog) w2 22 5 #[.int .u8 98] 1 1 Try.underlying22 Try.underlying5
  go_wp2_with fail
  clear hcv
  have GB : Gr w2 (w2.alloc (.cells #[.int .u8 98] 5 (1, 2))) := (Gr.refl w2).alloc _
  refine (send_any w.heap.size g 0 3 1 2 1 (fun _ => false) [(0, 1, 0, [97])] _ [98] _ (H2.out.gr GB) (bys_lit 98 (heap_alloc_new w2 _)) (by simp) (by omega) (G2.out.trans GB).size).mono ?_
  rintro en w3 ⟨rfl, h3, m3⟩
  have e3 : sendF 3 1 (fun _ => false) [(0, 1, 0, [97])] 2 1 [98] = (0, [(0, 1, 0, [97]), (2, 1, 1, [98])], 2) := by simp [sendF, isN, opF]
  rw [e3] at h3
  have H3 := hid h3
  have G3 := hid (m3.gr (Nat.le_refl _) (G2.out.trans GB))
  clear h3 m3 e3 GB
  go_wp2_with fail
  refine (again_any w.heap.size g 0 3 2 0 (fun _ => false) [(0, 1, 0, [97]), (2, 1, 1, [98])] _ H3.out (by simp)).mono ?_
  rintro en w4 ⟨rfl, h4, m4⟩
  have e4 : againP [(0, 1, 0, [97]), (2, 1, 1, [98])] 0 = [(0, 1, 0, [97]), (0, 1, 0, [97]), (2, 1, 1, [98])] := by simp [againP, okN, dupF, atF]
  rw [e4] at h4
  have H4 := hid h4
  have G4 := hid (m4.gr (Nat.le_refl _) G3.out)
  clear h4 m4 e4
  go_wp2_with fail
  refine (take_any w.heap.size g 0 3 2 1 (fun _ => false) [(0, 1, 0, [97]), (0, 1, 0, [97]), (2, 1, 1, [98])] _ H4.out (by simp)).mono ?_
  rintro en w5 (⟨hno, _⟩ | ⟨_, i, ⟨f, t, q, A, l, c⟩, hi1, hi2, rfl, hone, h5, m5⟩)
  · simp [okN] at hno
  obtain rfl : i = 1 := by omega
  obtain ⟨o1, o2, o3, o4, o5⟩ := hone
  simp only [List.getD_cons_succ, List.getD_cons_zero, sl] at o1 o2 o3 o4
  subst o1 o2 o3
  have H5 := hid (show Nt w.heap.size w5 g 3 2 0 (fun _ => false) [(0, 1, 0, [97]), (2, 1, 1, [98])] from h5)
  have G5 := hid (m5.gr (Nat.le_refl _) G4.out)
  obtain ⟨A', c', eA⟩ := own_shape o4
  injection eA with e1 e2 e3
  subst e1 e2 e3
  have HD := hid (show w5.ownsRow w.heap.size 5 1 (.slice A 1 c) 1 (bc [97]) from o4)
  clear h5 m5 o4 o5 hi1 hi2
  simp only [iv]
  go_wp2_with fail
  obtain ⟨mb, v, L, h5⟩ := H5.out
  have GX : Gr w5 (w5.alloc (.cells #[.int .i64 0, .int .i64 1, .int .i64 0, .slice A 1 c] 33)) := (Gr.refl w5).alloc _
  have one5 : One w.heap.size (w5.alloc (.cells #[.int .i64 0, .int .i64 1, .int .i64 0, .slice A 1 c] 33)) (0, 1, 0, A, 1, c) (0, 1, 0, [97]) := One.mod (w := w5) ⟨rfl, rfl, rfl, HD.out, by simp⟩ (GX.mod fun _ => False) (fun _ _ e => e)
  have hb5 := heap_alloc_new w5 (.cells #[.int .i64 0, .int .i64 1, .int .i64 0, .slice A 1 c] 33)
  have hn5 : ¬ (w5.heap.size = g ∨ w5.heap.size = mb ∨ some w5.heap.size = v.ownBlock) := by
    rintro (e | e | e)
    · have := h5.lt; omega
    · have := h5.mp.lt; omega
    · have := (h5.row.lt _ e.symm).2; omega
  refine (cut_goodM w.heap.size g mb 0 3 2 2 1 v L (fun _ => false) [(0, 1, 0, [97]), (2, 1, 1, [98])] _ (h5.gr GX) (by simp [okC, isN]) (by simp) (by omega)).mono ?_
  rintro en w6 ⟨⟨rfl, h6, m6⟩, z6⟩
  have HB6 := hid ((z6.block w5.heap.size (by simp) hn5).trans hb5)
  have HO6 := hid (One.mod one5 m6 (fun k hk hs => OurT.not5 hk hs.2))
  have G6 := hid (m6.gr (Nat.le_refl _) (G5.out.trans GX))
  have e6 : ([(0, 1, 0, [97]), (2, 1, 1, [98])] : List Pk).filter (fun p => !qC 2 1 p) = [(0, 1, 0, [97])] := by simp [qC, pr]
  rw [e6] at h6
  have H6 := hid h6
  clear h6 m6 z6 e6 hn5 hb5 one5 GX h5
  go_wp2_with fail
  refine (wait_any w.heap.size g 1 3 2 (cutS (fun _ => false) 2 1) [(0, 1, 0, [97])] _ H6.out (by simp)).mono ?_
  rintro en _ ⟨u, y7, rfl, rfl, L', ho7, hd7⟩
  obtain ⟨x', rfl⟩ : ∃ x', L' = [x'] := by
    match L', hd7 with
    | [x'], _ => exact ⟨x', rfl⟩
  obtain ⟨⟨f1, f2, f3, f4, f5⟩, _⟩ := hd7
  obtain ⟨x1, x2, x3, A2, l2, c2⟩ := x'
  simp only [sl] at f1 f2 f3 f4
  subst f1 f2 f3
  obtain ⟨A3, c3, eA⟩ := own_shape f4
  injection eA with e1 e2 e3
  subst e1 e2 e3
  obtain ⟨AU, cU, rfl⟩ := own_shape ho7
  obtain ⟨bu, ou, e0, hbu, u0, u1, u2, u3⟩ := (Row.of_own (L := [((0, 1, 0, A2, [97].length, c2) : It)]) ho7).at_ (i := 0) (by simp)
  subst e0
  simp only [List.getD_cons_zero, Nat.zero_mul, Nat.add_zero, List.length_cons, List.length_nil, Nat.zero_add] at u0 u1 u2 u3
  have hcu : 1 ≤ cU := by
    rcases ho7.2 with ⟨e, _⟩ | ⟨_, _, _, e, _, _, h, _⟩
    · cases e
    · injection e with _ _ e; rw [e]; simpa using h
  have HB7 := hid ((y7.gr.block w5.heap.size (Array.getElem?_eq_some_iff.1 HB6.out).1).trans HB6.out)
  obtain ⟨b0, b1, b2, b3, _⟩ := heap4 HB7.out
  have hb5 : w5.heap.size < y7.val.heap.size := (Array.getElem?_eq_some_iff.1 HB7.out).1
  have hcp := conv_bys (Bys.of_own (own_gr HO6.out.2.2.2.1 y7.gr) (by simp))
  have hcl := conv_bys (Bys.of_own (bs := [97]) f4 (by simp))
  have hsb : sb [97] = ⟨#[97]⟩ := by rfl
  rw [hsb] at hcp hcl
  simp only [sl] at hcp
  simp only [List.length_cons, List.length_nil, Nat.zero_add] at hcl
  clear hsb f4 f5 ho7
  obtain ⟨mb6, v6, L6, h6⟩ := H6.out
  have HN7 := hid (h6.gr y7.gr)
  have HOA := hid (fun W (y : Gr y7.val W) => open_any g mb6 1 3 1 2 (cutS (fun _ => false) 2 1) W ((HN7.out.gr y).cs.1) ((HN7.out.gr y).cs.2.1) (HN7.out.gr y).mp (by omega))
  have HOB := hid (fun W (y : Gr y7.val W) => open_any g mb6 1 3 0 1 (cutS (fun _ => false) 2 1) W ((HN7.out.gr y).cs.1) ((HN7.out.gr y).cs.2.1) (HN7.out.gr y).mp (by omega))
  rw [show opF 3 (cutS (fun _ => false) 2 1) 1 2 = false by simp [opF, isN, cutS, pr]] at HOA
  rw [show opF 3 (cutS (fun _ => false) 2 1) 0 1 = true by simp [opF, isN, cutS, pr]] at HOB
  have GF := hid (G6.out.ext y7)
  clear h6
  go_wp2_with (first
    | (go_at_call 19; (with_reducible refine (HOA.out _ (Gr.refl _)).mono ?_); rintro en _ ⟨rfl, y8, rfl⟩)
    | (go_at_call 19; (with_reducible refine (HOB.out _ y8.gr).mono ?_); rintro en _ ⟨rfl, y9, rfl⟩))
  go_ret
  exact ⟨rfl, (GF.out.ext y8).ext y9⟩
end Go.Proofs.Ytlencagfkajcnaa
