import Derived.Test.YtikmniokbliolaaE5
import Derived.Test.YtikmniokbliolaaE6
namespace Go.Proofs.Ytikmniokbliolaa
open Go.RowKit Go.Ext Go.BigFrame
attribute [local go_sem] Ext.cell Ext.frozen Ext.lt Ext.le s1 s2 s3 s4 s5 s6 t1 t2 t3 t4 t5 t6
attribute [local go_sem ↓] Go.wp_at_zero Go.wp_at_succ

theorem addR_any (base g : Nat) (v : Value) (L : List It) (x0 x1 x2 x3 x4 x5 : Int) (w : World) (h : RB base w g v L) (hl : L.length ≤ 1000000) (hbase : base ≤ w.heap.size) :
    Calls Try.prog 21 #[.pointer (some ⟨g, 0, none⟩), iv (x0, x1, x2, x3, x4, x5)] w (RetR base g (addF L (x0, x1, x2, x3, x4, x5)) (.bool (!has L (x0, x1, x2, x3, x4, x5))) w) := by
  rcases h.row.2 with ⟨rfl, h0⟩ | ⟨r, cap, cur, rfl, hb, hh, hc, hm, hs, ht⟩
  · have : L = [] := List.eq_nil_of_length_eq_zero h0
    subst this
    have := addR_nil base g x0 x1 x2 x3 x4 x5 w h hbase
    exact this
  · refine addR_some base g r cap L x0 x1 x2 x3 x4 x5 w h hl hbase hc hm (Array.getElem?_eq_some_iff.1 hh).1 (fun j u hu => ?_)
    rw [← ht, List.getElem?_take] at hu
    split at hu
    · simp [World.cell?, hh]; simpa using hu
    · cases hu

/-- Both heaps in one memory, with the same items. -/
structure Two (base : Nat) (w : World) (g g' : Nat) (L : List It) : Prop where
  ours : ∃ v, HB base w g v L
  theirs : ∃ v, RB base w g' v L

theorem HB.keepR {base g g' : Nat} {v v' : Value} {L L' : List It} {w w' : World} (h : HB base w g v L) (r : RB base w g' v' L') (m : Mod (fun k => k = g') w w') : HB base w' g v L := by
  refine h.mod m ?_ ?_
  · rintro rfl
    have := h.cell.symm.trans r.cell
    injection this with this; injection this with _ ht _; cases ht
  · rintro k e rfl
    rcases h.row.2 with ⟨rfl, _⟩ | ⟨q, cap, cur, rfl, _, hh, _⟩
    · simp [Value.ownBlock] at e
    · simp [Value.ownBlock] at e; subst e; rw [r.cell] at hh; injection hh with hh; injection hh with _ ht _; cases ht
theorem RB.keepH {base g g' : Nat} {v v' : Value} {L L' : List It} {w w' : World} (r : RB base w g' v' L') (h : HB base w g v L) (m : Mod (fun k => k = g ∨ some k = v.ownBlock) w w') : RB base w' g' v' L' := by
  have hne : some g' ≠ v.ownBlock := fun e => by
    rcases h.row.2 with ⟨rfl, _⟩ | ⟨q, cap, cur, rfl, _, hh, _⟩
    · simp [Value.ownBlock] at e
    · simp [Value.ownBlock] at e; subst e; rw [r.cell] at hh; injection hh with hh; injection hh with _ ht _; cases ht
  refine r.mod m ?_ ?_
  · rintro (rfl | e)
    · have := h.cell.symm.trans r.cell
      injection this with this; injection this with _ ht _; cases ht
    · exact hne e
  · rintro k e
    rcases r.row.2 with ⟨rfl, _⟩ | ⟨q, cap, cur, rfl, _, hh, _⟩
    · simp [Value.ownBlock] at e
    · simp [Value.ownBlock] at e
      subst e
      rintro (e2 | e2)
      · subst e2; rw [h.cell] at hh; injection hh with hh; injection hh with _ ht _; cases ht
      · rcases h.row.2 with ⟨rfl, _⟩ | ⟨q', cap', cur', rfl, _, hh', _⟩
        · simp [Value.ownBlock] at e2
        · simp [Value.ownBlock] at e2; subst e2; rw [hh] at hh'; injection hh' with hh'; injection hh' with _ ht _; cases ht
theorem Two.gr {base g g' : Nat} {L : List It} {w w' : World} (h : Two base w g g' L) (G : Gr w w') : Two base w' g g' L := by
  obtain ⟨⟨v, h1⟩, ⟨v', h2⟩⟩ := h
  exact ⟨⟨v, h1.gr G⟩, ⟨v', h2.gr G⟩⟩

set_option maxHeartbeats 4000000 in
theorem looks_any (base g g' : Nat) (L : List It) (w : World) (h : Two base w g g' L) (hl : L.length ≤ 1000000) : Calls Try.prog 27 #[.pointer (some ⟨g, 0, none⟩), .pointer (some ⟨g', 0, none⟩)] w (RetE (.bool true) w) := by
  refine retE ?_
  obtain ⟨⟨v, h1⟩, ⟨v', h2⟩⟩ := h
  have H1 := hid h1
  have H2 := hid h2
  have CN := hid (fun W (y : Gr w W) => next_any base g v L W (h1.gr y))
  have CR := hid (fun W (y : Gr w W) => nextR_any base g' v' L W (h2.gr y))
  have CL := hid (fun W (y : Gr w W) => list_any base g v L W (h1.gr y) hl)
  have CE := hid (fun W (y : Gr w W) => len_any base g v L W (h1.gr y))
  have hlt := h2.lt
  clear h1 h2
  obtain ⟨⟨a, b, c, d, e, f⟩, hy⟩ : ∃ y, hd L = y := ⟨_, rfl⟩
  rw [hy] at CN CR
  simp only [iv] at CN CR
  clear hy
  go_enter Try.func27, Try.ntmps27
  go_wp2_with (first
    | (go_at_call 31; refine (CN.out _ (Gr.refl _)).mono ?_; rintro en _ ⟨rfl, y1, rfl⟩; have hy1 := y1.gr)
    | (go_at_call 37; refine (CR.out _ (y1.gr.alloc _)).mono ?_; rintro en _ ⟨rfl, y2, rfl⟩)
    | (go_at_call 28; refine (CL.out _ ((((y1.gr).alloc _).ext y2).alloc _)).mono ?_; rintro en _ ⟨v9, y3, rfl, rfl, hits⟩; have HI := hid hits; clear hits))
  have G3 := hid (((((y1.gr).alloc (.cells #[.int .i64 a, .int .i64 b, .int .i64 c, .int .i64 d, .int .i64 e, .int .i64 f] 33)).ext y2).alloc (.cells #[.int .i64 a, .int .i64 b, .int .i64 c, .int .i64 d, .int .i64 e, .int .i64 f] 40)).ext y3)
  have h52 : y1.val.heap.size < y2.val.heap.size := y2.lt_alloc
  have h73 : y2.val.heap.size < y3.val.heap.size := y3.lt_alloc
  have HB5 : y3.val.heap[y1.val.heap.size]? = some (.cells #[.int .i64 a, .int .i64 b, .int .i64 c, .int .i64 d, .int .i64 e, .int .i64 f] 33 (0, 0)) :=
    (y3.gr.block y1.val.heap.size (by simp; omega)).trans ((((Gr.refl y2.val).alloc _).block _ h52).trans ((y2.gr.block _ (by simp)).trans (heap_alloc_new y1.val _)))
  have HB7 : y3.val.heap[y2.val.heap.size]? = some (.cells #[.int .i64 a, .int .i64 b, .int .i64 c, .int .i64 d, .int .i64 e, .int .i64 f] 40 (0, 0)) :=
    (y3.gr.block y2.val.heap.size (by simp)).trans (heap_alloc_new y2.val _)
  obtain ⟨k0, k1, k2, k3, k4, k5, _⟩ := heap6' HB5
  obtain ⟨j0, j1, j2, j3, j4, j5, _⟩ := heap6' HB7
  have h53 : y1.val.heap.size < y3.val.heap.size := by omega
  clear HB5 HB7 CN CR CL
  have hg3 : g' < y3.val.heap.size := Nat.lt_of_lt_of_le hlt G3.out.size
  have c0 := (H2.out.gr G3.out).c0
  obtain ⟨A', cp', rfl⟩ := H2.out.shape
  obtain ⟨A, cp, rfl, hrow, _⟩ := HI.out
  have HRow := hid hrow
  clear hrow
  have hne := fun W : World => ne40 a b c d e f a b c d e f W
  simp only [decide_true, Bool.not_true] at hne
  have CE3 := hid (fun W (y : Gr y3.val W) => CE.out W (G3.out.trans y))
  clear CE
  refine wp_region_ext (by kernel_rfl) (by kernel_rfl) ?_
  repeat (go_big_quiet_step (first | (go_at_call 17; exact calls_ext _ (of6 _ _ _ _ _ _ _)) | (go_at_call 15; exact calls_ext _ (CE3.out _ (Ext.gr _)))))
  refine wpQuiet_nil ?_
  rintro _ ⟨x, rfl⟩
  go_wp2_with fail
  have GX := hid (G3.out.ext x)
  clear k0 k1 k2 k3 k4 k5 j0 j1 j2 j3 j4 j5 c0 hne CE3
  go_loopw [10] (fun i wr => ∃ k : Nat, k ≤ L.length ∧ i = .int .i64 k ∧ Gr x.val wr) (fun i _ => L.length - (intOf i).toNat)
  case atStart => exact ⟨0, Nat.zero_le _, rfl, Gr.refl _⟩
  case round =>
    obtain ⟨k, hk, rfl, hg⟩ := hrel
    have HG := hid hg
    have c0 := (H2.out.gr (GX.out.trans hg)).c0
    have hgr : g' < wr.heap.size := Nat.lt_of_lt_of_le hlt (GX.out.trans hg).size
    clear hg
    by_cases hlt3 : k < L.length
    · obtain ⟨bb, off, rfl, hbw, c0', c1', c2', c3', c4', c5'⟩ := (HRow.out.gr (x.gr.trans HG.out)).at_ hlt3
      obtain ⟨r, cap, e, hcap, hm, hb, hr, hc⟩ := (H2.out.gr (GX.out.trans HG.out)).open (by omega)
      injection e with e1 _ e3
      subst e1 e3
      obtain ⟨d0, d1, d2, d3, d4, d5⟩ := six_at hc hlt3
      obtain ⟨⟨p0, p1, p2, p3, p4, p5⟩, hy⟩ : ∃ y, L.getD k z0 = y := ⟨_, rfl⟩
      rw [hy] at d0 d1 d2 d3 d4 d5 c0' c1' c2' c3' c4' c5'
      simp only at d0 d1 d2 d3 d4 d5 c0' c1' c2' c3' c4' c5'
      have hne := fun W : World => ne40 p0 p1 p2 p3 p4 p5 p0 p1 p2 p3 p4 p5 W
      simp only [decide_true, Bool.not_true] at hne
      clear hy hc
      go_wp2_with fail
      refine wp_region_ext (by kernel_rfl) (by kernel_rfl) ?_
      repeat (go_big_quiet_step ((go_at_call 17; exact calls_ext _ (of6 _ _ _ _ _ _ _))))
      refine wpQuiet_nil ?_
      rintro _ ⟨z, rfl⟩
      go_wp2_with fail
      go_roundw
      case rel => exact ⟨k + 1, by omega, by go_num, HG.out.ext z⟩
      case measure => simp [intOf]; omega
    · have hke : k = L.length := by omega
      subst hke
      go_wp2_with fail
      go_ret
      exact ⟨rfl, GX.out.trans HG.out⟩
end Go.Proofs.Ytikmniokbliolaa
