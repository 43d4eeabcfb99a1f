import Derived.Test.YtikmniokbliolaaI2
namespace Go.Proofs.Ytikmniokbliolaa
open Go.RowKit Go.Ext Go.BigFrame
attribute [local go_sem] Ext.cell Ext.frozen Ext.lt Ext.le s1 s2 s3 s4 s5 s6 t1 t2 t3 t4 t5 t6
attribute [local go_sem ↓] Go.wp_at_zero Go.wp_at_succ

/-- With an item more, if it is not there. -/
def addF (L : List It) (x : It) : List It := if has L x then L else ins L x

set_option maxHeartbeats 1000000 in
theorem add_any (base g : Nat) (v : Value) (L : List It) (x : It) (w : World) (h : HB base w g v L) (hs : Srt L) (hl : L.length ≤ 1000000) (hbase : base ≤ w.heap.size) :
    Calls Try.prog 12 #[.pointer (some ⟨g, 0, none⟩), iv x] w (RetH base g v (addF L x) (.bool (!has L x)) w) := by
  obtain ⟨A, cp, rfl⟩ := h.shape
  have HF := hid (fun W (y : Gr w W) => find_any base g _ L x W (h.gr y) hs (by omega))
  have H := hid h
  have hpl := pos_le L x
  have HI := hid (show ins L x = L.take (pos L x) ++ x :: L.drop (pos L x) from rfl)
  have hlt := h.lt
  unfold addF
  generalize pos L x = p at *
  clear h hs
  obtain ⟨res, hres⟩ : ∃ res, has L x = res := ⟨_, rfl⟩
  rw [hres] at HF ⊢
  clear hres
  generalize ins L x = L' at *
  obtain ⟨a, b, c, d, e, f⟩ := x
  simp only [iv] at HF ⊢
  cases res
  · go_enter Try.func12, Try.ntmps12
    go_wp2_with (go_at_call 29; refine (HF.out _ ((Gr.refl w).alloc _)).mono ?_; rintro e _ ⟨rfl, y1, rfl⟩
                 have G1 := hid (show Gr w y1.val from ((Gr.refl w).alloc _).ext y1)
                 obtain ⟨b0, b1, b2, b3, b4, b5, hbl⟩ := box6 (Gr.ext (Gr.refl _) y1)
                 have c0 : y1.val.cell? ⟨g, 0, none⟩ = some (.slice A L.length cp) := (G1.out.cell hlt).trans H.out.c0
                 have hlt1 : g < y1.val.heap.size := Nat.lt_of_lt_of_le hlt G1.out.size
                 have H1 := hid (H.out.gr G1.out)
                 have hb1 : base ≤ y1.val.heap.size := Nat.le_trans hbase G1.out.size)
    go_region_law (go_simp; go_at_call 30
                   refine (insert_any base y1.val.heap.size p (.slice A L.length cp) L (a, b, c, d, e, f) _ (H1.out.gr ((Gr.refl _).drew.alloc _)).row (by exact heap_alloc_new y1.val.drew _) (by intro e; have := (H1.out.row.lt _ e).2; omega) hl hpl (by simp; omega)).mono ?_
                   rintro e w2 ⟨v2, rfl, hr2, hm2, hw2⟩
                   have HR2 := hid hr2
                   have HM2 := hid hm2
                   have HW2 := hid hw2
                   clear hr2 hm2 hw2
                   have HC2 := hid (show w2.heap[g]? = some (.cells #[.slice A L.length cp] 64 (0, 0)) from (HM2.out.block g (by simp; omega) H1.out.ne).trans (H1.out.gr ((Gr.refl _).drew.alloc _)).cell)
                   have k0 : w2.cell? ⟨g, 0, none⟩ = some (.slice A L.length cp) := by simp [World.cell?, HC2.out]
                   have f0 : w2.frozen? ⟨g, 0, none⟩ = false := by simp [World.frozen?, HC2.out]
                   have hsh : ∃ A2 n2 c2, v2 = .slice A2 n2 c2 := by
                     rcases HR2.out.2 with ⟨rfl, _⟩ | ⟨g', cap, cur, rfl, _⟩
                     · exact ⟨_, _, _, rfl⟩
                     · exact ⟨_, _, _, rfl⟩
                   obtain ⟨A2, n2, c2, rfl⟩ := hsh)
    all_goals (
      go_wp2_with fail
      go_ret
      rw [← HI.out] at HR2
      refine ⟨_, rfl, HB.set H1.out.lo HC2.out HR2.out, ?_, ?_⟩
      · have M := (((G1.out.trans ((Gr.refl _).drew.alloc _)).mod (fun k => k = g ∨ some k = (Value.slice A L.length cp).ownBlock)).trans HM2.out (fun _ _ h => .inr h))
        exact M.set (fun _ => .inl rfl) _
      · rcases HW2.out with h | ⟨k, h1, h2⟩
        · exact .inl h
        · refine .inr ⟨k, h1, ?_⟩
          have := G1.out.size
          simp at h2
          omega)
  · go_enter Try.func12, Try.ntmps12
    go_wp2_with (go_at_call 29; refine (HF.out _ ((Gr.refl w).alloc _)).mono ?_; rintro e _ ⟨rfl, y1, rfl⟩
                 have G1 := hid (show Gr w y1.val from ((Gr.refl w).alloc _).ext y1))
    go_ret
    exact ⟨_, rfl, H.out.gr G1.out, G1.out.mod _, .inl rfl⟩
end Go.Proofs.Ytikmniokbliolaa
