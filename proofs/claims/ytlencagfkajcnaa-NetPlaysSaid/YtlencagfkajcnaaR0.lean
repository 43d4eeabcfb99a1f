import Derived.Test.YtlencagfkajcnaaR2
import Derived.Test.YtlencagfkajcnaaA0
namespace Go.Proofs.Ytlencagfkajcnaa
open Go.RowKit Go.Ext Go.BigFrame Go.Maps
attribute [local go_sem] Ext.cell Ext.frozen Ext.lt Ext.le s1 s2 s3 s4 s5 s6 t1 t2 t3 t4 t5 t6
attribute [local go_sem ↓] Go.wp_at_zero Go.wp_at_succ

section
variable {base g : Nat} {w w' : World} {nodes sent : Int} {v vc : Value} {L : List It} {C : List (Int × Int)} {P : List Pk}
theorem RB.put8 {L8 : List It} {v8 v9 : Value} {P8 : List Pk} (lo : base ≤ g) (hn : 1 ≤ nodes ∧ nodes ≤ 9) (hc : w.heap[g]? = some (.cells #[.int .i64 nodes, .int .i64 sent, v9, vc] 53 (0, 0))) (hcu : w.ownsRow base 66 2 vc C.length (cs2 C))
    (hr : w.ownsRow base 71 4 v8 L8.length (cs6 L8)) (hd : Dat base w L8 P8) : RB base (w.setCell ⟨g, 2, none⟩ v8) g nodes sent v8 vc L8 C P8 := by
  have m := ((Gr.refl w).mod (fun b => b = g)).set (p := ⟨g, 2, none⟩) (fun _ => rfl) v8
  refine ⟨lo, ?_, own_mod hr m ?_, own_mod hcu m ?_, hn, Dat.mod m (not5 hc (by decide)) hd⟩
  · have := set1_heap hc (j := 2) v8
    simpa using this
  · rintro k e rfl; exact own_no hr hc (by decide) e
  · rintro k e rfl; exact own_no hcu hc (by decide) e
theorem RB.no5 (h : RB base w g nodes sent v vc L C P) : ∀ k, (∃ cs fz, w.heap[k]? = some (.cells cs 5 fz)) → ¬ some k = v.ownBlock := by
  rintro k ⟨cs, fz, hk⟩ e
  exact own_no h.row hk (by decide) e.symm
theorem RB.no5C (h : RB base w g nodes sent v vc L C P) : ∀ k, (∃ cs fz, w.heap[k]? = some (.cells cs 5 fz)) → ¬ some k = vc.ownBlock := by
  rintro k ⟨cs, fz, hk⟩ e
  exact own_no h.cuts hk (by decide) e.symm
end
end Go.Proofs.Ytlencagfkajcnaa
