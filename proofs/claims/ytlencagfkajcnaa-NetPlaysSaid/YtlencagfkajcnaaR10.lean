import Derived.Test.YtlencagfkajcnaaR8
import Derived.Test.YtlencagfkajcnaaM1
import Derived.Test.YtlencagfkajcnaaK1
namespace Go.Proofs.Ytlencagfkajcnaa
open Go.RowKit Go.Ext Go.BigFrame Go.Maps
attribute [local go_sem] Ext.cell Ext.frozen Ext.lt Ext.le s1 s2 s3 s4 s5 s6 t1 t2 t3 t4 t5 t6
attribute [local go_sem ↓] Go.wp_at_zero Go.wp_at_succ

/-- What lies there reads as these packets. -/
def PV (w : World) (L : List It) (P : List Pk) : Prop := L.length = P.length ∧ ∀ k, k < P.length → (L.getD k z0).1 = (P.getD k p0).1 ∧ (L.getD k z0).2.1 = (P.getD k p0).2.1 ∧ (L.getD k z0).2.2.1 = (P.getD k p0).2.2.1 ∧ Bys w (sl (L.getD k z0)) (P.getD k p0).2.2.2
theorem PV.of_dat {base : Nat} {w : World} {L : List It} {P : List Pk} (h : Dat base w L P) : PV w L P := by
  refine ⟨h.len, fun k hk => ?_⟩
  obtain ⟨h1, h2, h3, h4, h5⟩ := h.get k (by rw [h.len]; exact hk)
  exact ⟨h1, h2, h3, Bys.of_own h4 h5⟩
theorem PV.one {base : Nat} {w : World} {x : It} {p : Pk} (h : One base w x p) : PV w [x] [p] := PV.of_dat (base := base) ⟨h, trivial⟩
theorem PV.gr {w w' : World} {L : List It} {P : List Pk} (h : PV w L P) (g : Gr w w') : PV w' L P :=
  ⟨h.1, fun k hk => ⟨(h.2 k hk).1, (h.2 k hk).2.1, (h.2 k hk).2.2.1, (h.2 k hk).2.2.2.gr g⟩⟩
/-- A packet of a row, read. -/
theorem row4 {w : World} {A : Option Addr} {L : List It} (h : Rd w A (cs6 L)) {k : Nat} (hk : k < L.length) : ∃ b off, A = some ⟨b, off, none⟩ ∧ b < w.heap.size ∧ w.cell? ⟨b, off + k * 4, none⟩ = some (.int .i64 (L.getD k z0).1) ∧ w.cell? ⟨b, off + k * 4 + 1, none⟩ = some (.int .i64 (L.getD k z0).2.1) ∧ w.cell? ⟨b, off + k * 4 + 2, none⟩ = some (.int .i64 (L.getD k z0).2.2.1) ∧ w.cell? ⟨b, off + k * 4 + 3, none⟩ = some (sl (L.getD k z0)) := by
  have h0 := cs6_get L k 0 hk (by omega)
  have h1 := cs6_get L k 1 hk (by omega)
  have h2 := cs6_get L k 2 hk (by omega)
  have h3 := cs6_get L k 3 hk (by omega)
  obtain ⟨b, off, e, hc⟩ := h (fun e => by rw [e] at h0; simp [ic] at h0)
  have d0 := hc _ _ h0
  have d1 := hc _ _ h1
  have d2 := hc _ _ h2
  have d3 := hc _ _ h3
  rw [← Nat.add_assoc] at d1 d2 d3
  have hlt := World.block_lt_of_cell? _ _ d0
  exact ⟨b, off, e, hlt, d0, d1, d2, d3⟩

set_option maxRecDepth 100000 in
set_option maxHeartbeats 4000000 in
theorem same_any (A B : Option Addr) (ca cb : Nat) (La Lb : List It) (P : List Pk) (w : World) (hA : Rd w A (cs6 La)) (hB : Rd w B (cs6 Lb)) (pA : PV w La P) (pB : PV w Lb P) (hl : P.length ≤ 1000000) :
    Calls Try.prog 18 #[.slice A P.length ca, .slice B P.length cb] w (RetE (.bool true) w) := by
  refine retE ?_
  have HA := hid hA
  have HB := hid hB
  have PA := hid pA
  have PB := hid pB
  clear hA hB pA pB
  go_enter Try.func18, Try.ntmps18
  go_wp2_with fail
  go_loopw [5] (fun i wr => ∃ k : Nat, k ≤ P.length ∧ i = .int .i64 k ∧ Gr w wr) (fun i _ => P.length - (intOf i).toNat)
  case atStart => exact ⟨0, Nat.zero_le _, rfl, Gr.refl _⟩
  case round =>
    obtain ⟨k, hk, rfl, hg⟩ := hrel
    have HG := hid hg
    clear hg
    by_cases hlt3 : k < P.length
    · obtain ⟨a1, a2, a3, a4⟩ := PA.out.2 k hlt3
      obtain ⟨b1, b2, b3, b4⟩ := PB.out.2 k hlt3
      obtain ⟨ba, oa, rfl, hba, da0, da1, da2, da3⟩ := row4 (HA.out.gr HG.out) (k := k) (by rw [PA.out.1]; exact hlt3)
      obtain ⟨bb, ob, rfl, hbb, db0, db1, db2, db3⟩ := row4 (HB.out.gr HG.out) (k := k) (by rw [PB.out.1]; exact hlt3)
      obtain ⟨⟨x, y, q, bs⟩, hp⟩ : ∃ p, P.getD k p0 = p := ⟨_, rfl⟩
      rw [hp] at a1 a2 a3 a4 b1 b2 b3 b4
      clear hp
      obtain ⟨⟨x1, y1, q1, A1, l1, c1⟩, hy1⟩ : ∃ p, La.getD k z0 = p := ⟨_, rfl⟩
      obtain ⟨⟨x2, y2, q2, A2, l2, c2⟩, hy2⟩ : ∃ p, Lb.getD k z0 = p := ⟨_, rfl⟩
      rw [hy1] at a1 a2 a3 a4 da0 da1 da2 da3
      rw [hy2] at b1 b2 b3 b4 db0 db1 db2 db3
      simp only [sl] at a1 a2 a3 a4 b1 b2 b3 b4 da0 da1 da2 da3 db0 db1 db2 db3
      subst a1 a2 a3 b1 b2 b3
      clear hy1 hy2
      have qa := fun z : Ext wr => conv_bys (a4.gr (HG.out.ext z))
      have qb := fun z : Ext wr => conv_bys (b4.gr (HG.out.ext z))
      clear a4 b4
      go_wp2_with fail
      refine wp_region_ext (by kernel_rfl) (by kernel_rfl) ?_
      repeat (go_big_quiet_step (fail))
      refine wpQuiet_nil ?_
      rintro _ ⟨z, rfl⟩
      go_wp2_with fail
      go_roundw
      case rel => exact ⟨k + 1, by omega, by go_num, HG.out.ext z⟩
      case measure => simp [intOf]; omega
    · have hke : k = P.length := by omega
      subst hke
      go_wp2_with fail
      go_ret
      exact ⟨rfl, HG.out⟩
end Go.Proofs.Ytlencagfkajcnaa
