/- Lemmas: what the functions of the engine answer, and which blocks they write. -/
import Derived.Test.YtniknicnnaiilaaGreatX25
section
namespace Go.Proofs.YtniknicnnaiilaaGreat
set_option maxRecDepth 100000
open Go.RowKit Go.Ext Go.BigFrame Go.Maps Go.MapKept
attribute [local go_sem] Ext.cell Ext.frozen Ext.lt Ext.le s1 s2 s3 s4 s5 s6 t1 t2 t3 t4 t5 t6
attribute [local go_sem ↓] Go.wp_at_zero Go.wp_at_succ
def right1 (c : Call) : Bool :=
  decide (1 ≤ c.kind) && decide (c.kind ≤ 11) && (hasFlow c.kind || c.flow == 0) && (hasList c.kind || c.list == 0) && (hasN c.kind || c.n == 0) && (hasTok c.kind || decide (c.tok = tok0)) && (hasData c.kind || c.data.length == 0) && (hasL c.kind || c.l.length == 0)
def right2 (b : Bool) (c : Call) : Bool := b && numB c.flow && numB c.list && numB c.n && (c.kind != 1 || decide (1 ≤ c.n))
theorem rightC_eq (c : Call) : rightC c = (right2 (right1 c) c && numB c.tok.flow && numB c.tok.run && numB c.tok.event && numB c.tok.turn && decide (c.data.length ≤ 4096) && decide (c.l.length ≤ 32) && !c.l.any longF) := by
  have e1 : c.data.isEmpty = (c.data.length == 0) := by cases c.data <;> rfl
  have e2 : c.l.isEmpty = (c.l.length == 0) := by cases c.l <;> rfl
  have e3 : (c.l.all fun d => decide (d.data.length ≤ 4096)) = !c.l.any longF := by
    rw [List.all_eq_not_any_not]
    congr 2
    funext d
    unfold longF
    rw [Bool.eq_iff_iff]
    simp
  unfold rightC right2 right1
  rw [e1, e2, e3]
theorem cells6 {W : World} {B : Nat} {t : TypeId} {a b c d e f : Value} (h : W.heap[B]? = some (.cells #[a, b, c, d, e, f] t (0, 0))) : W.cell? ⟨B, 0, none⟩ = some a ∧ W.cell? ⟨B, 1, none⟩ = some b ∧ W.cell? ⟨B, 2, none⟩ = some c ∧ W.cell? ⟨B, 3, none⟩ = some d ∧ W.cell? ⟨B, 4, none⟩ = some e ∧ W.cell? ⟨B, 5, none⟩ = some f := by
  refine ⟨?_, ?_, ?_, ?_, ?_, ?_⟩ <;> simp [World.cell?, h]
set_option maxHeartbeats 16000000 in
theorem right_flags (ck cf cli cn tf tr te tt : Int) (Ad Al : Option Addr) (dl cd ll cl : Nat) (xs : List Dec) (M : Bl) (w : World) (ok f1 f2 f3 f4 f5 f6 R : Bool)
    (hk : ∀ W, Calls Tryz.prog 95 #[.int .i64 ck] W (RetE (.tuple #[.agg #[.bool f1, .bool f2, .bool f3, .bool f4, .bool f5, .bool f6], .bool ok]) W))
    (hcl : (ok = false ∧ f1 = false ∧ f2 = false ∧ f3 = false ∧ f4 = false ∧ f5 = false ∧ f6 = false)
      ∨ (ok = true ∧ f1 = true ∧ f2 = true ∧ f3 = true ∧ f4 = false ∧ f5 = true ∧ f6 = false)
      ∨ (ok = true ∧ f1 = true ∧ f2 = false ∧ f3 = false ∧ f4 = false ∧ f5 = true ∧ f6 = false)
      ∨ (ok = true ∧ f1 = true ∧ f2 = false ∧ f3 = false ∧ f4 = false ∧ f5 = false ∧ f6 = false)
      ∨ (ok = true ∧ f1 = true ∧ f2 = false ∧ f3 = true ∧ f4 = false ∧ f5 = false ∧ f6 = false)
      ∨ (ok = true ∧ f1 = false ∧ f2 = true ∧ f3 = false ∧ f4 = false ∧ f5 = false ∧ f6 = false)
      ∨ (ok = true ∧ f1 = false ∧ f2 = false ∧ f3 = false ∧ f4 = true ∧ f5 = false ∧ f6 = true)
      ∨ (ok = true ∧ f1 = false ∧ f2 = false ∧ f3 = false ∧ f4 = true ∧ f5 = true ∧ f6 = false)
    )
    (hl : RecsM decR w M (.slice Al ll cl) xs) (hxs : ll = xs.length) (hll : ll ≤ 140737488351232) (hdl : dl ≤ 140737488351232) (hdd : ∀ d ∈ xs, d.data.length ≤ 140737488351232)
    (hR : R = ((ok && (f1 || (cf == 0)) && (f2 || (cli == 0)) && (f3 || (cn == 0)) && (f4 || decide ((⟨tf, tr, te, tt⟩ : Tok) = ⟨0, 0, 0, 0⟩)) && (f5 || ((dl : Int) == 0)) && (f6 || ((ll : Int) == 0))) && numB cf && numB cli && numB cn && (ck != 1 || decide (1 ≤ cn))
      && numB tf && numB tr && numB te && numB tt && decide ((dl : Int) ≤ 4096) && decide ((ll : Int) ≤ 32) && !xs.any longF)) :
    Calls Tryz.prog 59 #[.agg #[.int .i64 ck, .int .i64 cf, .int .i64 cli, .int .i64 cn, .int .i64 tf, .int .i64 tr, .int .i64 te, .int .i64 tt, .slice Ad dl cd, .slice Al ll cl]] w (RetE (.bool R) w) := by
  have HK := hid hk
  have HCL := hid hcl
  have HCON := hid (fun W (g : Gr w W) => containsL_any (.slice Al ll cl) xs M W (hl.up (Gr.up g M)) (by omega) hdd)
  have HB := hid (fun x W => between_any x W)
  have HLL := hid hll
  have HDL := hid hdl
  obtain ⟨q1, hq1⟩ : ∃ q1 : Bool, q1 = (ok && (f1 || (cf == 0)) && (f2 || (cli == 0)) && (f3 || (cn == 0)) && (f4 || decide ((⟨tf, tr, te, tt⟩ : Tok) = ⟨0, 0, 0, 0⟩)) && (f5 || ((dl : Int) == 0)) && (f6 || ((ll : Int) == 0))) := ⟨_, rfl⟩
  obtain ⟨q2, hq2⟩ : ∃ q2 : Bool, q2 = (q1 && numB cf && numB cli && numB cn && (ck != 1 || decide (1 ≤ cn))) := ⟨_, rfl⟩
  obtain ⟨q3, hq3⟩ : ∃ q3 : Bool, q3 = (q2 && numB tf) := ⟨_, rfl⟩
  obtain ⟨q4, hq4⟩ : ∃ q4 : Bool, q4 = (q3 && numB tr) := ⟨_, rfl⟩
  obtain ⟨q5, hq5⟩ : ∃ q5 : Bool, q5 = (q4 && numB te) := ⟨_, rfl⟩
  obtain ⟨q6, hq6⟩ : ∃ q6 : Bool, q6 = (q5 && numB tt) := ⟨_, rfl⟩
  obtain ⟨q7, hq7⟩ : ∃ q7 : Bool, q7 = (q6 && decide ((dl : Int) ≤ 4096) && decide ((ll : Int) ≤ 32)) := ⟨_, rfl⟩
  have HR := hid (show R = (q7 && !xs.any longF) from by rw [hR, hq7, hq6, hq5, hq4, hq3, hq2, hq1])
  have HQ1 := hid hq1
  have HQ2 := hid hq2
  have HQ3 := hid hq3
  have HQ4 := hid hq4
  have HQ5 := hid hq5
  have HQ6 := hid hq6
  have HQ7 := hid hq7
  clear hq1 hq2 hq3 hq4 hq5 hq6 hq7 hR hk hcl hl hxs hll hdl hdd
  refine retE ?_
  go_enter Tryz.func59, Tryz.ntmps59
  go_upto_region 3 with (go_at_call 95; refine (HK.out _).mono ?_; rintro en _ ⟨rfl, y1, rfl⟩)
  have G1 := hid (((((Gr.refl w).alloc (.cells #[.int .i64 ck, .int .i64 cf, .int .i64 cli, .int .i64 cn, .int .i64 tf, .int .i64 tr, .int .i64 te, .int .i64 tt, .slice Ad dl cd, .slice Al ll cl] 35)).trans y1.gr).alloc (.cells #[.bool f1, .bool f2, .bool f3, .bool f4, .bool f5, .bool f6] 165)).alloc (.cells #[.int .i64 tf, .int .i64 tr, .int .i64 te, .int .i64 tt] 28))
  have HB1 := hid ((((y1.gr.alloc (.cells #[.bool f1, .bool f2, .bool f3, .bool f4, .bool f5, .bool f6] 165)).alloc (.cells #[.int .i64 tf, .int .i64 tr, .int .i64 te, .int .i64 tt] 28)).block w.heap.size (by simp)).trans (heap_alloc_new w (.cells #[.int .i64 ck, .int .i64 cf, .int .i64 cli, .int .i64 cn, .int .i64 tf, .int .i64 tr, .int .i64 te, .int .i64 tt, .slice Ad dl cd, .slice Al ll cl] 35)))
  have HB2 := hid ((((Gr.refl _).alloc (.cells #[.int .i64 tf, .int .i64 tr, .int .i64 te, .int .i64 tt] 28)).block y1.val.heap.size (by simp)).trans (heap_alloc_new y1.val (.cells #[.bool f1, .bool f2, .bool f3, .bool f4, .bool f5, .bool f6] 165)))
  have HB3 := hid (heap_alloc_new (y1.val.alloc (.cells #[.bool f1, .bool f2, .bool f3, .bool f4, .bool f5, .bool f6] 165)) (.cells #[.int .i64 tf, .int .i64 tr, .int .i64 te, .int .i64 tt] 28))
  rw [show (y1.val.alloc (.cells #[.bool f1, .bool f2, .bool f3, .bool f4, .bool f5, .bool f6] 165)).heap.size = y1.val.heap.size + 1 from by simp] at HB3
  generalize hw1 : ((y1.val.alloc (.cells #[.bool f1, .bool f2, .bool f3, .bool f4, .bool f5, .bool f6] 165)).alloc (.cells #[.int .i64 tf, .int .i64 tr, .int .i64 te, .int .i64 tt] 28)) = W1 at *
  clear hw1
  generalize hn1 : y1.val.heap.size = n1 at *
  clear hn1 y1
  obtain ⟨a0, a1, a2, a3, a4, a5, a6, a7, a8, a9⟩ := cells10 HB1.out
  obtain ⟨b0, b1, b2, b3, b4, b5⟩ := cells6 HB2.out
  obtain ⟨t0, t1, t2, t3⟩ := cells4 HB3.out
  have l1 := block_lt HB1.out
  have l2 := block_lt HB2.out
  have l3 := block_lt HB3.out
  go_cut [4] from 16 to 72 (fun t wx => t = .bool q1 ∧ W1 = wx)
  case first =>
    rcases HCL.out with ⟨rfl, rfl, rfl, rfl, rfl, rfl, rfl⟩ | ⟨rfl, rfl, rfl, rfl, rfl, rfl, rfl⟩ | ⟨rfl, rfl, rfl, rfl, rfl, rfl, rfl⟩ | ⟨rfl, rfl, rfl, rfl, rfl, rfl, rfl⟩ | ⟨rfl, rfl, rfl, rfl, rfl, rfl, rfl⟩ | ⟨rfl, rfl, rfl, rfl, rfl, rfl, rfl⟩ | ⟨rfl, rfl, rfl, rfl, rfl, rfl, rfl⟩ | ⟨rfl, rfl, rfl, rfl, rfl, rfl, rfl⟩
    · clear HCL
      go_wp2_with fail
      go_meet
      exact ⟨by rw [HQ1.out]; first | done | rfl, rfl⟩
    · clear HCL
      cases z4 : decide ((⟨tf, tr, te, tt⟩ : Tok) = ⟨0, 0, 0, 0⟩)
      · have hn := fun w => eq28 0 0 0 0 tf tr te tt w
        simp only [z4] at hn
        have Z4 := hid z4
        clear z4
        go_wp2_with fail
        go_meet
        exact ⟨by rw [HQ1.out, Z4.out]; first | done | rfl, rfl⟩
      · have hn := fun w => eq28 0 0 0 0 tf tr te tt w
        simp only [z4] at hn
        have Z4 := hid z4
        clear z4
        cases z6 : ((ll : Int) == 0)
        · have Z6 := hid z6
          go_wp2_with fail
          go_meet
          exact ⟨by rw [HQ1.out, Z4.out, Z6.out]; first | done | rfl, rfl⟩
        · have Z6 := hid z6
          go_wp2_with fail
          go_meet
          exact ⟨by rw [HQ1.out, Z4.out, Z6.out]; first | done | rfl, rfl⟩
    · clear HCL
      cases z2 : (cli == 0)
      · have Z2 := hid z2
        go_wp2_with fail
        go_meet
        exact ⟨by rw [HQ1.out, Z2.out]; first | done | rfl, rfl⟩
      · have Z2 := hid z2
        cases z3 : (cn == 0)
        · have Z3 := hid z3
          go_wp2_with fail
          go_meet
          exact ⟨by rw [HQ1.out, Z2.out, Z3.out]; first | done | rfl, rfl⟩
        · have Z3 := hid z3
          cases z4 : decide ((⟨tf, tr, te, tt⟩ : Tok) = ⟨0, 0, 0, 0⟩)
          · have hn := fun w => eq28 0 0 0 0 tf tr te tt w
            simp only [z4] at hn
            have Z4 := hid z4
            clear z4
            go_wp2_with fail
            go_meet
            exact ⟨by rw [HQ1.out, Z2.out, Z3.out, Z4.out]; first | done | rfl, rfl⟩
          · have hn := fun w => eq28 0 0 0 0 tf tr te tt w
            simp only [z4] at hn
            have Z4 := hid z4
            clear z4
            cases z6 : ((ll : Int) == 0)
            · have Z6 := hid z6
              go_wp2_with fail
              go_meet
              exact ⟨by rw [HQ1.out, Z2.out, Z3.out, Z4.out, Z6.out]; first | done | rfl, rfl⟩
            · have Z6 := hid z6
              go_wp2_with fail
              go_meet
              exact ⟨by rw [HQ1.out, Z2.out, Z3.out, Z4.out, Z6.out]; first | done | rfl, rfl⟩
    · clear HCL
      cases z2 : (cli == 0)
      · have Z2 := hid z2
        go_wp2_with fail
        go_meet
        exact ⟨by rw [HQ1.out, Z2.out]; first | done | rfl, rfl⟩
      · have Z2 := hid z2
        cases z3 : (cn == 0)
        · have Z3 := hid z3
          go_wp2_with fail
          go_meet
          exact ⟨by rw [HQ1.out, Z2.out, Z3.out]; first | done | rfl, rfl⟩
        · have Z3 := hid z3
          cases z4 : decide ((⟨tf, tr, te, tt⟩ : Tok) = ⟨0, 0, 0, 0⟩)
          · have hn := fun w => eq28 0 0 0 0 tf tr te tt w
            simp only [z4] at hn
            have Z4 := hid z4
            clear z4
            go_wp2_with fail
            go_meet
            exact ⟨by rw [HQ1.out, Z2.out, Z3.out, Z4.out]; first | done | rfl, rfl⟩
          · have hn := fun w => eq28 0 0 0 0 tf tr te tt w
            simp only [z4] at hn
            have Z4 := hid z4
            clear z4
            cases z5 : ((dl : Int) == 0)
            · have Z5 := hid z5
              go_wp2_with fail
              go_meet
              exact ⟨by rw [HQ1.out, Z2.out, Z3.out, Z4.out, Z5.out]; first | done | rfl, rfl⟩
            · have Z5 := hid z5
              cases z6 : ((ll : Int) == 0)
              · have Z6 := hid z6
                go_wp2_with fail
                go_meet
                exact ⟨by rw [HQ1.out, Z2.out, Z3.out, Z4.out, Z5.out, Z6.out]; first | done | rfl, rfl⟩
              · have Z6 := hid z6
                go_wp2_with fail
                go_meet
                exact ⟨by rw [HQ1.out, Z2.out, Z3.out, Z4.out, Z5.out, Z6.out]; first | done | rfl, rfl⟩
    · clear HCL
      cases z2 : (cli == 0)
      · have Z2 := hid z2
        go_wp2_with fail
        go_meet
        exact ⟨by rw [HQ1.out, Z2.out]; first | done | rfl, rfl⟩
      · have Z2 := hid z2
        cases z4 : decide ((⟨tf, tr, te, tt⟩ : Tok) = ⟨0, 0, 0, 0⟩)
        · have hn := fun w => eq28 0 0 0 0 tf tr te tt w
          simp only [z4] at hn
          have Z4 := hid z4
          clear z4
          go_wp2_with fail
          go_meet
          exact ⟨by rw [HQ1.out, Z2.out, Z4.out]; first | done | rfl, rfl⟩
        · have hn := fun w => eq28 0 0 0 0 tf tr te tt w
          simp only [z4] at hn
          have Z4 := hid z4
          clear z4
          cases z5 : ((dl : Int) == 0)
          · have Z5 := hid z5
            go_wp2_with fail
            go_meet
            exact ⟨by rw [HQ1.out, Z2.out, Z4.out, Z5.out]; first | done | rfl, rfl⟩
          · have Z5 := hid z5
            cases z6 : ((ll : Int) == 0)
            · have Z6 := hid z6
              go_wp2_with fail
              go_meet
              exact ⟨by rw [HQ1.out, Z2.out, Z4.out, Z5.out, Z6.out]; first | done | rfl, rfl⟩
            · have Z6 := hid z6
              go_wp2_with fail
              go_meet
              exact ⟨by rw [HQ1.out, Z2.out, Z4.out, Z5.out, Z6.out]; first | done | rfl, rfl⟩
    · clear HCL
      cases z1 : (cf == 0)
      · have Z1 := hid z1
        go_wp2_with fail
        go_meet
        exact ⟨by rw [HQ1.out, Z1.out]; first | done | rfl, rfl⟩
      · have Z1 := hid z1
        cases z3 : (cn == 0)
        · have Z3 := hid z3
          go_wp2_with fail
          go_meet
          exact ⟨by rw [HQ1.out, Z1.out, Z3.out]; first | done | rfl, rfl⟩
        · have Z3 := hid z3
          cases z4 : decide ((⟨tf, tr, te, tt⟩ : Tok) = ⟨0, 0, 0, 0⟩)
          · have hn := fun w => eq28 0 0 0 0 tf tr te tt w
            simp only [z4] at hn
            have Z4 := hid z4
            clear z4
            go_wp2_with fail
            go_meet
            exact ⟨by rw [HQ1.out, Z1.out, Z3.out, Z4.out]; first | done | rfl, rfl⟩
          · have hn := fun w => eq28 0 0 0 0 tf tr te tt w
            simp only [z4] at hn
            have Z4 := hid z4
            clear z4
            cases z5 : ((dl : Int) == 0)
            · have Z5 := hid z5
              go_wp2_with fail
              go_meet
              exact ⟨by rw [HQ1.out, Z1.out, Z3.out, Z4.out, Z5.out]; first | done | rfl, rfl⟩
            · have Z5 := hid z5
              cases z6 : ((ll : Int) == 0)
              · have Z6 := hid z6
                go_wp2_with fail
                go_meet
                exact ⟨by rw [HQ1.out, Z1.out, Z3.out, Z4.out, Z5.out, Z6.out]; first | done | rfl, rfl⟩
              · have Z6 := hid z6
                go_wp2_with fail
                go_meet
                exact ⟨by rw [HQ1.out, Z1.out, Z3.out, Z4.out, Z5.out, Z6.out]; first | done | rfl, rfl⟩
    · clear HCL
      cases z1 : (cf == 0)
      · have Z1 := hid z1
        go_wp2_with fail
        go_meet
        exact ⟨by rw [HQ1.out, Z1.out]; first | done | rfl, rfl⟩
      · have Z1 := hid z1
        cases z2 : (cli == 0)
        · have Z2 := hid z2
          go_wp2_with fail
          go_meet
          exact ⟨by rw [HQ1.out, Z1.out, Z2.out]; first | done | rfl, rfl⟩
        · have Z2 := hid z2
          cases z3 : (cn == 0)
          · have Z3 := hid z3
            go_wp2_with fail
            go_meet
            exact ⟨by rw [HQ1.out, Z1.out, Z2.out, Z3.out]; first | done | rfl, rfl⟩
          · have Z3 := hid z3
            cases z5 : ((dl : Int) == 0)
            · have Z5 := hid z5
              go_wp2_with fail
              go_meet
              exact ⟨by rw [HQ1.out, Z1.out, Z2.out, Z3.out, Z5.out]; first | done | rfl, rfl⟩
            · have Z5 := hid z5
              go_wp2_with fail
              go_meet
              exact ⟨by rw [HQ1.out, Z1.out, Z2.out, Z3.out, Z5.out]; first | done | rfl, rfl⟩
    · clear HCL
      cases z1 : (cf == 0)
      · have Z1 := hid z1
        go_wp2_with fail
        go_meet
        exact ⟨by rw [HQ1.out, Z1.out]; first | done | rfl, rfl⟩
      · have Z1 := hid z1
        cases z2 : (cli == 0)
        · have Z2 := hid z2
          go_wp2_with fail
          go_meet
          exact ⟨by rw [HQ1.out, Z1.out, Z2.out]; first | done | rfl, rfl⟩
        · have Z2 := hid z2
          cases z3 : (cn == 0)
          · have Z3 := hid z3
            go_wp2_with fail
            go_meet
            exact ⟨by rw [HQ1.out, Z1.out, Z2.out, Z3.out]; first | done | rfl, rfl⟩
          · have Z3 := hid z3
            cases z6 : ((ll : Int) == 0)
            · have Z6 := hid z6
              go_wp2_with fail
              go_meet
              exact ⟨by rw [HQ1.out, Z1.out, Z2.out, Z3.out, Z6.out]; first | done | rfl, rfl⟩
            · have Z6 := hid z6
              go_wp2_with fail
              go_meet
              exact ⟨by rw [HQ1.out, Z1.out, Z2.out, Z3.out, Z6.out]; first | done | rfl, rfl⟩
  case rest =>
    obtain ⟨rfl, rfl⟩ := hcut
    clear HQ1 HCL b0 b1 b2 b3 b4 b5
    go_upto_region 4 with fail
    go_cut [4] from 73 to 98 (fun t wx => t = .bool q2 ∧ Gr W1 wx)
    case first =>
      cases q1
      · go_wp2_with fail
        go_meet
        exact ⟨by rw [HQ2.out]; first | done | rfl, Gr.refl _⟩
      · have hZ := HQ2.out
        clear HQ2
        cases z1 : numB cf
        · rw [z1] at hZ
          have HZ := hid hZ
          clear hZ
          go_wp2_with (go_at_call 96; (first | refine (calls_ext _ (HB.out _ _)).mono ?_ | refine (HB.out _ _).mono ?_); rintro en _ ⟨rfl, y, rfl⟩)
          go_meet
          exact ⟨by rw [HZ.out]; first | done | rfl, (by first | exact Gr.refl _ | exact Ext.gr _)⟩
        · rw [z1] at hZ
          cases z2 : numB cli
          · rw [z2] at hZ
            have HZ := hid hZ
            clear hZ
            go_wp2_with (go_at_call 96; (first | refine (calls_ext _ (HB.out _ _)).mono ?_ | refine (HB.out _ _).mono ?_); rintro en _ ⟨rfl, y, rfl⟩)
            go_meet
            exact ⟨by rw [HZ.out]; first | done | rfl, (by first | exact Gr.refl _ | exact Ext.gr _)⟩
          · rw [z2] at hZ
            cases z3 : numB cn
            · rw [z3] at hZ
              have HZ := hid hZ
              clear hZ
              go_wp2_with (go_at_call 96; (first | refine (calls_ext _ (HB.out _ _)).mono ?_ | refine (HB.out _ _).mono ?_); rintro en _ ⟨rfl, y, rfl⟩)
              go_meet
              exact ⟨by rw [HZ.out]; first | done | rfl, (by first | exact Gr.refl _ | exact Ext.gr _)⟩
            · rw [z3] at hZ
              cases z4 : (ck != 1)
              · rw [z4] at hZ
                have HZ := hid hZ
                clear hZ
                go_wp2_with (go_at_call 96; (first | refine (calls_ext _ (HB.out _ _)).mono ?_ | refine (HB.out _ _).mono ?_); rintro en _ ⟨rfl, y, rfl⟩)
                go_meet
                exact ⟨by rw [HZ.out]; first | done | rfl, (by first | exact Gr.refl _ | exact Ext.gr _)⟩
              · rw [z4] at hZ
                have HZ := hid hZ
                clear hZ
                go_wp2_with (go_at_call 96; (first | refine (calls_ext _ (HB.out _ _)).mono ?_ | refine (HB.out _ _).mono ?_); rintro en _ ⟨rfl, y, rfl⟩)
                go_meet
                exact ⟨by rw [HZ.out]; first | done | rfl, (by first | exact Gr.refl _ | exact Ext.gr _)⟩
    case rest =>
      obtain ⟨rfl, g2⟩ := hcut
      have G2 := hid g2
      obtain ⟨a0, a1, a2, a3, a4, a5, a6, a7, a8, a9⟩ := cells10 ((g2.block _ l1).trans HB1.out)
      obtain ⟨t0, t1, t2, t3⟩ := cells4 ((g2.block _ l3).trans HB3.out)
      have l1' := Nat.lt_of_lt_of_le l1 g2.size
      have l3' := Nat.lt_of_lt_of_le l3 g2.size
      clear g2 HQ2
      go_wp2_with fail
      have HB4 := hid (heap_alloc_new wc (.cells #[.int .i64 tf, .int .i64 tr, .int .i64 te, .int .i64 tt] 3))
      have G3 := hid (G2.out.alloc (.cells #[.int .i64 tf, .int .i64 tr, .int .i64 te, .int .i64 tt] 3))
      obtain ⟨w2, hw2⟩ : ∃ w2, wc.alloc (.cells #[.int .i64 tf, .int .i64 tr, .int .i64 te, .int .i64 tt] 3) = w2 := ⟨_, rfl⟩
      rw [hw2] at HB4 G3 ⊢
      clear hw2 l1' l3' a0 a1 a2 a3 a4 a5 a6 a7 a8 a9 t0 t1 t2 t3 G2
      generalize wc.heap.size = n3 at *
      clear wc
      have l4 := block_lt HB4.out
      have HCELL := hid ((G3.out.block _ l1).trans HB1.out)
      have l1' := block_lt HCELL.out
      have GW := hid (G1.out.trans G3.out)
      clear G1 G3 HB1 HB2 HB3 l1 l2 l3
      go_loopw [4, 109] (fun p iv wr => ((iv = .int .i64 0 ∧ p = .bool q2) ∨ (iv = .int .i64 1 ∧ p = .bool q3) ∨ (iv = .int .i64 2 ∧ p = .bool q4) ∨ (iv = .int .i64 3 ∧ p = .bool q5) ∨ (iv = .int .i64 4 ∧ p = .bool q6)) ∧ Gr w2 wr) (fun _ iv _ => 4 - (intOf iv).toNat)
      case atStart => exact ⟨.inl ⟨rfl, rfl⟩, Gr.refl _⟩
      case round =>
        obtain ⟨hcs, hgr⟩ := hrel
        have HG := hid hgr
        obtain ⟨t0, t1, t2, t3⟩ := cells4 ((hgr.block _ l4).trans HB4.out)
        obtain ⟨a0, a1, a2, a3, a4, a5, a6, a7, a8, a9⟩ := cells10 ((hgr.block _ l1').trans HCELL.out)
        have m4 := Nat.lt_of_lt_of_le l4 hgr.size
        have m1 := Nat.lt_of_lt_of_le l1' hgr.size
        clear hgr
        rcases hcs with ⟨rfl, rfl⟩ | ⟨rfl, rfl⟩ | ⟨rfl, rfl⟩ | ⟨rfl, rfl⟩ | ⟨rfl, rfl⟩
        · cases q2
          · go_wp2_with fail
            go_roundw
            case rel => exact ⟨.inr (.inl ⟨by first | rfl | go_num, by rw [HQ3.out]; first | done | rfl⟩), HG.out⟩
            case measure => simp [intOf]
          · go_wp2_with (go_at_call 96; refine (HB.out _ _).mono ?_; rintro en _ ⟨rfl, y, rfl⟩)
            go_roundw
            case rel => exact ⟨.inr (.inl ⟨by first | rfl | go_num, by rw [HQ3.out, Bool.true_and]⟩), HG.out.ext y⟩
            case measure => simp [intOf]
        · cases q3
          · go_wp2_with fail
            go_roundw
            case rel => exact ⟨.inr (.inr (.inl ⟨by first | rfl | go_num, by rw [HQ4.out]; first | done | rfl⟩)), HG.out⟩
            case measure => simp [intOf]
          · go_wp2_with (go_at_call 96; refine (HB.out _ _).mono ?_; rintro en _ ⟨rfl, y, rfl⟩)
            go_roundw
            case rel => exact ⟨.inr (.inr (.inl ⟨by first | rfl | go_num, by rw [HQ4.out, Bool.true_and]⟩)), HG.out.ext y⟩
            case measure => simp [intOf]
        · cases q4
          · go_wp2_with fail
            go_roundw
            case rel => exact ⟨.inr (.inr (.inr (.inl ⟨by first | rfl | go_num, by rw [HQ5.out]; first | done | rfl⟩))), HG.out⟩
            case measure => simp [intOf]
          · go_wp2_with (go_at_call 96; refine (HB.out _ _).mono ?_; rintro en _ ⟨rfl, y, rfl⟩)
            go_roundw
            case rel => exact ⟨.inr (.inr (.inr (.inl ⟨by first | rfl | go_num, by rw [HQ5.out, Bool.true_and]⟩))), HG.out.ext y⟩
            case measure => simp [intOf]
        · cases q5
          · go_wp2_with fail
            go_roundw
            case rel => exact ⟨.inr (.inr (.inr (.inr ⟨by first | rfl | go_num, by rw [HQ6.out]; first | done | rfl⟩))), HG.out⟩
            case measure => simp [intOf]
          · go_wp2_with (go_at_call 96; refine (HB.out _ _).mono ?_; rintro en _ ⟨rfl, y, rfl⟩)
            go_roundw
            case rel => exact ⟨.inr (.inr (.inr (.inr ⟨by first | rfl | go_num, by rw [HQ6.out, Bool.true_and]⟩))), HG.out.ext y⟩
            case measure => simp [intOf]
        · go_upto_region 10 with fail
          go_cut [4] from 119 to 131 (fun t wx => t = .bool q7 ∧ wr = wx)
          case first =>
            cases q6
            · go_wp2_with fail
              go_meet
              exact ⟨by rw [HQ7.out]; first | done | rfl, rfl⟩
            · cases z1 : decide ((dl : Int) ≤ 4096)
              · have hz : ¬ (dl : Int) ≤ 4096 := by simpa using z1
                rw [z1] at HQ7
                go_wp2_with fail
                go_meet
                exact ⟨by rw [HQ7.out]; first | done | rfl, rfl⟩
              · have hz : (dl : Int) ≤ 4096 := by simpa using z1
                rw [z1] at HQ7
                go_wp2_with fail
                go_meet
                exact ⟨by rw [HQ7.out]; first | done | rfl, rfl⟩
          case rest =>
            obtain ⟨rfl, rfl⟩ := hcut
            cases q7
            · go_wp2_with fail
              go_ret
              exact ⟨by rw [HR.out]; first | done | rfl, GW.out.trans HG.out⟩
            · go_wp2_with (go_at_call 97; refine (HCON.out _ (GW.out.trans HG.out)).mono ?_; rintro en _ ⟨rfl, y, rfl⟩)
              go_ret
              exact ⟨by rw [HR.out]; first | done | rfl, (GW.out.trans HG.out).ext y⟩
theorem right_any (c : Call) (d l : Value) (M : Bl) (w : World) (hc : CallM w M c d l) (hll : c.l.length ≤ 140737488351232) (hdd : ∀ d ∈ c.l, d.data.length ≤ 140737488351232) : Calls Tryz.prog 59 #[callV c d l] w (RetE (.bool (rightC c)) w) := by
  obtain ⟨Ad, cd, rfl, hdl, _⟩ := hc.1
  obtain ⟨Al, cl, rfl, _⟩ := hc.2.shape
  have hl := hc.2
  clear hc
  have hk := fun W => hasK_any c.kind W
  rcases c with ⟨ck, cf, cli, cn, ⟨tf, tr, te, tt⟩, cdat, cls⟩
  simp only [callV, callC, hasV] at *
  refine right_flags ck cf cli cn tf tr te tt Ad Al cdat.length cd cls.length cl cls M w _ _ _ _ _ _ _ _ hk ?_ hl rfl hll hdl hdd ?_
  · by_cases h1 : ck = 1
    · subst h1; simp [hasFlow, hasList, hasN, hasTok, hasData, hasL]
    by_cases h2 : ck = 2
    · subst h2; simp [hasFlow, hasList, hasN, hasTok, hasData, hasL]
    by_cases h3 : ck = 3
    · subst h3; simp [hasFlow, hasList, hasN, hasTok, hasData, hasL]
    by_cases h4 : ck = 4
    · subst h4; simp [hasFlow, hasList, hasN, hasTok, hasData, hasL]
    by_cases h5 : ck = 5
    · subst h5; simp [hasFlow, hasList, hasN, hasTok, hasData, hasL]
    by_cases h6 : ck = 6
    · subst h6; simp [hasFlow, hasList, hasN, hasTok, hasData, hasL]
    by_cases h7 : ck = 7
    · subst h7; simp [hasFlow, hasList, hasN, hasTok, hasData, hasL]
    by_cases h8 : ck = 8
    · subst h8; simp [hasFlow, hasList, hasN, hasTok, hasData, hasL]
    by_cases h9 : ck = 9
    · subst h9; simp [hasFlow, hasList, hasN, hasTok, hasData, hasL]
    by_cases h10 : ck = 10
    · subst h10; simp [hasFlow, hasList, hasN, hasTok, hasData, hasL]
    by_cases h11 : ck = 11
    · subst h11; simp [hasFlow, hasList, hasN, hasTok, hasData, hasL]
    left
    have hb : (decide (1 ≤ ck) && decide (ck ≤ 11)) = false := by
      cases h : (decide (1 ≤ ck) && decide (ck ≤ 11)) with
      | false => rfl
      | true =>
        simp only [Bool.and_eq_true, decide_eq_true_eq] at h
        omega
    exact ⟨hb, by simp [hasFlow, h1, h2, h3, h4, h5, h6], by simp [hasList, h1, h7, h9], by simp [hasN, h1, h6], by simp [hasTok, h8, h10, h11], by simp [hasData, h1, h2, h4, h10, h11], by simp [hasL, h8]⟩
  · rw [rightC_eq]
    have z1 : ((cdat.length : Int) == 0) = (cdat.length == 0) := by rw [Bool.eq_iff_iff]; simp
    have z2 : ((cls.length : Int) == 0) = (cls.length == 0) := by rw [Bool.eq_iff_iff]; simp
    have z3 : decide ((cdat.length : Int) ≤ 4096) = decide (cdat.length ≤ 4096) := by rw [Bool.eq_iff_iff]; simp; omega
    have z4 : decide ((cls.length : Int) ≤ 32) = decide (cls.length ≤ 32) := by rw [Bool.eq_iff_iff]; simp; omega
    rw [z1, z2, z3, z4]
    rfl
end Go.Proofs.YtniknicnnaiilaaGreat
end
