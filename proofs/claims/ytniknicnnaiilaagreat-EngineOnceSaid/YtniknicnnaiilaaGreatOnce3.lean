/- Lemmas: what the functions of the engine answer, and which blocks they write. -/
import Derived.ChangeOld
import Derived.ChangeSame
import Derived.Deep.Fields
import Derived.Deep.Slices
import Derived.Lib.SmallJoins
import Derived.OpenShut
import Derived.ProofKit
import Derived.SizedLaws
import Derived.Test.YtniknicnnaiilaaGreatX01
import Derived.Test.YtniknicnnaiilaaGreatX33
import Derived.Test.YtniknicnnaiilaaGreatOnce1
import Derived.Test.YtniknicnnaiilaaGreatOnce2
section
namespace Go.Proofs.YtniknicnnaiilaaGreat
set_option maxRecDepth 100000
open Go.RowKit Go.Ext Go.BigFrame Go.Maps Go.MapKept
attribute [local go_sem] Ext.cell Ext.frozen Ext.lt Ext.le s1 s2 s3 s4 s5 s6 t1 t2 t3 t4 t5 t6
attribute [local go_sem ↓] Go.wp_at_zero Go.wp_at_succ
theorem tick1_any (k : Nat) (E : ES) (x : Int) (M S : Bl) (w : World) (h : EngR w M S k E) (hE : EOk E) (hdue : E.due.length ≤ 990000) : Calls Tryz.prog 23 #[.pointer (some ⟨k, 0, none⟩), .int .i64 x] w (RetK M S k (tickE E x) w) :=
  tick_anyE (fun k mb F e d M w h hk hmb hne hM hd hl hi h1 hw => put_any k mb F e d M w h hk hmb hne hM hd hl hi h1 hw) k E x M S w h hE hdue
theorem e1_tick {E : ES} {m : Nat} (h : E1 E m) (n : Int) : E1 (tickE E n).2 m := ⟨(tick_nx E n).1 h.ok, (tick_nx E n).2.2.1.trans h.g, Nat.le_trans (tick_nx E n).2.1 h.due⟩
theorem Lw.old2 {w0 w1 w : World} {M S : Bl} {k n : Nat} {E : ES} (h : Lw w1 w M S k E n) (g : Gr w0 w1) : Lw w0 w M S k E n :=
  ⟨⟨h.law.eng, h.law.e1, g.trans h.law.g, fun b e => Nat.le_trans g.size (h.law.s b e)⟩, fun b e => Nat.le_trans g.size (h.m b e)⟩
theorem Lw.upF {w0 w : World} {M S : Bl} {k n : Nat} {E : ES} (h : Lw w0 w M S k E n) : Up (fun _ => False) w0 M w := ⟨h.law.g.mod _, fun b hb e => by have := h.m b e; omega⟩
theorem set4_tok {w : World} {B : Nat} {ty : TypeId} {a b c d a' b' c' d' : Value} (h : w.heap[B]? = some (.cells #[a, b, c, d] ty (0, 0))) :
    ∃ w', (((w.setCell ⟨B, 0, none⟩ a').setCell ⟨B, 1, none⟩ b').setCell ⟨B, 2, none⟩ c').setCell ⟨B, 3, none⟩ d' = w' ∧ Mod (fun x => x = B) w w' ∧ w'.heap[B]? = some (.cells #[a', b', c', d'] ty (0, 0)) := by
  refine ⟨_, rfl, mod_setk (mod_setk (mod_setk (mod_setk ((Gr.refl w).mod _)))), ?_⟩
  have := set1_heap (j := 3) (set1_heap (j := 2) (set1_heap (j := 1) (set1_heap (j := 0) h a') b') c') d'
  simpa only [List.setIfInBounds_toArray, List.set_cons_zero, List.set_cons_succ] using this
theorem set4_act {w : World} {B : Nat} {ty : TypeId} {a b c d e f g h i j k l m f' g' h' i' : Value} (hh : w.heap[B]? = some (.cells #[a, b, c, d, e, f, g, h, i, j, k, l, m] ty (0, 0))) :
    ∃ w', (((w.setCell ⟨B, 5, none⟩ f').setCell ⟨B, 6, none⟩ g').setCell ⟨B, 7, none⟩ h').setCell ⟨B, 8, none⟩ i' = w' ∧ Mod (fun x => x = B) w w' ∧ w'.heap[B]? = some (.cells #[a, b, c, d, e, f', g', h', i', j, k, l, m] ty (0, 0)) := by
  refine ⟨_, rfl, mod_setk (mod_setk (mod_setk (mod_setk ((Gr.refl w).mod _)))), ?_⟩
  have := set1_heap (j := 8) (set1_heap (j := 7) (set1_heap (j := 6) (set1_heap (j := 5) hh f') g') h') i'
  simpa only [List.setIfInBounds_toArray, List.set_cons_zero, List.set_cons_succ] using this
structure Oc (w0 w : World) (M S : Bl) (k bt mb : Nat) (E : ES) (n : Nat) (t : Tok) (Sn : Tok → Bool) (m : Nat) : Prop where
  lw : Lw w0 w M S k E n
  j : EJ E
  tok : TokOk t
  cells : w.heap[bt]? = some (.cells #[.int .i64 t.flow, .int .i64 t.run, .int .i64 t.event, .int .i64 t.turn] 28 (0, 0))
  map : MT w mb m Sn
  mt : M bt
  st : ¬ S bt
  mm : M mb
  sm : ¬ S mb
  ne : mb ≠ bt
  seen : ∀ x, Sn x = true → Seen E x
section
variable {w0 w w' w2 : World} {M S M2 S2 : Bl} {k bt mb n m : Nat} {E E' : ES} {t : Tok} {Sn : Tok → Bool}
theorem Oc.more {B : Nat} (h : Oc w0 w M S k bt mb E n t Sn m) (g : Gr w w') (h1 : w.heap.size ≤ B) (h2 : B < w'.heap.size) : Oc w0 w' (fun b => M b ∨ b = B) S k bt mb E n t Sn m :=
  ⟨h.lw.more g h1 h2, h.j, h.tok, (g.block bt (block_lt h.cells)).trans h.cells, h.map.gr g, .inl h.mt, h.st, .inl h.mm, h.sm, h.ne, h.seen⟩
theorem Oc.gr (h : Oc w0 w M S k bt mb E n t Sn m) (g : Gr w w') : Oc w0 w' M S k bt mb E n t Sn m :=
  ⟨h.lw.gr g, h.j, h.tok, (g.block bt (block_lt h.cells)).trans h.cells, h.map.gr g, h.mt, h.st, h.mm, h.sm, h.ne, h.seen⟩
theorem Oc.step {n' : Nat} (h : Oc w0 w M S k bt mb E n t Sn m) (hal : Along w M S w2 M2 S2) (hl : Lw w0 w2 M2 S2 k E' n') (hj : EJ E') (hs : ∀ x, Seen E x → Seen E' x) : Oc w0 w2 M2 S2 k bt mb E' n' t Sn m :=
  ⟨hl, hj, h.tok, (hal.mod.block bt (block_lt h.cells) h.st).trans h.cells, h.map.keep (hal.mod.block mb h.map.lt h.sm), hal.mm _ h.mt, fun e => h.st (hal.s _ (block_lt h.cells) e), hal.mm _ h.mm, fun e => h.sm (hal.s _ h.map.lt e), h.ne, fun x e => hs x (h.seen x e)⟩
theorem Oc.set {B : Nat} (h : Oc w0 w M S k bt mb E n t Sn m) (md : Mod (fun b => b = B) w w') (h1 : M B) (h2 : ¬ S B) (n1 : bt ≠ B) (n2 : mb ≠ B) : Oc w0 w' M S k bt mb E n t Sn m :=
  ⟨h.lw.set md h1 h2, h.j, h.tok, (md.block bt (block_lt h.cells) n1).trans h.cells, h.map.keep (md.block mb h.map.lt n2), h.mt, h.st, h.mm, h.sm, h.ne, h.seen⟩
theorem Oc.setTok {t' : Tok} (h : Oc w0 w M S k bt mb E n t Sn m) (md : Mod (fun b => b = bt) w w') (ht : TokOk t') (hc : w'.heap[bt]? = some (.cells #[.int .i64 t'.flow, .int .i64 t'.run, .int .i64 t'.event, .int .i64 t'.turn] 28 (0, 0))) : Oc w0 w' M S k bt mb E n t' Sn m :=
  ⟨h.lw.set md h.mt h.st, h.j, ht, hc, h.map.keep (md.block mb h.map.lt h.ne), h.mt, h.st, h.mm, h.sm, h.ne, h.seen⟩
theorem Oc.setMap {m' : Nat} {Sn' : Tok → Bool} (h : Oc w0 w M S k bt mb E n t Sn m) (md : Mod (fun b => b = mb) w w') (hm : MT w' mb m' Sn') (hs : ∀ x, Sn' x = true → Seen E x) : Oc w0 w' M S k bt mb E n t Sn' m' :=
  ⟨h.lw.set md h.mm h.sm, h.j, h.tok, (md.block bt (block_lt h.cells) h.ne.symm).trans h.cells, hm, h.mt, h.st, h.mm, h.sm, h.ne, hs⟩
end
theorem cells13 {W : World} {B : Nat} {t : TypeId} {a b c d e f g h i j k l m : Value} (hh : W.heap[B]? = some (.cells #[a, b, c, d, e, f, g, h, i, j, k, l, m] t (0, 0))) :
    W.cell? ⟨B, 0, none⟩ = some a ∧ W.cell? ⟨B, 1, none⟩ = some b ∧ W.cell? ⟨B, 2, none⟩ = some c ∧ W.cell? ⟨B, 3, none⟩ = some d ∧ W.cell? ⟨B, 4, none⟩ = some e ∧ W.cell? ⟨B, 5, none⟩ = some f ∧ W.cell? ⟨B, 6, none⟩ = some g ∧ W.cell? ⟨B, 7, none⟩ = some h ∧ W.cell? ⟨B, 8, none⟩ = some i ∧ W.cell? ⟨B, 9, none⟩ = some j ∧ W.cell? ⟨B, 10, none⟩ = some k ∧ W.cell? ⟨B, 11, none⟩ = some l ∧ W.cell? ⟨B, 12, none⟩ = some m := by
  refine ⟨?_, ?_, ?_, ?_, ?_, ?_, ?_, ?_, ?_, ?_, ?_, ?_, ?_⟩ <;> simp [World.cell?, hh]
set_option maxHeartbeats 16000000 in
theorem once_any (A : Option Addr) (c : Nat) (xs : List ActD) (w : World) (h : ActsM w (fun _ => False) A xs) (hl : xs.length ≤ 140737488351232) :
    Calls Tryz.prog 7 #[.slice A xs.length c] w (RetE (.bool true) w) := by
  have HKN := hid known_any
  have H := hid h
  have HL := hid hl
  have HFEW := hid (fun W (g : Gr w W) => few_any A c xs (fun _ => False) W (h.up (Gr.up g _)) hl)
  obtain ⟨len, hn⟩ : ∃ n, xs.length = n := ⟨_, rfl⟩
  have HLEN := hid hn
  rw [hn] at HL HFEW ⊢
  clear h hl hn
  refine retE ?_
  go_enter Tryz.func7, Tryz.ntmps7
  go_upto_region 3 with (go_at_call 12; refine (HKN.out _).mono ?_; rintro en _ ⟨rfl, y1, rfl⟩)
  go_wp2_with fail
  refine (HFEW.out _ y1.gr).mono ?_
  rintro en w2 ⟨b, rfl, hb, g2⟩
  have G2 := hid (y1.gr.trans g2)
  clear g2 HFEW
  cases b with
  | false =>
    go_wp2_with fail
    go_ret
    exact ⟨rfl, G2.out⟩
  | true =>
    have hlen : len ≤ 150 := hb rfl
    clear hb
    go_wp2_with fail
    refine (new1_any (fun _ => False) _ (fun _ e => e.elim)).mono ?_
    rintro en w3 ⟨M3, S3, k, rfl, g3, he3, -, hm3, hs3⟩
    have L3 := hid ((show Lw w2 w3 M3 S3 k (e0 0 1) 0 from ⟨⟨he3, e1_e0, g3, hs3⟩, fun b e => Nat.le_of_not_lt fun hb => hm3 b hb e⟩).old2 G2.out)
    have NS := hid (fun b (hb : w3.heap.size ≤ b) => L3.out.law.eng.nS hb)
    clear g3 he3 hm3 hs3
    have hmm := @run_makeMap Tryz.prog
    go_upto_region 10 with fail
    clear hmm
    obtain ⟨w4, hw4⟩ : ∃ w4, w3.alloc (.map #[] 0) = w4 := ⟨_, rfl⟩
    have G4 := hid (hw4 ▸ (Gr.refl w3).alloc (.map #[] 0))
    have HM4 := hid (show MT w4 w3.heap.size 0 (fun _ => false) from hw4 ▸ MT.made w3)
    obtain ⟨w5, hw5⟩ : ∃ w5, w4.alloc (.cells #[.int .i64 0, .int .i64 0, .int .i64 0, .int .i64 0] 28) = w5 := ⟨_, rfl⟩
    have G5 := hid (hw5 ▸ (Gr.refl w4).alloc (.cells #[.int .i64 0, .int .i64 0, .int .i64 0, .int .i64 0] 28))
    have HT5 := hid (hw5 ▸ heap_alloc_new w4 (.cells #[.int .i64 0, .int .i64 0, .int .i64 0, .int .i64 0] 28))
    have hs4 : w3.heap.size < w4.heap.size := HM4.out.lt
    have OC := hid (show Oc w w5 (fun b => (M3 b ∨ b = w3.heap.size) ∨ b = w4.heap.size) S3 k w4.heap.size w3.heap.size (e0 0 1) 0 tok0 (fun _ => false) 0 from
      ⟨(L3.out.more G4.out (Nat.le_refl _) HM4.out.lt).more G5.out (Nat.le_refl _) (block_lt HT5.out), ej_e0, by simp [TokOk, I64, tok0], HT5.out, HM4.out.gr G5.out, .inr rfl, NS.out _ (Nat.le_of_lt hs4), .inl (.inr rfl), NS.out _ (Nat.le_refl _), by omega, fun x e => by cases e⟩)
    have h4s : w4.heap.size = w3.heap.size + 1 := by rw [← hw4]; simp
    rw [hw4, hw5]
    rw [h4s] at OC
    clear hw4 hw5 hs4 HT5 HM4 G4 G5 NS L3 h4s
    generalize w3.heap.size = mb at *
    have hlz150 : (len : Int) ≤ 150 := by omega
    go_wp2_with fail
    go_loopw [7] (fun iv wr => ∃ (i : Nat) (E : ES) (M S : Bl) (n : Nat) (t : Tok) (Sn : Tok → Bool) (m : Nat), iv = .int .i64 i ∧ i ≤ len ∧ Oc w wr M S k (mb + 1) mb E n t Sn m ∧ n ≤ 100 * i ∧ m ≤ i) (fun iv _ => len - (intOf iv).toNat)
    case atStart => exact ⟨0, _, _, _, _, _, _, _, rfl, Nat.zero_le _, OC.out, by omega, by omega⟩
    case round =>
      obtain ⟨i, E, M, S, n, t, Sn, m, rfl, hi, oc, hn, hm⟩ := hrel
      have O := hid oc
      have HN := hid hn
      have HM := hid hm
      clear oc hn hm OC
      by_cases hlt : i < len
      · obtain ⟨a, ha⟩ : ∃ a, xs[i]? = some a := ⟨_, List.getElem?_eq_getElem (by rw [HLEN.out]; exact hlt)⟩
        obtain ⟨b, off, Ad, cd, Al, cl, rfl, hb, -, hcm, hll, hx⟩ := H.out.up O.out.lw.upF i a ha
        have HDAT := hid hcm.datas
        have HCM := hid hcm
        have HLL := hid hll
        rcases a with ⟨ao, ⟨ak, af, al, an, ⟨t0, t1, t2, t3⟩, adat, als⟩, la, nn⟩
        simp only at HDAT HCM HLL hx
        clear hcm hll ha
        have c0 := hx 0 _ rfl
        have c1 := hx 1 _ rfl
        have c2 := hx 2 _ rfl
        have c3 := hx 3 _ rfl
        have c4 := hx 4 _ rfl
        have c5 := hx 5 _ rfl
        have c6 := hx 6 _ rfl
        have c7 := hx 7 _ rfl
        have c8 := hx 8 _ rfl
        have c9 := hx 9 _ rfl
        have c10 := hx 10 _ rfl
        have c11 := hx 11 _ rfl
        have c12 := hx 12 _ rfl
        simp only at c0 c1 c2 c3 c4 c5 c6 c7 c8 c9 c10 c11 c12
        rw [Nat.add_zero] at c0
        obtain ⟨ll, hll9⟩ : ∃ n, als.length = n := ⟨_, rfl⟩
        have HLL9 := hid hll9
        rw [hll9] at HCM c10
        generalize adat.length = dl at *
        clear hx hll9
        have hlz : (i : Int) < (len : Int) := by omega
        go_upto_region 14 with fail
        obtain ⟨w1, hw1⟩ : ∃ w1, wr.alloc (.cells #[.int .i64 ao, .int .i64 ak, .int .i64 af, .int .i64 al, .int .i64 an, .int .i64 t0, .int .i64 t1, .int .i64 t2, .int .i64 t3, .slice Ad dl cd, .slice Al ll cl, .bool la, .int .i64 nn] 54) = w1 := ⟨_, rfl⟩
        have HB1 := hid (hw1 ▸ heap_alloc_new wr (.cells #[.int .i64 ao, .int .i64 ak, .int .i64 af, .int .i64 al, .int .i64 an, .int .i64 t0, .int .i64 t1, .int .i64 t2, .int .i64 t3, .slice Ad dl cd, .slice Al ll cl, .bool la, .int .i64 nn] 54))
        have G1 := hid (hw1 ▸ (Gr.refl wr).alloc (.cells #[.int .i64 ao, .int .i64 ak, .int .i64 af, .int .i64 al, .int .i64 an, .int .i64 t0, .int .i64 t1, .int .i64 t2, .int .i64 t3, .slice Ad dl cd, .slice Al ll cl, .bool la, .int .i64 nn] 54))
        rw [hw1]
        clear hw1 c0 c1 c2 c3 c4 c5 c6 c7 c8 c9 c10 c11 c12
        have O1 := hid (O.out.more G1.out (Nat.le_refl _) (block_lt HB1.out))
        have NB := hid (And.intro (O.out.lw.law.eng.nS (Nat.le_refl wr.heap.size)) (And.intro (Nat.ne_of_lt (block_lt O.out.cells)) (Nat.ne_of_lt O.out.map.lt)))
        have CM1 := hid (HCM.out.up (show Up M wr (fun b => M b ∨ b = wr.heap.size) w1 from ⟨G1.out.mod M, fun b hb e => by
          rcases e with e | e
          · exact e
          · omega⟩))
        clear HCM hb
        generalize wr.heap.size = ba at *
        obtain ⟨z0, z1, z2, z3, z4, z5, z6, z7, z8, z9, z10, z11, z12⟩ := cells13 HB1.out
        have lb := block_lt HB1.out
        by_cases hop : ao = 2
        · subst hop
          go_wp2_with fail
          clear z0 z1 z2 z3 z4 z5 z6 z7 z8 z9 z10 z11 z12
          refine (tick1_any k E nn _ S w1 O1.out.lw.law.eng O1.out.j.ok (Nat.le_trans O1.out.lw.law.e1.due (by have := HN.out; omega))).mono ?_
          rintro en w2 ⟨M2, S2, rfl, e2, hal2⟩
          have O2 := hid (O1.out.step hal2 (O1.out.lw.step hal2 e2 (e1_tick O1.out.lw.law.e1 nn)) (ej_tick O1.out.j nn) (fun x h => h.gro (tick_nx E nn).2.2.2))
          clear e2 hal2
          go_wp2_with fail
          go_roundw
          case rel => exact ⟨i + 1, _, _, _, _, _, _, _, by go_num, by omega, O2.out, by have := HN.out; omega, by have := HM.out; omega⟩
          case measure => simp [intOf]; omega
        · have hopz : (ao == 2) = false := by simpa using hop
          cases la
          case' false =>
            go_upto_region 18 with fail
            obtain ⟨w2, hw2⟩ : ∃ w2, w1 = w2 := ⟨_, rfl⟩
            have HA2 := hid (show ∃ (c : Call) (lb : Bool), w2.heap[ba]? = some (.cells #[.int .i64 ao, .int .i64 c.kind, .int .i64 c.flow, .int .i64 c.list, .int .i64 c.n, .int .i64 c.tok.flow, .int .i64 c.tok.run, .int .i64 c.tok.event, .int .i64 c.tok.turn, .slice Ad dl cd, .slice Al ll cl, .bool lb, .int .i64 nn] 54 (0, 0)) ∧ CallM w2 (fun b => M b ∨ b = ba) c (.slice Ad dl cd) (.slice Al ll cl) ∧ c.l = als from
              ⟨⟨ak, af, al, an, ⟨t0, t1, t2, t3⟩, adat, als⟩, false, hw2 ▸ HB1.out, hw2 ▸ CM1.out, rfl⟩)
            have O2 := hid (hw2 ▸ O1.out)
          case' true =>
            obtain ⟨x0, x1, x2, x3⟩ := cells4 O1.out.cells
            have lt := block_lt O1.out.cells
            have f5 := frozen_of (j := 5) HB1.out
            have f6 := frozen_of (j := 6) HB1.out
            have f7 := frozen_of (j := 7) HB1.out
            have f8 := frozen_of (j := 8) HB1.out
            go_upto_region 18 with fail
            obtain ⟨w2, hw2, m2, hc2⟩ := set4_act (f' := .int .i64 t.flow) (g' := .int .i64 t.run) (h' := .int .i64 t.event) (i' := .int .i64 t.turn) HB1.out
            have HA2 := hid (show ∃ (c : Call) (lb : Bool), w2.heap[ba]? = some (.cells #[.int .i64 ao, .int .i64 c.kind, .int .i64 c.flow, .int .i64 c.list, .int .i64 c.n, .int .i64 c.tok.flow, .int .i64 c.tok.run, .int .i64 c.tok.event, .int .i64 c.tok.turn, .slice Ad dl cd, .slice Al ll cl, .bool lb, .int .i64 nn] 54 (0, 0)) ∧ CallM w2 (fun b => M b ∨ b = ba) c (.slice Ad dl cd) (.slice Al ll cl) ∧ c.l = als from
              ⟨⟨ak, af, al, an, t, adat, als⟩, true, hc2, CM1.out.up (Mod.up m2 (fun _ _ e => .inr e)), rfl⟩)
            have O2 := hid (O1.out.set m2 (.inr rfl) NB.out.1 NB.out.2.1 NB.out.2.2)
            clear x0 x1 x2 x3 f5 f6 f7 f8 m2 hc2 lt
          all_goals (
            rw [hw2]
            clear hw2 z0 z1 z2 z3 z4 z5 z6 z7 z8 z9 z10 z11 z12 lb CM1 O1 HB1
            obtain ⟨⟨ck, cf, cli, cn, ⟨tf, tr, te, tt⟩, cdat, cls⟩, lb2, hb2, hcm2, hcl⟩ := HA2.out
            simp only at hb2 hcl
            subst hcl
            have HCM2 := hid hcm2
            clear hcm2 HA2
            obtain ⟨z0, z1, z2, z3, z4, z5, z6, z7, z8, z9, z10, z11, z12⟩ := cells13 hb2
            have lb := block_lt hb2
            have hc := O2.out.lw.call ⟨ck, cf, cli, cn, ⟨tf, tr, te, tt⟩, cdat, cls⟩ (.slice Ad dl cd) (.slice Al ll cl) (by have := HN.out; omega) HCM2.out HLL.out HDAT.out
            have hj := ej_call O2.out.j ⟨ck, cf, cli, cn, ⟨tf, tr, te, tt⟩, cdat, cls⟩
            have hs := fun x (h : Seen E x) => seen_call h ⟨ck, cf, cli, cn, ⟨tf, tr, te, tt⟩, cdat, cls⟩
            have hnew : (call1 E ⟨ck, cf, cli, cn, ⟨tf, tr, te, tt⟩, cdat, cls⟩).1.given = true → ¬ Seen E (call1 E ⟨ck, cf, cli, cn, ⟨tf, tr, te, tt⟩, cdat, cls⟩).1.tok ∧ Seen (call1 E ⟨ck, cf, cli, cn, ⟨tf, tr, te, tt⟩, cdat, cls⟩).2 (call1 E ⟨ck, cf, cli, cn, ⟨tf, tr, te, tt⟩, cdat, cls⟩).1.tok := call_new sh0 ⟨ck, cf, cli, cn, ⟨tf, tr, te, tt⟩, cdat, cls⟩ O2.out.j
            have htk : (call1 E ⟨ck, cf, cli, cn, ⟨tf, tr, te, tt⟩, cdat, cls⟩).1.given = true → TokOk (call1 E ⟨ck, cf, cli, cn, ⟨tf, tr, te, tt⟩, cdat, cls⟩).1.tok := call_tok sh0 ⟨ck, cf, cli, cn, ⟨tf, tr, te, tt⟩, cdat, cls⟩ O2.out.j
            obtain ⟨⟨ans, E'⟩, hx⟩ : ∃ x, call1 E ⟨ck, cf, cli, cn, ⟨tf, tr, te, tt⟩, cdat, cls⟩ = x := ⟨_, rfl⟩
            rw [hx] at hc hj hs hnew htk
            have HF := hid (And.intro hj (And.intro hs (And.intro hnew htk)))
            clear hj hs hnew htk hx
            go_wp2_with fail
            clear z0 z1 z2 z3 z4 z5 z6 z7 z8 z9 z10 z11 z12 lb hb2
            refine hc.mono ?_
            clear hc
            rintro en w3 ⟨A3, c3, A3', c3', M3, S3, rfl, l3, hal3, -, -⟩
            have O3 := hid (O2.out.step hal3 l3 HF.out.1 HF.out.2.1)
            clear l3 hal3
            rcases ans with ⟨v0, v1, v2, v3, ⟨v4, v5, v6, v7⟩, v8, v9⟩
            have HNEW := hid HF.out.2.2
            simp only at HNEW
            clear HF
            simp only [ansV, ansC]
            generalize v8.length = n8 at *
            generalize v9.length = n9 at *
            go_upto_region 19 with fail
            obtain ⟨w4, hw4⟩ : ∃ w4, w3.alloc (.cells #[.int .i64 v0, .int .i64 v1, .int .i64 v2, .bool v3, .int .i64 v4, .int .i64 v5, .int .i64 v6, .int .i64 v7, .slice A3 n8 c3, .slice A3' n9 c3'] 31) = w4 := ⟨_, rfl⟩
            have HB4 := hid (hw4 ▸ heap_alloc_new w3 (.cells #[.int .i64 v0, .int .i64 v1, .int .i64 v2, .bool v3, .int .i64 v4, .int .i64 v5, .int .i64 v6, .int .i64 v7, .slice A3 n8 c3, .slice A3' n9 c3'] 31))
            have O4 := hid (O3.out.gr (hw4 ▸ (Gr.refl w3).alloc (.cells #[.int .i64 v0, .int .i64 v1, .int .i64 v2, .bool v3, .int .i64 v4, .int .i64 v5, .int .i64 v6, .int .i64 v7, .slice A3 n8 c3, .slice A3' n9 c3'] 31)))
            rw [hw4]
            clear hw4
            obtain ⟨b0, b1, b2, b3, b4, b5, b6, b7, b8, b9⟩ := cells10 HB4.out
            have lb4 := block_lt HB4.out
            cases v3 with
            | false =>
              go_wp2_with fail
              go_roundw
              case rel => exact ⟨i + 1, _, _, _, _, _, _, _, by go_num, by omega, O4.out, by have := HN.out; omega, by have := HM.out; omega⟩
              case measure => simp [intOf]; omega
            | true =>
              have f0 := frozen_of (j := 0) O4.out.cells
              have f1 := frozen_of (j := 1) O4.out.cells
              have f2 := frozen_of (j := 2) O4.out.cells
              have f3 := frozen_of (j := 3) O4.out.cells
              have lt4 := block_lt O4.out.cells
              obtain ⟨x0, x1, x2, x3⟩ := cells4 O4.out.cells
              go_upto_region 21 with fail
              clear b0 b1 b2 b3 b4 b5 b6 b7 b8 b9
              obtain ⟨w5, hw5, m5, hc5⟩ := set4_tok (a' := .int .i64 v4) (b' := .int .i64 v5) (c' := .int .i64 v6) (d' := .int .i64 v7) O4.out.cells
              have O5 := hid (O4.out.setTok (t' := ⟨v4, v5, v6, v7⟩) m5 (HNEW.out.2 (by simp)) hc5)
              rw [hw5]
              clear hw5 m5 hc5 f0 f1 f2 f3 x0 x1 x2 x3
              have hlk := O5.out.map.look (HNEW.out.2 (by simp))
              have hSn : Sn ⟨v4, v5, v6, v7⟩ = false := by
                cases hq : Sn ⟨v4, v5, v6, v7⟩ with
                | false => rfl
                | true => exact absurd (O2.out.seen _ hq) (HNEW.out.1 (by simp)).1
              rw [hSn] at hlk
              obtain ⟨w6, hup, h6, m6⟩ := O5.out.map.set (Nat.le_trans HM.out (by omega)) (HNEW.out.2 (by simp))
              have O6 := hid (O5.out.setMap m6 h6 (fun x e => by
                simp only [Bool.or_eq_true, decide_eq_true_eq] at e
                rcases e with e | e
                · rw [e]
                  exact (HNEW.out.1 (by simp)).2
                · exact O5.out.seen x e))
              simp only [tv] at hlk hup
              obtain ⟨x0, x1, x2, x3⟩ := cells4 O5.out.cells
              have lt5 := block_lt O5.out.cells
              clear h6 m6
              go_wp2_with fail
              go_roundw
              case rel => exact ⟨i + 1, _, _, _, _, _, _, _, by go_num, by omega, O6.out, by have := HN.out; omega, by have := HM.out; omega⟩
              case measure => simp [intOf]; omega)
      · have hlz : ¬ (i : Int) < (len : Int) := by omega
        go_wp2_with fail
        go_ret
        exact ⟨rfl, O.out.lw.law.g⟩
end Go.Proofs.YtniknicnnaiilaaGreat
end
section
namespace Go.Ext
open Go.RowKit Go.ChangeShapes Go.WideShapes Go.ChangeAt
section
variable {H : Type} {enc : TypeId × Value → H} {P : Program}
theorem trodAll_gr (hl : laidOutB P = true) {W W' : World} (hb : Gr W W') : ∀ (ts : List TypeId) (vs : List Value) (ds : List (DataW H)) (ps : List MemPlace), (∀ t ∈ ts, P.readableRec t = true ∧ t < P.types.size) →
    DataW.TrodAll enc P W 0 (fun _ => true) true ts vs ds ps → (∀ x ∈ ps, x.block < W.heap.size) → DataW.TrodAll enc P W' 0 (fun b => decide (b < W.heap.size)) true ts vs ds ps
  | [], vs, ds, ps, _, h, _ => by
    obtain ⟨rfl, rfl, rfl⟩ := trodAll_nil h
    exact trodAll_mk0
  | t :: ts, vs, ds, ps, hr, h, hlt => by
    obtain ⟨v, vs', d, ds', p, q, rfl, rfl, rfl, h0, h1⟩ := trodAll_cons h
    have ht := hr t (by simp)
    exact trodAll_cons_mk (Below.trod hl ht.1 ht.2 h0 hb (fun x hx => hlt x (by simp [hx]))) (trodAll_gr hl hb ts vs' ds' q (fun t' h' => hr t' (by simp [h'])) h1 (fun x hx => hlt x (by simp [hx])))
theorem of_all {ts : List TypeId} (h : (ts.all fun t => P.readableRec t && decide (t < P.types.size)) = true) : ∀ t ∈ ts, P.readableRec t = true ∧ t < P.types.size := by
  intro t ht
  have := List.all_eq_true.1 h t ht
  simpa using this
theorem law_post {fn : Func} {s : ChangeSpec} {tb : TypeId} (hl : laidOutB P = true) (hread : (fn.params.toList.all fun t => P.readableRec t && decide (t < P.types.size)) = true) (hres : fn.resultTypes = #[tb]) (htb : P.underlying tb = some .bool) (hvars : s.vars = [])
    {W W' : World} {args : Array Value} {ds gs : List (DataW H)} {before : List MemPlace} (hW : DataW.Whole enc P fn.params.toList s.vars false W args.toList ds gs before)
    (hs : s.fn H (ds ++ gs) = { results := [.lit (.bool true)], args := ds }) (hb : Gr W W') : s.post enc P fn false true false false W args (.bool true) W' := by
  have hlt : ∀ x ∈ before, x.block < W.heap.size := hW.lt
  have hW' := hW
  obtain ⟨p, q, hA, hV, rfl, _, _⟩ := hW
  refine ⟨ds, gs, p ++ q, [], p, [], hW', ?_, ?_, ?_, hb.below.frame _, fun h => by cases h⟩
  · rw [hs, hres]
    exact trodAll_mk1 (shut_bool htb true)
  · rw [hs]
    exact trodAll_gr hl hb _ _ _ _ (of_all hread) hA (fun x hx => hlt x (by simp [hx]))
  · rw [hs, hvars]
    rfl
end
end Go.Ext
end
section
namespace Go.Proofs.YtniknicnnaiilaaGreat
set_option maxRecDepth 100000
open Go.RowKit Go.Ext Go.BigFrame Go.Maps Go.MapKept
attribute [local go_sem] Ext.cell Ext.frozen Ext.lt Ext.le s1 s2 s3 s4 s5 s6 t1 t2 t3 t4 t5 t6
attribute [local go_sem ↓] Go.wp_at_zero Go.wp_at_succ
open Go.ChangeShapes Go.WideShapes Go.ChangeAt Go.Joins Go.Deep
theorem Tryz.own : ownKnob Tryz.prog.godebug = none := by kernel_rfl
theorem Tryz.laidOut : laidOutB Tryz.prog = true := by kernel_rfl
theorem addr_none {b off j : Nat} : (⟨b, off, none⟩ : Addr).add j = ⟨b, off + j, none⟩ := by unfold Addr.add; split <;> simp_all
section
variable {H : Type} {enc : TypeId × Value → H} {P : Program} {w : World} {base : Nat} {spare : Nat → Bool} {held : Bool}
theorem open_slice_fields {t e : TypeId} {fs : Array Field} {fuel : Nat} {cs : List Value} {x : DataW H × List MemPlace} (ht : P.underlying t = some (.slice e)) (he : P.underlying e = some (.struct fs))
    (hone : oneCellFields P fs = true) (hC : P.cellsOf e = fs.size) (h : DataW.trod enc P w base spare held fuel t cs = some x) :
    (cs = [.slice none 0 0] ∧ x = (.nil, [])) ∨
    ∃ (a : Addr) (len cap m : Nat) (D : Nat → DataW H) (Pl : Nat → List MemPlace), cs = [.slice (some a) len cap] ∧ base ≤ a.block ∧ len ≤ cap ∧ cap ≤ maxLen ∧ m = (if spare a.block then cap else len) ∧
      x = (.slice ((List.range len).map D) ((List.range (m - len)).map fun j => D (len + j)), MemPlace.row a (m * fs.size) ++ (List.range m).flatMap Pl) ∧
      ∀ i, i < m → ∃ (ys : List (DataW H × List MemPlace)) (n : Nat), D i = .agg (ys.map (·.1)) ∧ Pl i = ys.flatMap (·.2) ∧ ys.length = fs.size ∧
        ∀ (j : Nat) (f : Field), fs[j]? = some f → ∃ (v : Value) (y : DataW H × List MemPlace), w.cell? (a.add (i * fs.size + j)) = some v ∧ ys[j]? = some y ∧ DataW.trod enc P w base spare held n f.type [v] = some y := by
  rcases open_slice ht h with h0 | ⟨a, len, cap, m, n, D, Pl, hcs, hb, hl, hm, hmm, hx, hi⟩
  · exact .inl h0
  · refine .inr ⟨a, len, cap, m, D, Pl, hcs, hb, hl, hm, hmm, by rw [hC] at hx; exact hx, fun i him => ?_⟩
    obtain ⟨cs', hc, ht'⟩ := hi i him
    rw [hC] at hc
    obtain ⟨ys, n', hn', hy, hlen, hyl, hf⟩ := DataW.trod_struct he ht'
    obtain ⟨_, hcl, hat⟩ := World.cells?_some hc
    simp only [Prod.mk.injEq] at hy
    refine ⟨ys, n', hy.1, hy.2, hyl, fun j f hj => ?_⟩
    obtain ⟨ho, hk⟩ := hone_of hone j f hj
    have hjl : j < fs.size := (Array.getElem?_eq_some_iff.1 hj).1
    have hcell := hat j hjl
    have hv : cs'[j]? = some (cs'[j]'(by omega)) := List.getElem?_eq_getElem (by omega)
    have h1 := hf j f hj
    rw [ho, hk] at h1
    have hone' : (cs'.drop j).take 1 = [cs'[j]'(by omega)] := by
      rw [List.drop_eq_getElem_cons (by omega)]
      rfl
    rw [hone'] at h1
    have hys : ys[j]? = some (ys[j]'(by omega)) := List.getElem?_eq_getElem (by omega)
    refine ⟨_, _, ?_, hys, h1.trans hys⟩
    rw [← Go.Deep.add_add, hcell, hv]
theorem weightsAll_mem {e : TypeId} {d : DataW H} {n : Nat} : ∀ {ds : List (DataW H)}, d ∈ ds → n ∈ d.weights P e → n ∈ DataW.weightsAll P e ds
  | d0 :: ds, hd, hn => by
    simp only [DataW.weightsAll, List.mem_append]
    rcases List.mem_cons.1 hd with rfl | hd
    · exact .inl hn
    · exact .inr (weightsAll_mem hd hn)
end
theorem Bys.m {W : World} {v : Value} {bs : List UInt8} (h : Bys W v bs) : BysM W (fun _ => False) v bs := by
  obtain ⟨A, c, e, h1, h2, h3⟩ := h
  exact ⟨A, c, e, h1, Rd.m h2 (fun _ _ _ _ e => e), h3⟩
theorem datM_map {α : Type} {r : α → List Int × List UInt8} {W : World} {M : Bl} (f : Nat → α) (g : Nat → Value) : ∀ L : List Nat, (∀ i ∈ L, BysM W M (g i) (r (f i)).2) → DatM W M ((L.map f).map r) (L.map g)
  | [], _ => trivial
  | i :: L, h => ⟨h i (List.mem_cons_self ..), datM_map f g L (fun j hj => h j (List.mem_cons_of_mem _ hj))⟩
theorem recs_of {α : Type} (r : α → List Int × List UInt8) (m : Nat) (hm : ∀ x, (r x).1.length = m) {W : World} {M : Bl} {b off n c : Nat} (f : Nat → α) (g : Nat → Value)
    (h : ∀ i, i < n → (∀ j u, (recC (r (f i)) (g i))[j]? = some u → W.cell? ⟨b, off + i * (m + 1) + j, none⟩ = some u) ∧ BysM W M (g i) (r (f i)).2) (hM : ¬ M b) (hnc : n ≤ c) : RecsM r W M (.slice (some ⟨b, off, none⟩) n c) ((List.range n).map f) := by
  refine ⟨some ⟨b, off, none⟩, c, (List.range n).map g, by simp, by simpa using hnc, datM_map f g _ (fun i hi => (h i (by simpa using hi)).2), fun _ => ⟨b, off, rfl, hM, fun j u hu => ?_⟩, fun e => by cases e⟩
  have hmm : ∀ x ∈ ((List.range n).map f).map r, x.1.length = m := fun x hx => by
    obtain ⟨y, _, rfl⟩ := List.mem_map.1 hx
    exact hm y
  have hlen := rowC_len (((List.range n).map f).map r) ((List.range n).map g) hmm (by simp)
  have hj := (List.getElem?_eq_some_iff.1 hu).1
  rw [hlen] at hj
  simp only [List.length_map, List.length_range] at hj
  have hi : j / (m + 1) < n := Nat.div_lt_of_lt_mul (by rw [Nat.mul_comm]; exact hj)
  have hk : j % (m + 1) < m + 1 := Nat.mod_lt _ (by omega)
  have hg := rowC_get (((List.range n).map f).map r) ((List.range n).map g) (j / (m + 1)) (r (f (j / (m + 1)))) (g (j / (m + 1))) (j % (m + 1)) hmm (by simp [hi]) (by simp [hi]) hk
  have hj2 : j / (m + 1) * (m + 1) + j % (m + 1) = j := by rw [Nat.mul_comm]; exact Nat.div_add_mod j (m + 1)
  rw [hj2] at hg
  have := (h _ hi).1 _ u (hg ▸ hu)
  rw [Nat.add_assoc, hj2] at this
  exact this
section
variable {H : Type} {enc : TypeId × Value → H}
theorem bys_trod {W : World} {fuel : Nat} {v : Value} {y : DataW H × List MemPlace} (h : DataW.trod enc Tryz.prog W 0 (fun _ => true) true fuel 22 [v] = some y) (hz : ∀ n ∈ y.1.weights Tryz.prog 22, n ≤ reachBytes) :
    ∃ bs, Bys W v bs := by
  rcases open_ints (k := .u8) Tryz.underlying22 Tryz.underlying5 (by kernel_rfl) h with ⟨hcs, _⟩ | ⟨a, len, cap, zs, hcs, _, hl, hm, hlen, hx, hcell, hw⟩
  · injection hcs with hcs
    subst hcs
    exact ⟨[], none, 0, rfl, by simp, Rd.nil _ _, fun _ => rfl⟩
  · injection hcs with hcs
    subst hcs
    have hcap : zs.length = cap := by simpa using hlen
    have hb : cap ≤ 140737488351232 := by
      have := hz _ (by
        rw [hx]
        simp only [DataW.weights, Tryz.underlying22]
        exact List.mem_cons_self ..)
      simp only [Go.ChangeShapes.lits, List.length_map, List.length_take, List.length_drop, hcap] at this
      have e1 : Tryz.prog.bytesOf 5 = 1 := by kernel_rfl
      rw [e1] at this
      unfold reachBytes at this
      omega
    refine ⟨(zs.take len).map (fun z => UInt8.ofNat z.toNat), some a, cap, by simp; omega, by simp; omega, fun hne => ?_, fun e => by cases e⟩
    have h0 : 0 < len := by
      rcases Nat.eq_zero_or_pos len with h0 | h0
      · subst h0; simp [bc] at hne
      · exact h0
    obtain ⟨b, off, spot⟩ := a
    have hs : spot = none := by
      have := hcell 0 (by omega)
      simpa [Addr.add] using World.cell?_spot this
    subst hs
    refine ⟨b, off, rfl, fun j u hu => ?_⟩
    have hj : j < len := by
      have := (List.getElem?_eq_some_iff.1 hu).1
      simp [bc] at this; omega
    have := hcell j (by omega)
    rw [addr_none] at this
    rw [this, ← hu]
    have hwz := hw (zs[j]'(by omega)) (List.getElem_mem _)
    have hr : 0 ≤ zs[j]'(by omega) ∧ zs[j]'(by omega) ≤ 255 := by simpa [Lit.wf, IntKind.min, IntKind.max, IntKind.signed, IntKind.bits] using hwz
    simp [bc, hj, List.getD, show j < zs.length by omega]
    omega
theorem evs_trod {W : World} {fuel : Nat} {v : Value} {y : DataW H × List MemPlace} (h : DataW.trod enc Tryz.prog W 0 (fun _ => true) true fuel 29 [v] = some y) (hz : ∀ n ∈ y.1.weights Tryz.prog 29, n ≤ reachBytes) :
    ∃ l : List Ev, RecsM evR W (fun _ => False) v l := by
  rcases open_slice_fields Tryz.underlying29 Tryz.underlying41 (by kernel_rfl) (by kernel_rfl) h with ⟨hcs, _⟩ | ⟨a, len, cap, m, D, Pl, hcs, hb, hl, hm, hmm, hx, hi⟩
  · injection hcs with hcs
    subst hcs
    exact ⟨[], RecsM.none _ _ _⟩
  · injection hcs with hcs
    subst hcs
    have hm' : m = cap := by simpa using hmm
    subst hm'
    rw [hx] at hz
    have each : ∀ i, i < len → ∃ (x : Ev) (dv : Value), (∀ j u, (recC (evR x) dv)[j]? = some u → W.cell? (a.add (i * 7 + j)) = some u) ∧ BysM W (fun _ => False) dv x.data := by
      intro i hin
      obtain ⟨ys, k, hD, _, hyl, hf⟩ := hi i (by omega)
      obtain ⟨v0, y0, c0, g0, t0⟩ := hf 0 _ rfl
      obtain ⟨v1, y1, c1, g1, t1⟩ := hf 1 _ rfl
      obtain ⟨v2, y2, c2, g2, t2⟩ := hf 2 _ rfl
      obtain ⟨v3, y3, c3, g3, t3⟩ := hf 3 _ rfl
      obtain ⟨v4, y4, c4, g4, t4⟩ := hf 4 _ rfl
      obtain ⟨v5, y5, c5, g5, t5⟩ := hf 5 _ rfl
      obtain ⟨v6, y6, c6, g6, t6⟩ := hf 6 _ rfl
      obtain ⟨z0, e0, _, _⟩ := DataW.trod_int Tryz.underlying3 t0
      injection e0 with e0
      obtain ⟨z1, e1, _, _⟩ := DataW.trod_int Tryz.underlying3 t1
      injection e1 with e1
      obtain ⟨z2, e2, _, _⟩ := DataW.trod_int Tryz.underlying3 t2
      injection e2 with e2
      obtain ⟨z3, e3, _, _⟩ := DataW.trod_int Tryz.underlying3 t3
      injection e3 with e3
      obtain ⟨z4, e4, _, _⟩ := DataW.trod_int Tryz.underlying3 t4
      injection e4 with e4
      obtain ⟨z5, e5, _, _⟩ := DataW.trod_int Tryz.underlying3 t5
      injection e5 with e5
      subst e0 e1 e2 e3 e4 e5
      have hzD : ∀ q ∈ (D i).weights Tryz.prog 41, q ≤ reachBytes := fun q hq => hz q (by
        simp only [DataW.weights, Tryz.underlying29]
        exact List.mem_cons_of_mem _ (List.mem_append_left _ (weightsAll_mem (d := D i) (List.mem_map.2 ⟨i, by simpa using hin, rfl⟩) hq)))
      rw [hD] at hzD
      simp only [DataW.weights, Tryz.underlying41] at hzD
      obtain ⟨bs, hbs⟩ := bys_trod t6 (fun q hq => hzD q (DataW.weights_mem_each (j := 6) (t := 22) (d := y6.1) rfl (by simp [g6]) q hq))
      refine ⟨⟨z0, z1, z2, z3, z4, z5, bs⟩, v6, fun j u hu => ?_, hbs.m⟩
      have hj := (List.getElem?_eq_some_iff.1 hu).1
      simp [recC, evR] at hj hu
      rcases j with _ | _ | _ | _ | _ | _ | _ | j
      · simp at hu; subst hu; exact c0
      · simp at hu; subst hu; exact c1
      · simp at hu; subst hu; exact c2
      · simp at hu; subst hu; exact c3
      · simp at hu; subst hu; exact c4
      · simp at hu; subst hu; exact c5
      · simp at hu; subst hu; exact c6
      · omega
    let f : Nat → Ev := fun i => if h : i < len then Classical.choose (each i h) else ⟨0, 0, 0, 0, 0, 0, []⟩
    let g : Nat → Value := fun i => if h : i < len then Classical.choose (Classical.choose_spec (each i h)) else .int .i64 0
    have hf : ∀ i, i < len → (∀ j u, (recC (evR (f i)) (g i))[j]? = some u → W.cell? (a.add (i * 7 + j)) = some u) ∧ BysM W (fun _ => False) (g i) (f i).data := by
      intro i hin
      have := Classical.choose_spec (Classical.choose_spec (each i hin))
      simp only [f, g, dif_pos hin]
      exact this
    refine ⟨(List.range len).map f, ?_⟩
    by_cases h0 : len = 0
    · subst h0
      exact ⟨some a, m, [], rfl, by simp, trivial, RdM.nil _ _ _, fun e => by cases e⟩
    · obtain ⟨b, off, spot⟩ := a
      have hs : spot = none := by
        have := (hf 0 (by omega)).1 0 _ rfl
        simpa [Addr.add] using World.cell?_spot this
      subst hs
      refine recs_of evR 6 evR_len f g (fun i hin => ⟨fun j u hu => ?_, (hf i hin).2⟩) (fun e => e) hl
      have := (hf i hin).1 j u hu
      rw [addr_none] at this
      rw [Nat.add_assoc]
      exact this
theorem decs_trod {W : World} {fuel : Nat} {v : Value} {y : DataW H × List MemPlace} (h : DataW.trod enc Tryz.prog W 0 (fun _ => true) true fuel 33 [v] = some y) (hz : ∀ n ∈ y.1.weights Tryz.prog 33, n ≤ reachBytes) :
    ∃ l : List Dec, RecsM decR W (fun _ => False) v l := by
  rcases open_slice_fields Tryz.underlying33 Tryz.underlying39 (by kernel_rfl) (by kernel_rfl) h with ⟨hcs, _⟩ | ⟨a, len, cap, m, D, Pl, hcs, hb, hl, hm, hmm, hx, hi⟩
  · injection hcs with hcs
    subst hcs
    exact ⟨[], RecsM.none _ _ _⟩
  · injection hcs with hcs
    subst hcs
    have hm' : m = cap := by simpa using hmm
    subst hm'
    rw [hx] at hz
    have each : ∀ i, i < len → ∃ (x : Dec) (dv : Value), (∀ j u, (recC (decR x) dv)[j]? = some u → W.cell? (a.add (i * 5 + j)) = some u) ∧ BysM W (fun _ => False) dv x.data := by
      intro i hin
      obtain ⟨ys, k, hD, _, hyl, hf⟩ := hi i (by omega)
      obtain ⟨v0, y0, c0, g0, t0⟩ := hf 0 _ rfl
      obtain ⟨v1, y1, c1, g1, t1⟩ := hf 1 _ rfl
      obtain ⟨v2, y2, c2, g2, t2⟩ := hf 2 _ rfl
      obtain ⟨v3, y3, c3, g3, t3⟩ := hf 3 _ rfl
      obtain ⟨v4, y4, c4, g4, t4⟩ := hf 4 _ rfl
      obtain ⟨z0, e0, _, _⟩ := DataW.trod_int Tryz.underlying3 t0
      injection e0 with e0
      obtain ⟨z1, e1, _, _⟩ := DataW.trod_int Tryz.underlying3 t1
      injection e1 with e1
      obtain ⟨z2, e2, _, _⟩ := DataW.trod_int Tryz.underlying3 t2
      injection e2 with e2
      obtain ⟨z3, e3, _, _⟩ := DataW.trod_int Tryz.underlying3 t3
      injection e3 with e3
      subst e0 e1 e2 e3
      have hzD : ∀ q ∈ (D i).weights Tryz.prog 39, q ≤ reachBytes := fun q hq => hz q (by
        simp only [DataW.weights, Tryz.underlying33]
        exact List.mem_cons_of_mem _ (List.mem_append_left _ (weightsAll_mem (d := D i) (List.mem_map.2 ⟨i, by simpa using hin, rfl⟩) hq)))
      rw [hD] at hzD
      simp only [DataW.weights, Tryz.underlying39] at hzD
      obtain ⟨bs, hbs⟩ := bys_trod t4 (fun q hq => hzD q (DataW.weights_mem_each (j := 4) (t := 22) (d := y4.1) rfl (by simp [g4]) q hq))
      refine ⟨⟨z0, z1, z2, z3, bs⟩, v4, fun j u hu => ?_, hbs.m⟩
      have hj := (List.getElem?_eq_some_iff.1 hu).1
      simp [recC, decR] at hj hu
      rcases j with _ | _ | _ | _ | _ | j
      · simp at hu; subst hu; exact c0
      · simp at hu; subst hu; exact c1
      · simp at hu; subst hu; exact c2
      · simp at hu; subst hu; exact c3
      · simp at hu; subst hu; exact c4
      · omega
    let f : Nat → Dec := fun i => if h : i < len then Classical.choose (each i h) else ⟨0, 0, 0, 0, []⟩
    let g : Nat → Value := fun i => if h : i < len then Classical.choose (Classical.choose_spec (each i h)) else .int .i64 0
    have hf : ∀ i, i < len → (∀ j u, (recC (decR (f i)) (g i))[j]? = some u → W.cell? (a.add (i * 5 + j)) = some u) ∧ BysM W (fun _ => False) (g i) (f i).data := by
      intro i hin
      have := Classical.choose_spec (Classical.choose_spec (each i hin))
      simp only [f, g, dif_pos hin]
      exact this
    refine ⟨(List.range len).map f, ?_⟩
    by_cases h0 : len = 0
    · subst h0
      exact ⟨some a, m, [], rfl, by simp, trivial, RdM.nil _ _ _, fun e => by cases e⟩
    · obtain ⟨b, off, spot⟩ := a
      have hs : spot = none := by
        have := (hf 0 (by omega)).1 0 _ rfl
        simpa [Addr.add] using World.cell?_spot this
      subst hs
      refine recs_of decR 4 decR_len f g (fun i hin => ⟨fun j u hu => ?_, (hf i hin).2⟩) (fun e => e) hl
      have := (hf i hin).1 j u hu
      rw [addr_none] at this
      rw [Nat.add_assoc]
      exact this
end
end Go.Proofs.YtniknicnnaiilaaGreat
end
