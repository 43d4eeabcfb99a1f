import Derived.Test.YtikmniokbliolaaMk
import Derived.Test.YtikmniokbliolaaK
namespace Go.Proofs.Ytikmniokbliolaa
open Go.RowKit Go.Ext Go.BigFrame Go.Maps
attribute [local go_sem] Ext.cell Ext.frozen Ext.lt Ext.le s1 s2 s3 s4 s5 s6 t1 t2 t3 t4 t5 t6
attribute [local go_sem ↓] Go.wp_at_zero Go.wp_at_succ

set_option maxHeartbeats 1000000 in
theorem less6 (a b c d e f a' b' c' d' e' f' : Int) (w : World) : Calls Try.prog 14 #[.agg #[.int .i64 a, .int .i64 b, .int .i64 c, .int .i64 d, .int .i64 e, .int .i64 f], .agg #[.int .i64 a', .int .i64 b', .int .i64 c', .int .i64 d', .int .i64 e', .int .i64 f']] w
    (RetE (.bool (decide (cmpI (a, b, c, d, e, f) (a', b', c', d', e', f') < 0))) w) := by
  refine retE ?_
  have HC := hid (show cmpL [a, b, c, d, e, f] [a', b', c', d', e', f'] = cmpI (a, b, c, d, e, f) (a', b', c', d', e', f') from rfl)
  obtain ⟨r, hr⟩ : ∃ r, cmpI (a, b, c, d, e, f) (a', b', c', d', e', f') = r := ⟨_, rfl⟩
  rw [hr] at HC ⊢
  clear hr
  go_enter Try.func14, Try.ntmps14
  go_wp2_with fail
  have G0 := hid (((Gr.refl w).alloc (.cells #[.int .i64 a, .int .i64 b, .int .i64 c, .int .i64 d, .int .i64 e, .int .i64 f] 33)).alloc (.cells #[.int .i64 a', .int .i64 b', .int .i64 c', .int .i64 d', .int .i64 e', .int .i64 f'] 33))
  go_region_held3 (fun w' => (w'.cell? ⟨w.heap.size, 0, none⟩ = some (.int .i64 a) ∧ w'.cell? ⟨w.heap.size, 1, none⟩ = some (.int .i64 b) ∧ w'.cell? ⟨w.heap.size, 2, none⟩ = some (.int .i64 c) ∧ w'.cell? ⟨w.heap.size, 3, none⟩ = some (.int .i64 d) ∧ w'.cell? ⟨w.heap.size, 4, none⟩ = some (.int .i64 e) ∧ w'.cell? ⟨w.heap.size, 5, none⟩ = some (.int .i64 f)) ∧ w'.cell? ⟨w.heap.size + 1, 0, none⟩ = some (.int .i64 a') ∧ w'.cell? ⟨w.heap.size + 1, 1, none⟩ = some (.int .i64 b') ∧ w'.cell? ⟨w.heap.size + 1, 2, none⟩ = some (.int .i64 c') ∧ w'.cell? ⟨w.heap.size + 1, 3, none⟩ = some (.int .i64 d') ∧ w'.cell? ⟨w.heap.size + 1, 4, none⟩ = some (.int .i64 e') ∧ w'.cell? ⟨w.heap.size + 1, 5, none⟩ = some (.int .i64 f'))
    (first | go_keep | (refine ⟨⟨?_, ?_, ?_, ?_, ?_, ?_⟩, ?_, ?_, ?_, ?_, ?_, ?_⟩ <;> go_simp; done))
    (first
      | (go_at_call 33
         refine (numbers6 _ _ _ _ _ _ _).mono ?_
         rintro e _ ⟨v1, y1, rfl, rfl, h1⟩
         have H1 := hid h1
         clear h1)
      | (go_at_call 32
         refine (compare_any [a, b, c, d, e, f] [a', b', c', d', e', f'] _ _ _ (Ints.gr (Hid.out (by assumption)) (Ext.gr _)) (Hid.out (by assumption))).mono ?_
         rintro e _ ⟨rfl, rfl⟩))
  go_wp2_with fail
  go_ret
  exact ⟨by rw [← HC.out]; rfl, (G0.out.drew.ext _).ext _⟩

/-- The block is a map that tells of each item whether S holds: of N it does. -/
def MI (w : World) (b n : Nat) (S : It → Bool) (N : Nat) : Prop :=
  ∃ D : DataW Empty, w.ownsMap Try.prog 33 (plainElem Try.prog 4) b n D ∧ Maps.size D = N ∧ ∀ x l, keyOf Try.prog 33 (iv x) = some l → D.atKey l (.lit (.bool false)) = .lit (.bool (S x)) ∧ Maps.has D l = S x
theorem MI.made (w : World) : MI (w.alloc (.map #[] 0)) w.heap.size 0 (fun _ => false) 0 :=
  ⟨.map [], World.ownsMap_made _ _ _ _, rfl, fun _ _ _ => ⟨rfl, rfl⟩⟩
theorem MI.lt {w : World} {b n N : Nat} {S : It → Bool} (h : MI w b n S N) : b < w.heap.size := by
  obtain ⟨D, h1, _⟩ := h
  exact h1.lt
theorem MI.isMap {w : World} {b n N : Nat} {S : It → Bool} (h : MI w b n S N) : ∃ es c, w.heap[b]? = some (.map es c) := by
  obtain ⟨D, ⟨es, clock, hb, _⟩, _⟩ := h
  exact ⟨es, clock, hb⟩
theorem MI.keep {w w' : World} {b n N : Nat} {S : It → Bool} (h : MI w b n S N) (hb : w'.heap[b]? = w.heap[b]?) : MI w' b n S N := by
  obtain ⟨D, ⟨es, clock, h0, F, hs, hD⟩, h1, h2⟩ := h
  exact ⟨D, ⟨es, clock, hb.trans h0, F, hs, hD⟩, h1, h2⟩
theorem MI.gr {w w' : World} {b n N : Nat} {S : It → Bool} (h : MI w b n S N) (g : Gr w w') : MI w' b n S N := h.keep (g.block b h.lt)
theorem MI.look {w : World} {b n N : Nat} {S : It → Bool} (h : MI w b n S N) {x : It} (hx : ItOk x) : (Instr.lookup 30 (.map (some b)) (iv x) false).run Try.prog w = .ok (.bool (S x)) w := by
  obtain ⟨D, h1, _, h2⟩ := h
  obtain ⟨l, hl⟩ := key33 hx
  obtain ⟨v, ps, hrun, hv⟩ := h1.lookup keyed33 Try.underlying30 (zeroB w) (zd := .lit (.bool false)) (zp := []) (plainElem_bool Try.underlying4 false) hl
  obtain ⟨a, rfl, e⟩ := plainElem_bool_inv Try.underlying4 hv
  rw [(h2 x l hl).1] at e
  injection e with e _
  injection e with e
  injection e with e
  rw [hrun, e]
theorem MI.len {w : World} {b n N : Nat} {S : It → Bool} (h : MI w b n S N) (ty : TypeId) : (Builtin.len_ #[30] ty #[.map (some b)]).run Try.prog w = .ok (.int .i64 N) w := by
  obtain ⟨D, h1, h2, _⟩ := h
  rw [h1.len Try.underlying30 ty, h2]
theorem MI.put {b n n0 N : Nat} {S : It → Bool} {D : DataW Empty} {w w0 : World} (h1 : w0.ownsMap Try.prog 33 (plainElem Try.prog 4) b n0 D) (hN : Maps.size D = N) (h2 : ∀ x l, keyOf Try.prog 33 (iv x) = some l → D.atKey l (.lit (.bool false)) = .lit (.bool (S x)) ∧ Maps.has D l = S x)
    {x : It} {l : Lit} (hl : keyOf Try.prog 33 (iv x) = some l) (h : w.ownsMap Try.prog 33 (plainElem Try.prog 4) b n (D.put l (.lit (.bool true)))) : MI w b n (fun y => decide (y = x) || S y) (if S x then N else N + 1) := by
  refine ⟨_, h, ?_, fun y ly hy => ?_⟩
  · rw [size_put (h1.tidy keyed33), (h2 x l hl).2, hN]
  · by_cases e : y = x
    · subst e
      have : ly = l := by rw [hl] at hy; injection hy with hy; exact hy.symm
      subst this
      rw [atKey_put_same h1.isMap (keyed33.key hl), has_put_same h1.isMap (keyed33.key hl)]
      simp
    · have hne : ly ≠ l := by
        rintro rfl
        have := keyed33.inj hy hl
        obtain ⟨a, b, c, d, e', f⟩ := y
        obtain ⟨a', b', c', d', e2, f'⟩ := x
        simp only [iv] at this
        injection this with this
        simp at this
        obtain ⟨rfl, rfl, rfl, rfl, rfl, rfl⟩ := this
        exact e rfl
      rw [atKey_put_other hne, has_put_other hne, (h2 y ly hy).1, (h2 y ly hy).2]
      simp [e]
end Go.Proofs.Ytikmniokbliolaa
