import Derived.Test.YtlencagfkajcnaaN5
namespace Go.Proofs.Ytlencagfkajcnaa
open Go.RowKit Go.Ext Go.BigFrame Go.Maps
attribute [local go_sem] Ext.cell Ext.frozen Ext.lt Ext.le s1 s2 s3 s4 s5 s6 t1 t2 t3 t4 t5 t6
attribute [local go_sem ↓] Go.wp_at_zero Go.wp_at_succ

theorem Bys.of_own {base : Nat} {w : World} {v : Value} {bs : List UInt8} (h : w.ownsRow base 5 1 v bs.length (bc bs)) (hl : bs.length ≤ 140737488351232) : Bys w v bs := by
  have hs := own_shape h
  obtain ⟨A, c, rfl⟩ := hs
  refine ⟨A, c, rfl, hl, fun hne => Rd.of_own h hne, fun e => ?_⟩
  subst e
  rcases h.2 with ⟨e, _⟩ | ⟨_, _, _, e, _⟩
  · injection e
  · injection e with e; cases e

set_option maxRecDepth 100000 in
set_option maxHeartbeats 2000000 in
/-- What waits, told: new packets, new bytes. -/
theorem wait_any (base g n : Nat) (nodes sent : Int) (S : Int × Int → Bool) (P : List Pk) (w : World) (h : Nt base w g nodes sent n S P) (hl : P.length ≤ 1000000) :
    Calls Try.prog 11 #[.pointer (some ⟨g, 0, none⟩)] w (RetP (fun w' u => ∃ L', w'.ownsRow w.heap.size 33 4 u L'.length (cs6 L') ∧ Dat w.heap.size w' L' P) w) := by
  obtain ⟨mb, v, L, h⟩ := h
  have hlen := h.dat.len
  obtain ⟨_, _, c2, _, _, _⟩ := h.cs
  have hlt := h.lt
  have H := hid h
  obtain ⟨A, cp, rfl⟩ := h.shape
  have HR := hid (Row.of_own h.row)
  clear h
  obtain ⟨i0, hi0, hz0, hz1, hz2⟩ := info_parts info33
  go_enter Try.func11, Try.ntmps11
  go_wp2_with fail
  go_loopw [3, 5, 11] (fun u u5 i wr => ∃ (k : Nat) (L' : List It), k ≤ L.length ∧ i = .int .i64 k ∧ Gr w wr ∧ wr.ownsRow w.heap.size 33 4 u L'.length (cs6 L') ∧ Dat w.heap.size wr L' (P.take k)) (fun _ _ i _ => L.length - (intOf i).toNat)
  case atStart => exact ⟨0, [], Nat.zero_le _, rfl, Gr.refl _, World.ownsRow_nil _ _ _ _, by simp [Dat]⟩
  case round =>
    obtain ⟨k, L', hk, rfl, hg, ho, hd⟩ := hrel
    have HG := hid hg
    have HO := hid ho
    have HD := hid hd
    have hsz := hg.size
    have hll := hd.len
    have HLL := hid hll
    clear hg ho hd hll
    by_cases hlt3 : k < L.length
    · obtain ⟨bb, off, rfl, hbw, d0, d1, d2, d3⟩ := (HR.out.gr HG.out).at_ hlt3
      obtain ⟨o1, o2, o3, o4, o5⟩ := (H.out.gr HG.out).dat.get k hlt3
      have htk : P.take (k + 1) = P.take k ++ [P.getD k p0] := by
        rw [List.take_add_one]; simp [List.getD, show k < P.length by omega]
      have HTK := hid htk
      obtain ⟨⟨f, t, q, bs⟩, hp⟩ : ∃ p, P.getD k p0 = p := ⟨_, rfl⟩
      rw [hp] at o1 o2 o3 o4 o5 HTK
      simp only at o1 o2 o3 o4 o5
      obtain ⟨⟨f', t', q', A', l', c'⟩, hy⟩ : ∃ y, L.getD k z0 = y := ⟨_, rfl⟩
      rw [hy] at d0 d1 d2 d3 o1 o2 o3 o4
      simp only [sl] at d0 d1 d2 d3 o1 o2 o3 o4
      subst o1 o2 o3
      clear hp hy htk
      have HTW := hid (fun W (y : Gr wr W) => twin_any f' t' q' A' l' c' bs W (Bys.of_own (own_gr o4 y) o5))
      have HBL := hid o5
      have hl3 : L'.length ≤ 1000000 := by
        have := HLL.out
        rw [List.length_take] at this
        omega
      clear o4 o5
      go_wp2_with (first
        | (go_at_call 26
           refine (HTW.out _ ((Gr.refl wr).alloc _)).mono ?_
           rintro en w6 ⟨A6, c6, rfl, g6, ho6⟩
           have G6 := hid (show Gr wr w6 from ((Gr.refl wr).alloc _).trans g6)
           have HO6 := hid (show w6.ownsRow w.heap.size 5 1 (.slice A6 bs.length c6) bs.length (bc bs) from ho6.mono (by simp; omega))
           have hs6 := G6.out.size
           clear g6 ho6)
        | (at_builtin; refine wpList_append_lies _ rfl _ _ 30 rfl w.heap.size 33 i0 _ 4 48 Try.underlying30 hi0 hz0 hz1 hz2 rfl (by omega) u3 L'.length (cs6 L') rfl (own_gr HO.out (G6.out.alloc _)) ⟨w6.heap.size, 0, none⟩ 1 1 [.int .i64 f', .int .i64 t', .int .i64 q', .slice A6 bs.length c6] rfl rfl (World.news_of_block (cs := #[.int .i64 f', .int .i64 t', .int .i64 q', .slice A6 bs.length c6]) (t := 33) (fr := (0, 0)) (heap_alloc_new w6 _)) (by simp [Value.oneCell']) (by omega) (by unfold maxLen; omega) (by omega) (by simp; omega) _ rfl ?_; intro gg cap w1 hown1 hgrow hat hlt1))
      go_roundw
      case rel =>
        have GG := gr_grown (HG.out.trans (G6.out.alloc (.cells #[.int .i64 f', .int .i64 t', .int .i64 q', .slice A6 bs.length c6] 33))) hgrow (fun r hr => (HO.out.lt r hr).1)
        have M6 := (((Gr.refl w6).alloc (.cells #[.int .i64 f', .int .i64 t', .int .i64 q', .slice A6 bs.length c6] 33)).mod (fun b => some b = u3.ownBlock)).trans (mod_grown hgrow) (fun _ _ h => h)
        have hno : ∀ q, (∃ cs fz, w6.heap[q]? = some (.cells cs 5 fz)) → ¬ some q = u3.ownBlock := by
          rintro q ⟨cs, fz, hq⟩ e
          rcases (own_gr HO.out G6.out).2 with ⟨e1, _⟩ | ⟨g', cap, cur, e1, _, hh, _⟩
          · rw [e1] at e; simp [Value.ownBlock] at e
          · rw [e1] at e; simp [Value.ownBlock] at e; subst e; have e2 := hq.symm.trans hh; injection e2 with e2; injection e2 with _ e2 _; cases e2
        refine ⟨k + 1, L' ++ [(f', t', q', A6, bs.length, c6)], by omega, by go_num, GG, by rw [cs6_app, List.length_append, List.length_singleton]; exact hown1, ?_⟩
        rw [HTK.out]
        exact Dat.app (Dat.mod M6 hno (HD.out.gr G6.out)) ⟨One.mod (x := (f', t', q', A6, bs.length, c6)) (p := (f', t', q', bs)) ⟨rfl, rfl, rfl, HO6.out, HBL.out⟩ M6 hno, trivial⟩
      case measure => simp [intOf]; omega
    · have hke : k = L.length := by omega
      subst hke
      have HE := hid (show P.take L.length = P from List.take_of_length_le (by omega))
      go_wp2_with fail
      go_ret
      exact ⟨_, ⟨wr, HG.out⟩, rfl, rfl, L', HO.out, by have := HD.out; rwa [HE.out] at this⟩
end Go.Proofs.Ytlencagfkajcnaa
