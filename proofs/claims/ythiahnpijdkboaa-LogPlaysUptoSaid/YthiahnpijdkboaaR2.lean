import Derived.Test.YthiahnpijdkboaaR1
namespace Go.Proofs.Ythiahnpijdkboaa
open Go.RowKit Go.Ext Go.BigFrame
attribute [local go_sem] Ext.cell Ext.frozen Ext.lt Ext.le s1 s2 s3 s4 s5 s6 t1 t2 t3 t4 t5 t6
attribute [local go_sem ↓] Go.wp_at_zero Go.wp_at_succ

/-- Do terms rise, as the document asks it? -/
def risesR (t : Int) : List Ent → Bool
  | [] => true
  | e :: r => if e.1 < t ∨ e.1 < 1 then false else risesR e.1 r
theorem risesR_no (t : Int) (L : List Ent) (k : Nat) (hk : k < L.length) (h : (L.getD k (0, [])).1 < t ∨ (L.getD k (0, [])).1 < 1) : risesR t (L.drop k) = false := by
  rw [List.drop_eq_getElem_cons hk]
  simp only [risesR]
  rw [if_pos (by simpa [List.getD, hk] using h)]
theorem risesR_yes (t : Int) (L : List Ent) (k : Nat) (hk : k < L.length) (h : ¬ ((L.getD k (0, [])).1 < t ∨ (L.getD k (0, [])).1 < 1)) : risesR t (L.drop k) = risesR (L.getD k (0, [])).1 (L.drop (k + 1)) := by
  rw [List.drop_eq_getElem_cons hk]
  simp only [risesR]
  rw [if_neg (by simpa [List.getD, hk] using h)]
  simp [List.getD, hk]
theorem risesR_max : ∀ (L : List Ent) (t : Int), risesR t L = risesF (if t < 1 then 1 else t) L
  | [], t => rfl
  | e :: r, t => by
    simp only [risesR, risesF]
    by_cases h1 : e.1 < t ∨ e.1 < 1
    · rw [if_pos h1, if_pos (by split <;> omega)]
    · rw [if_neg h1, if_neg (by split <;> omega), risesR_max r e.1, if_neg (by omega)]
theorem risesR_rs (L : List Ent) (t : Int) : risesR t L = rs t L := risesR_max L t

set_option maxHeartbeats 1000000 in
theorem risesR_any (base : Nat) (term : Int) (A : Option Addr) (c : Nat) (L : List Ent) (w : World) (hs : Sl base w A L) (hl : L.length ≤ 4398046511103) :
    Calls Try.prog 29 #[.int .i64 term, .slice A L.length c] w (RetE (.bool (rs term L)) w) := by
  rw [← risesR_rs]
  refine retE ?_
  have hs' := hid hs
  clear hs
  go_enter Try.func29, Try.ntmps29
  go_wp2_with fail
  go_loopw [0, 5] (fun t i wr => ∃ (k : Nat) (tk : Int), k ≤ L.length ∧ i = .int .i64 k ∧ t = .int .i64 tk ∧ risesR tk (L.drop k) = risesR term L ∧ Gr w wr) (fun _ i _ => L.length - (intOf i).toNat)
  case atStart => exact ⟨0, term, Nat.zero_le _, rfl, rfl, rfl, Gr.refl _⟩
  case round =>
    obtain ⟨k, tk, hk, rfl, rfl, hr, hg⟩ := hrel
    have HR := hid hr
    have HG := hid hg
    clear hr hg
    by_cases hlt : k < L.length
    · obtain ⟨b, off, D, c', rfl, c1, c2, c3, c4⟩ := (hs'.out.gr HG.out).at_ hlt
      clear c2 c3
      by_cases hno : (L.getD k (0, [])).1 < tk
      · have E := hid (risesR_no tk L k hlt (.inl hno))
        generalize (L.getD k (0, [])).1 = ek at *
        go_wp2_with fail
        go_ret
        exact ⟨by rw [← HR.out, E.out]; rfl, HG.out⟩
      · by_cases hno2 : (L.getD k (0, [])).1 < 1
        · have E := hid (risesR_no tk L k hlt (.inr hno2))
          generalize (L.getD k (0, [])).1 = ek at *
          go_wp2_with fail
          go_ret
          exact ⟨by rw [← HR.out, E.out]; rfl, HG.out⟩
        · have E := hid (risesR_yes tk L k hlt (by omega))
          generalize (L.getD k (0, [])).1 = ek at *
          go_wp2_with fail
          go_roundw
          case rel => exact ⟨k + 1, ek, by omega, by go_num, rfl, by rw [← HR.out, E.out], HG.out⟩
          case measure => simp [intOf]; omega
    · have : k = L.length := by omega
      subst this
      go_wp2_with fail
      go_ret
      exact ⟨by rw [← HR.out, List.drop_length]; rfl, HG.out⟩

theorem step_append_own {P : Program} {w : World} {ops : Array Oper} {o : Oper} {a : Act} {K : Act → World → Prop} {Q : Exit → Act → World → Prop} {E : Prop} (hgd : o.guard = none) (s x : Operand) (t : TypeId)
    (ho : o.op = .call { callee := .builtin .append, args := #[s, x], argTypes := #[t, t] })
    (base : Nat) (e : TypeId) (i : TypeInfo) (z : Value) (size bytes : Nat) (ht : P.underlying t = some (.slice e)) (hi : P.info? e = some i) (hz : i.zero = some z)
    (hsize : i.size = size) (hby : i.bytes = bytes) (hzs : z.cells.size = size) (hsz : 0 < size)
    (v : Value) (n : Nat) (xs : List Value) (hs : a.eval s = v) (hown : w.ownsRow base e size v n xs)
    (ad : Addr) (m c : Nat) (news : List Value) (hx : a.eval x = .slice (some ad) m c) (hl : news.length = m * size) (hnews : ∀ j u, news[j]? = some u → w.cell? (ad.add j) = some u) (h1 : ∀ u ∈ news, u.oneCell' = true)
    (h63 : n + m ≤ maxLen) (hbytes : (n + m) * bytes ≤ 140737488355328) (hbase : base ≤ w.heap.size)
    (h : ∀ v' w', w'.ownsRow base e size v' (n + m) (xs ++ news) → w.grownBy w' v.ownBlock → (v' = .slice none 0 0 ↔ v = .slice none 0 0 ∧ m = 0) → K (a.put o.dst v') w') :
    if Region.wanted o (yielded ops a.tmps) = true then Oper.wp P o a w K Q else E := by
  have hw : Region.wanted o (yielded ops a.tmps) = true := by simp [Region.wanted, hgd]
  rw [if_pos hw]
  exact wp_append_own w s x t ho base e i z size bytes ht hi hz hsize hby hzs hsz v n xs hs hown ad m c news hx hl hnews h1 h63 hbytes hbase fun v' w' h2 h3 h4 => h v' w' h2 h3 h4

set_option maxRecDepth 100000 in
set_option maxHeartbeats 3200000 in
theorem copied_any (base : Nat) (A : Option Addr) (c : Nat) (L : List Ent) (w : World) (hs : Sl base w A L) (hl : L.length ≤ 4398046511103) (hbase : base ≤ w.heap.size) :
    Calls Try.prog 30 #[.slice A L.length c] w (RetP (fun w' v => OwnR base w.heap.size w' v L) w) := by
  obtain ⟨i0, hi0, hz0, hz1, hz2⟩ := info_parts info68
  obtain ⟨i5, hi5, hy0, hy1, hy2⟩ := info_parts info5
  have hs' := hid hs
  clear hs
  go_enter Try.func30, Try.ntmps30
  go_wp2_with fail
  go_loopw [3, 4] (fun v i wr => ∃ k : Nat, k ≤ L.length ∧ i = .int .i64 k ∧ Gr w wr ∧ OwnR base w.heap.size wr v (L.take k)) (fun _ i _ => L.length - (intOf i).toNat)
  case atStart => exact ⟨0, Nat.zero_le _, rfl, Gr.refl _, [], World.ownsRow_nil _ _ _ _, ents_nil _ _⟩
  case round =>
    obtain ⟨k, hk, rfl, hg, ys, hown, hents⟩ := hrel
    have HG := hid hg
    have HO := hid hown
    have HE := hid hents
    have hsz := hg.size
    clear hg hown hents
    by_cases hlt : k < L.length
    · obtain ⟨b, off, D, c', rfl, c1, c2, c3, c40⟩ := hs'.out.at_ hlt
      have c4 : b < wr.heap.size := by omega
      rw [← HG.out.cell (p := ⟨b, off + k * 2, none⟩) c40] at c1
      rw [← HG.out.cell (p := ⟨b, off + k * 2 + 1, none⟩) c40] at c2
      replace c3 := c3.kp HG.out.kp
      obtain ⟨⟨ek, dk⟩, he⟩ : ∃ e, L.getD k (0, []) = e := ⟨_, rfl⟩
      rw [he] at c1 c2 c3
      simp only at c1 c2 c3
      have HB := hid c3
      have HL := hid he
      clear c3 he
      have htl : (L.take k).length = k := by simp; omega
      have HK := hid (show wr.ownsRow w.heap.size 68 2 u3 k ys by have := HO.out; rwa [htl] at this)
      have HT := hid htl
      clear htl
      have hE0 : wr.heap.size < wr.heap.size + 1 := by omega
      have hne : u3.ownBlock ≠ some wr.heap.size := fun e => by have := (HO.out.lt _ e).2; omega
      rcases D with _ | ad
      · have hnil : dk = [] ∧ c' = 0 := by
          obtain ⟨A', c'', e, _, _, h3, h4⟩ := HB.out
          injection e with e1 e2 e3
          subst e1 e3
          refine ⟨?_, h4 rfl⟩
          by_cases h0 : dk = []
          · exact h0
          · obtain ⟨_, _, e, _⟩ := h3 h0; cases e
        obtain ⟨rfl, rfl⟩ := hnil
        have c2' : wr.cell? ⟨b, off + k * 2 + 1, none⟩ = some (.slice none 0 0) := c2
        clear c2
        go_wp2_with fail
        go_region_held3 (fun w' => w'.cell? ⟨b, off + k * 2, none⟩ = some (.int .i64 ek) ∧ w'.cell? ⟨b, off + k * 2 + 1, none⟩ = some (.slice none 0 0)) (first | go_keep | (refine ⟨?_, ?_⟩ <;> go_simp; done) | (refine ⟨?_, ?_⟩ <;> (rw [hgrow.cell_far _ (by show b < _; simp; omega) (by intro e; have h2 := (HO.out.lt _ e.symm).1; have h3 : w.heap.size ≤ b := h2; omega)]; go_simp)))
          (first
            | (refine step_append_lies _ (by rfl) _ _ _ (by rfl) w.heap.size 68 i0 _ 2 32 Try.underlying37 hi0 hz0 hz1 hz2 rfl (by omega) u3 k ys (by rfl) (own_gr HK.out ((((Gr.refl wr).alloc _).alloc _).drew)) ⟨wr.heap.size + 1, 0, none⟩ 1 1 [.int .i64 ek, .slice (some ⟨wr.heap.size, 0, none⟩) 0 0] (by rfl) (by rfl) (World.news_of_block (B := wr.heap.size + 1) (cs := #[.int .i64 ek, .slice (some ⟨wr.heap.size, 0, none⟩) 0 0]) (t := 68) (fr := (0, 0)) (by have h := heap_alloc_new (wr.alloc (.cells #[] 5)) (.cells #[.int .i64 ek, .slice (some ⟨wr.heap.size, 0, none⟩) 0 0] 68); rw [show (wr.alloc (.cells #[] 5)).heap.size = wr.heap.size + 1 by simp] at h; exact h)) (by simp [Value.oneCell']) (by omega) (by unfold maxLen; omega) (by omega) (by simp; omega) _ rfl ?_
               intro gg cap w2 hown2 hgrow hat hlt2))
        go_wp2_with fail
        have G1 := hid (show Gr wr ((wr.alloc (.cells #[] 5)).alloc (.cells #[.int .i64 ek, .slice (some ⟨wr.heap.size, 0, none⟩) 0 0] 68)).drew from ((((Gr.refl wr).alloc _).alloc _).drew))
        have HBN : ∀ W : World, Byt TB base W (.slice (some ⟨wr.heap.size, 0, none⟩) 0 0) [] := fun W => ⟨_, 0, rfl, by simp, Rd.nil _ _, fun h => absurd rfl h, fun e => by cases e⟩
        go_roundw
        case rel => exact ⟨k + 1, by omega, by go_num, gr_grown (HG.out.trans G1.out) hgrow (fun r hr => (HO.out.lt r hr).1), own_stepR hlt HL.out hbase (own_gr HO.out G1.out) (HE.out.kp G1.out.kp) (HBN _) (by rw [HT.out]; exact hown2) hgrow⟩
        case measure => simp [intOf]; omega
      · have HR1 := hid (show Rd wr (some ad) (bc dk) ∧ dk.length ≤ 140737488351232 from by obtain ⟨A', c'', e, h1, h2, _⟩ := HB.out; injection e with e1 e2 e3; subst e1; exact ⟨h2, h1⟩)
        have hdk := HR1.out.2
        go_wp2_with fail
        go_region_held3 (fun w' => w'.cell? ⟨b, off + k * 2, none⟩ = some (.int .i64 ek) ∧ w'.cell? ⟨b, off + k * 2 + 1, none⟩ = some (.slice (some ad) dk.length c')) (first | go_keep | (refine ⟨?_, ?_⟩ <;> go_simp; done) | (refine ⟨?_, ?_⟩ <;> (rw [hg1.cell_far _ (by simp; omega) (by simp [Value.ownBlock]; omega)]; go_simp)) | (refine ⟨?_, ?_⟩ <;> (rw [hgrow.cell_far _ (by have := HW1.out.size; show b < _; simp; omega) (by intro e; have h2 := (HO.out.lt _ e.symm).1; have h3 : w.heap.size ≤ b := h2; omega), World.cell?_alloc_lt _ _ _ (by have := HW1.out.size; show b < _; omega), HW1.out.cell (show b < _ from c4)]; assumption)))
          (first
            | (refine step_append_own (by rfl) (.tmp 17) (.tmp 22) 44 (by rfl) wr.heap.size 5 i5 _ 1 1 Try.underlying44 hi5 hy0 hy1 hy2 rfl (by decide) (.slice (some ⟨wr.heap.size, 0, none⟩) 0 0) 0 [] (by rfl) (World.ownsRow_made wr.drew #[] 0 (Nat.le_refl _) (by decide) rfl) ad dk.length c' (bc dk) (by rfl) (by simp [bc_length]) (HR1.out.1.gr (((Gr.refl wr).drew).alloc _)).add (bc_one dk) (by unfold maxLen; omega) (by omega) (by simp) ?_
               intro v1 w1 hown1 hg1 _
               have HBY := hid (byt_own (base := base) (bs := dk) hown1 (by omega) hdk)
               obtain ⟨D1, n1, rfl⟩ : ∃ D1 n1, v1 = .slice D1 dk.length n1 := by obtain ⟨A', c'', e, _⟩ := HBY.out; exact ⟨A', c'', e⟩
               have HW1 := hid (show Gr wr w1 from gr_grown (((Gr.refl wr).drew).alloc _) hg1 (by intro r hr; simp [Value.ownBlock] at hr; omega))
               clear hown1)
            | (refine step_append_lies _ (by rfl) _ _ _ (by rfl) w.heap.size 68 i0 _ 2 32 Try.underlying37 hi0 hz0 hz1 hz2 rfl (by omega) u3 k ys (by rfl) (own_gr HK.out (HW1.out.alloc _)) ⟨w1.heap.size, 0, none⟩ 1 1 [.int .i64 ek, .slice D1 dk.length n1] (by rfl) (by rfl) (World.news_of_block (cs := #[.int .i64 ek, .slice D1 dk.length n1]) (t := 68) (fr := (0, 0)) (heap_alloc_new w1 _)) (by simp [Value.oneCell']) (by omega) (by unfold maxLen; omega) (by omega) (by have := HW1.out.size; simp; omega) _ rfl ?_
               intro gg cap w2 hown2 hgrow hat hlt2))
        go_wp2_with fail
        have G1 := hid (show Gr wr (w1.alloc (.cells #[.int .i64 ek, .slice D1 dk.length n1] 68)) from HW1.out.alloc _)
        go_roundw
        case rel => exact ⟨k + 1, by omega, by go_num, gr_grown (HG.out.trans G1.out) hgrow (fun r hr => (HO.out.lt r hr).1), own_stepR hlt HL.out hbase (own_gr HO.out G1.out) (HE.out.kp G1.out.kp) (HBY.out.kp (Kp.alloc (Kp.refl _ _ _) _)) (by rw [HT.out]; exact hown2) hgrow⟩
        case measure => simp [intOf]; omega
    · have : k = L.length := by omega
      subst this
      have htl := hid (List.take_length (l := L))
      go_wp2_with fail
      go_ret
      exact ⟨_, ⟨wr, HG.out⟩, rfl, rfl, ys, by have := HO.out; rwa [htl.out] at this, by have := HE.out; rwa [htl.out] at this⟩
end Go.Proofs.Ythiahnpijdkboaa
