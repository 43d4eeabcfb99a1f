/- Lemmas: what the functions of the engine answer, and which blocks they write. -/
import Derived.Deep.LoopGhost
import Derived.Test.YtniknicnnaiilaaGreatX04
import Derived.Test.YtniknicnnaiilaaGreatX10
import Derived.Test.YtniknicnnaiilaaGreatX12
import Derived.Test.YtniknicnnaiilaaGreatX17
import Derived.Test.YtniknicnnaiilaaGreatX22
import Derived.Test.YtniknicnnaiilaaGreatX24
section
namespace Go.Proofs.YtniknicnnaiilaaGreat
set_option maxRecDepth 100000
open Go.RowKit Go.Ext Go.BigFrame Go.Maps Go.MapKept
attribute [local go_sem] Ext.cell Ext.frozen Ext.lt Ext.le s1 s2 s3 s4 s5 s6 t1 t2 t3 t4 t5 t6
attribute [local go_sem ↓] Go.wp_at_zero Go.wp_at_succ
theorem TwL.back {w w1 w2 w3 wF : World} {M : Bl} {D : Rows} {k' m' B : Nat} (h : TwL w1 (fun b => M b ∨ w.heap.size ≤ b) D k' m' w2) (g1 : Gr w w1) (g3 : Gr w2 w3) (hB : w.heap.size ≤ B) (hB1 : B < w1.heap.size) (m : Mod (fun b => b = B) w3 wF) : TwL w M D k' m' wF := by
  obtain ⟨h1, h2, h3, h4, h5, h6, h7⟩ := h
  have gs := g1.size
  have g3s := g3.size
  have g13 := (h6.trans g3).size
  have hms := m.size
  have gF : Gr w wF := gr_k (g1.trans (h6.trans g3)) m hB
  refine ⟨by omega, by omega, by omega, by omega, h5, gF, fun M' hM => ?_⟩
  have hl := (h7 (fun b => M' b ∨ b = B) (fun b hb e => by
    rcases e with e | e
    · by_cases hlt : b < w.heap.size
      · exact .inl (hM b hlt e)
      · exact .inr (by omega)
    · exact .inr (by omega))).gr g3
  exact hl.up ⟨m.mono (fun b _ e => .inr e), fun b _ e => .inl e⟩ (m.block k' (by omega) (by show ¬ k' = B; omega)) (m.block m' (by omega) (by show ¬ m' = B; omega))
theorem ListR.new {w w1 : World} {M : Bl} {k mb : Nat} {m : Rows} (h : ListR w M k mb m) (g : Gr w w1) : ListR w1 (fun b => M b ∨ w.heap.size ≤ b) k mb m :=
  h.upg g (fun b hb e => by
    rcases e with e | e
    · exact e
    · omega)
set_option maxHeartbeats 2000000 in
theorem twinR_any (kd ka md ma : Nat) (D A : Rows) (M : Bl) (w : World) (hd : ListR w M kd md D) (ha : ListR w M ka ma A) :
    Calls Tryz.prog 47 #[.agg #[.pointer (some ⟨kd, 0, none⟩), .pointer (some ⟨ka, 0, none⟩)]] w (fun e w' => ∃ kd' md' ka' ma', e = .returned (.agg #[.pointer (some ⟨kd', 0, none⟩), .pointer (some ⟨ka', 0, none⟩)]) ∧ TwL w M D kd' md' w' ∧ TwL w M A ka' ma' w' ∧ md' ≠ ma') := by
  have HD := hid hd
  have HA := hid ha
  have HB := hid ((((Gr.refl _).alloc (.cells #[.pointer none, .pointer none] 75)).block w.heap.size (by simp)).trans (heap_alloc_new w (.cells #[.pointer (some ⟨kd, 0, none⟩), .pointer (some ⟨ka, 0, none⟩)] 75)))
  have HC := hid (show ((w.alloc (.cells #[.pointer (some ⟨kd, 0, none⟩), .pointer (some ⟨ka, 0, none⟩)] 75)).alloc (.cells #[.pointer none, .pointer none] 75)).heap[w.heap.size + 1]? = some (.cells #[.pointer none, .pointer none] 75 (0, 0)) from by have := heap_alloc_new (w.alloc (.cells #[.pointer (some ⟨kd, 0, none⟩), .pointer (some ⟨ka, 0, none⟩)] 75)) (.cells #[.pointer none, .pointer none] 75); simpa using this)
  have G1 := hid (((Gr.refl w).alloc (.cells #[.pointer (some ⟨kd, 0, none⟩), .pointer (some ⟨ka, 0, none⟩)] 75)).alloc (.cells #[.pointer none, .pointer none] 75))
  clear hd ha
  go_enter Tryz.func47, Tryz.ntmps47
  go_upto_region 1 with fail
  obtain ⟨w1, hw1⟩ : ∃ w1, (w.alloc (.cells #[.pointer (some ⟨kd, 0, none⟩), .pointer (some ⟨ka, 0, none⟩)] 75)).alloc (.cells #[.pointer none, .pointer none] 75) = w1 := ⟨_, rfl⟩
  rw [hw1] at HB HC G1 ⊢
  clear hw1
  obtain ⟨B, hB⟩ : ∃ B, w.heap.size = B := ⟨_, rfl⟩
  have HBB := hid hB
  rw [hB] at HB HC ⊢
  clear hB
  obtain ⟨x0, x1⟩ := cells2 HB.out
  have hbl := block_lt HB.out
  have hcl := block_lt HC.out
  refine wp_region_planM [(0, false), (1, false), (3, false), (4, false), (2, true), (5, true), (6, false), (7, true)] (fun W => Gr w1 W) (by kernel_rfl) (by kernel_rfl) (fun _ _ d _ _ h => by cases d <;> exact h) (Gr.refl w1).drew (fun _ => ?_)
  iterate 4 (refine pm_take (v := ?_) rfl (by rfl) ?_ ?_; rotate_left; (focus (intro W9 hW9; obtain ⟨x9, rfl⟩ : ∃ x : Ext w1, W9 = x.val := ⟨⟨W9, hW9⟩, rfl⟩; go_simp; (try with_reducible rfl); done)); (try simp only [AP]))
  refine pm_call rfl (by rfl) (fun K hK => ?_)
  go_simp
  go_at_call 83
  refine (twinL_any kd md D _ _ (HD.out.new (G1.out.trans (Gr.refl w1).drew))).mono ?_
  rintro en w2 ⟨kd', md', rfl, ht2⟩
  have HT2 := hid ht2
  have G2 := hid ((Gr.refl w1).drew.trans ht2.2.2.2.2.2.1)
  refine hK.out (fun W => Gr w1 W) _ _ G2.out (fun W h => h) (fun _ => ?_)
  clear hK K ht2
  (try simp only [AP])
  refine pm_call rfl (by rfl) (fun K hK => ?_)
  go_simp
  go_at_call 83
  refine (twinL_any ka ma A _ _ (HA.out.new (G1.out.trans G2.out))).mono ?_
  rintro en w3 ⟨ka', ma', rfl, ht3⟩
  have HT3 := hid ht3
  have G3 := hid (G2.out.trans ht3.2.2.2.2.2.1)
  refine hK.out (fun W => Gr w1 W) _ _ G3.out (fun W h => h) (fun _ => ?_)
  clear hK K ht3
  (try simp only [AP])
  iterate 1 (refine pm_take (v := ?_) rfl (by rfl) ?_ ?_; rotate_left; (focus (intro W9 hW9; obtain ⟨x9, rfl⟩ : ∃ x : Ext w1, W9 = x.val := ⟨⟨W9, hW9⟩, rfl⟩; go_simp; (try with_reducible rfl); done)); (try simp only [AP]))
  have HC3 := hid ((G3.out.block (B + 1) hcl).trans HC.out)
  have hcl3 := block_lt HC3.out
  have fz0 := frozen_of (j := 0) HC3.out
  have fz1 := frozen_of (j := 1) HC3.out
  obtain ⟨p0, p1⟩ := cells2 HC3.out
  have M2 := hid (mod_set (S := fun b => b = B + 1) (mod_set (S := fun b => b = B + 1) ((Gr.refl w3).mod _) (b := B + 1) (j := 0) (fun _ => rfl) (.pointer (some ⟨kd', 0, none⟩))) (b := B + 1) (j := 1) (fun _ => rfl) (.pointer (some ⟨ka', 0, none⟩)))
  refine pm_last rfl (by rfl) (fun K hK => ?_)
  go_simp
  refine hK.out _ _ ?_
  clear hK K
  go_wp2_with fail
  refine bodyPost_ret (v := .agg #[.pointer (some ⟨kd', 0, none⟩), .pointer (some ⟨ka', 0, none⟩)]) (by simp [results, Tryz.results47, go_sem, p0, p1]) rfl ⟨kd', md', ka', ma', rfl, ?_, ?_, ?_⟩
  · exact HT2.out.back (G1.out.trans (Gr.refl w1).drew) HT3.out.2.2.2.2.2.1 (by have := HBB.out; omega) (by simpa using hcl) (B := B + 1) (M2.out)
  · exact HT3.out.back (G1.out.trans G2.out) (Gr.refl w3) (by have := HBB.out; omega) (Nat.lt_of_lt_of_le hcl G2.out.size) (B := B + 1) (M2.out)
  · have h1 := HT2.out.2.2.2.1
    have h2 := HT3.out.2.1
    omega
theorem cells7e {W : World} {B : Nat} {t : TypeId} {a b c d e f g : Value} (h : W.heap[B]? = some (.cells #[a, b, c, d, e, f, g] t (0, 0))) : W.cell? ⟨B, 0, none⟩ = some a ∧ W.cell? ⟨B, 1, none⟩ = some b ∧ W.cell? ⟨B, 2, none⟩ = some c ∧ W.cell? ⟨B, 3, none⟩ = some d ∧ W.cell? ⟨B, 4, none⟩ = some e ∧ W.cell? ⟨B, 5, none⟩ = some f ∧ W.cell? ⟨B, 6, none⟩ = some g := by
  refine ⟨?_, ?_, ?_, ?_, ?_, ?_, ?_⟩ <;> simp [World.cell?, h]
def RetTw (M : Bl) (E : ES) (w : World) (e : Ending) (w' : World) : Prop :=
  ∃ M' S' k', e = .returned (.pointer (some ⟨k', 0, none⟩)) ∧ Gr w w' ∧ EngR w' M' S' k' E ∧ (∀ b, M b → M' b) ∧ (∀ b, b < w.heap.size → M' b → M b) ∧ ∀ b, S' b → w.heap.size ≤ b
set_option maxHeartbeats 4000000 in
theorem twin_anyE (k : Nat) (E : ES) (M S : Bl) (w : World) (h : EngR w M S k E) (hdue : E.due.length ≤ 1000000) : Calls Tryz.prog 27 #[.pointer (some ⟨k, 0, none⟩)] w (RetTw M E w) := by
  obtain ⟨kd, ka, md, ma, mr, kh, hv, hP⟩ := h
  have H := hid hP
  obtain ⟨e0, e1, e2, e3, e4, e5, e6, hkl⟩ := hP.cells
  obtain ⟨kv, hmi, hrel⟩ := hP.r
  have HMI := hid hmi
  have HREL := hid hrel
  have HD := hid hP.d
  have HA := hid hP.a
  have HH := hid hP.h
  clear hmi hrel
  have hk := hP.cell
  have HB1 := hid (heap_alloc_new w (.cells #[.pointer (some ⟨kd, 0, none⟩), .pointer (some ⟨ka, 0, none⟩), .int .i64 E.shard, .int .i64 E.groups, .int .i64 E.now, .map (some mr), .pointer (some ⟨kh, 0, none⟩)] 79))
  have G1 := hid ((Gr.refl w).alloc (.cells #[.pointer (some ⟨kd, 0, none⟩), .pointer (some ⟨ka, 0, none⟩), .int .i64 E.shard, .int .i64 E.groups, .int .i64 E.now, .map (some mr), .pointer (some ⟨kh, 0, none⟩)] 79))
  have HK := hid hk
  have hne : k ≠ w.heap.size := by omega
  have hne' : ¬ w.heap.size = k := by omega
  clear hP hk
  have HBK := hid (show ∀ W, Gr w W → W.cell? ⟨k, 0, none⟩ = some (.pointer (some ⟨kd, 0, none⟩)) ∧ W.cell? ⟨k, 1, none⟩ = some (.pointer (some ⟨ka, 0, none⟩)) ∧ W.cell? ⟨k, 5, none⟩ = some (.map (some mr)) ∧ W.cell? ⟨k, 6, none⟩ = some (.pointer (some ⟨kh, 0, none⟩)) ∧ k < W.heap.size from fun W g => by
    obtain ⟨a0, a1, _, _, _, a5, a6, a7⟩ := (H.out.gr g).cells
    exact ⟨a0, a1, a5, a6, a7⟩)
  go_enter Tryz.func27, Tryz.ntmps27
  go_wp2_with (first
    | (go_at_call 47
       refine (twinR_any kd ka md ma E.dec E.act _ _ (HD.out.new G1.out) (HA.out.new G1.out)).mono ?_
       rintro en w2 ⟨kd', md', ka', ma', rfl, td, ta, hmm⟩
       have TD := hid td
       have TA := hid ta
       have MM := hid hmm
       have G2 := hid (G1.out.trans td.2.2.2.2.2.1)
       have HB2 := hid ((td.2.2.2.2.2.1.block w.heap.size (by simp)).trans HB1.out)
       obtain ⟨p0, p1, p2, p3, p4, p5, p6⟩ := cells7e HB2.out
       have hb2 := block_lt HB2.out
       have z0 := frozen_of (j := 0) HB2.out
       have z1 := frozen_of (j := 1) HB2.out
       obtain ⟨y0, y1, y5, y6, yk⟩ := HBK.out w2 G2.out
       clear td ta hmm)
    | (go_at_call 48
       obtain ⟨w3, hw3⟩ : ∃ w3, (w2.setCell ⟨w.heap.size, 0, none⟩ (.pointer (some ⟨kd', 0, none⟩))).setCell ⟨w.heap.size, 1, none⟩ (.pointer (some ⟨ka', 0, none⟩)) = w3 := ⟨_, rfl⟩
       have m3 := mod_set (S := fun b => b = w.heap.size) (mod_set (S := fun b => b = w.heap.size) ((Gr.refl w2).mod _) (b := w.heap.size) (j := 0) (fun _ => rfl) (.pointer (some ⟨kd', 0, none⟩))) (b := w.heap.size) (j := 1) (fun _ => rfl) (.pointer (some ⟨ka', 0, none⟩))
       have hb3 := set1_heap (j := 1) (set1_heap (j := 0) HB2.out (.pointer (some ⟨kd', 0, none⟩))) (.pointer (some ⟨ka', 0, none⟩))
       rw [hw3] at m3 hb3 ⊢
       clear hw3
       have M3 := hid m3
       have G3 := hid (gr_k G2.out m3 (Nat.le_refl _))
       refine (clone76_any mr kv w3 (HMI.out.gr G3.out)).mono ?_
       rintro en w4 ⟨mr', rfl, hmr, g4, hmi4⟩
       have G4 := hid (G3.out.trans g4)
       have M4 := hid (m3.trans (g4.mod _) (fun _ _ e => e))
       have HMR := hid hmr
       have HMI4 := hid hmi4
       have HB4 := hid ((g4.block w.heap.size (block_lt hb3)).trans hb3)
       obtain ⟨_, _, _, _, _, r5, _⟩ := cells7e HB4.out
       have hb4 := block_lt HB4.out
       have z5 := frozen_of (j := 5) HB4.out
       obtain ⟨v0, v1, v5, v6, vk⟩ := HBK.out w4 G4.out
       clear m3 hb3 hmr g4 hmi4)
    | (go_at_call 49
       obtain ⟨w5, hw5⟩ : ∃ w5, w4.setCell ⟨w.heap.size, 5, none⟩ (.map (some mr')) = w5 := ⟨_, rfl⟩
       have m5 := mod_set (S := fun b => b = w.heap.size) ((Gr.refl w4).mod _) (b := w.heap.size) (j := 5) (fun _ => rfl) (.map (some mr'))
       have hb5 := set1_heap (j := 5) HB4.out (.map (some mr'))
       rw [hw5] at m5 hb5 ⊢
       clear hw5
       have G5 := hid (gr_k G4.out m5 (Nat.le_refl _))
       refine (twinH_any kh hv E.due w5 (H.out.gr G5.out).h hdue).mono ?_
       rintro en w6 ⟨kh', hv', rfl, ht⟩
       have HT := hid ht
       have G6 := hid (G5.out.trans ht.2.2.1)
       have M46 := hid (m5.trans (ht.2.2.1.mod _) (fun _ _ e => e))
       have HB6 := hid ((ht.2.2.1.block w.heap.size (block_lt hb5)).trans hb5)
       obtain ⟨_, _, _, _, _, _, s6⟩ := cells7e HB6.out
       have hb6 := block_lt HB6.out
       have z6 := frozen_of (j := 6) HB6.out
       have S5 := hid m5.size
       clear m5 hb5 ht))
  have M7 := hid (mod_set (S := fun b => b = w.heap.size) ((Gr.refl w6).mod _) (b := w.heap.size) (j := 6) (fun _ => rfl) (.pointer (some ⟨kh', 0, none⟩)))
  have HB7 := hid (set1_heap (j := 6) HB6.out (.pointer (some ⟨kh', 0, none⟩)))
  obtain ⟨w7, hw7⟩ : ∃ w7, w6.setCell ⟨w.heap.size, 6, none⟩ (.pointer (some ⟨kh', 0, none⟩)) = w7 := ⟨_, rfl⟩
  rw [hw7] at M7 HB7 ⊢
  clear hw7
  go_ret
  have M27 := hid ((M4.out.trans M46.out (fun _ _ e => e)).trans M7.out (fun _ _ e => e))
  have M47 := hid (M46.out.trans M7.out (fun _ _ e => e))
  have G7 := gr_k G6.out M7.out (Nat.le_refl _)
  have bd := TD.out.back G1.out (Gr.refl w2) (Nat.le_refl _) (by simp) M27.out
  have ba := TA.out.back G1.out (Gr.refl w2) (Nat.le_refl _) (by simp) M27.out
  have mrl := HMI4.out.lt
  have sz3 := M3.out.size
  have sz2 := G2.out.size
  have sz5 := S5.out
  have sz46 := M46.out.size
  have sz7 := M7.out.size
  have s27 := M27.out.size
  have mr3 := HMR.out
  have h57 : w6.heap.size ≤ w7.heap.size := sz7
  have kh5 := HT.out.1
  have hvb := HT.out.2.1
  have h56 := HT.out.2.2.1.size
  have hwl := H.out.lt
  have hB1 : w.heap.size < w2.heap.size := block_lt HB2.out
  obtain ⟨td1, td2, td3, td4, td5, _, td7⟩ := TD.out
  obtain ⟨ta1, ta2, ta3, ta4, ta5, _, ta7⟩ := TA.out
  simp only [World.size_alloc] at td1 td2 ta1 ta2
  have hold : ∀ b, b < w.heap.size → (M b ∨ (b = w.heap.size ∨ b = md' ∨ b = ma' ∨ b = mr' ∨ b = kh' ∨ hv'.ownBlock = some b)) → M b := fun b hb e => by
    rcases e with e | e | e | e | e | e | e
    · exact e
    · omega
    · omega
    · omega
    · omega
    · omega
    · have := hvb b e; omega
  have LD := bd.2.2.2.2.2.2 _ hold
  have LA := ba.2.2.2.2.2.2 _ hold
  have hmi7 : MI w7 mr' kv := HMI4.out.keep (M47.out.block mr' mrl (by show ¬ mr' = w.heap.size; omega))
  have hh6 := HT.out.2.2.2
  have hhb : ∀ b, hv'.ownBlock = some b → b < w6.heap.size := fun b e => by
    rcases hh6.row.2 with ⟨rfl, _⟩ | ⟨g', cap, cur, hv2, hb, hh, r⟩
    · cases e
    · rw [hv2] at e
      injection e with e
      exact e ▸ block_lt hh
  have hh7 : HB 0 w7 kh' hv' E.due := by
    refine ⟨hh6.lo, (M7.out.block kh' hh6.lt (by show ¬ kh' = w.heap.size; omega)).trans hh6.cell, hh6.row.1, ?_⟩
    rcases hh6.row.2 with h3 | ⟨g', cap, cur, hv2, hb, hh, r⟩
    · exact .inl h3
    · exact .inr ⟨g', cap, cur, hv2, hb, (M7.out.block g' (block_lt hh) (by
        have := hvb g' (by rw [hv2]; rfl)
        show ¬ g' = w.heap.size
        omega)).trans hh, r⟩
  have hup : Up M w (fun b => M b ∨ (b = w.heap.size ∨ b = md' ∨ b = ma' ∨ b = mr' ∨ b = kh' ∨ hv'.ownBlock = some b)) w7 := ⟨G7.mod M, hold⟩
  have hdm : kd' ≠ ma' := by
    obtain ⟨kva, hma, _⟩ := LA.map
    exact (ne_map_cells hma LD.cell).symm
  have ham : ka' ≠ md' := by
    obtain ⟨kva, hma, _⟩ := LD.map
    exact (ne_map_cells hma LA.cell).symm
  refine ⟨fun b => M b ∨ (b = w.heap.size ∨ b = md' ∨ b = ma' ∨ b = mr' ∨ b = kh' ∨ hv'.ownBlock = some b), fun b => b = w.heap.size ∨ b = md' ∨ b = ma' ∨ b = mr' ∨ b = kh' ∨ hv'.ownBlock = some b, w.heap.size, rfl, G7, ⟨kd', ka', md', ma', mr', kh', hv', ?_⟩, fun b e => .inl e, hold, fun b e => ?_⟩
  · refine ⟨HB7.out, LD, LA, ⟨kv, hmi7, HREL.out.mono fun a v hr => hr.up hup⟩, hh7, .inl rfl, .inr (.inl rfl), .inr (.inr (.inl rfl)), .inr (.inr (.inr (.inl rfl))), .inr (.inr (.inr (.inr (.inl rfl)))), fun b e => .inr (.inr (.inr (.inr (.inr e)))), ?_, ?_, MM.out, by omega, by omega, fun b e => .inr e, ?_⟩
    · rintro (e | e | e | e | e | e | e)
      · have := hwl _ e; omega
      · omega
      · exact td5 e
      · exact hdm e
      · omega
      · omega
      · have := hvb _ e; omega
    · rintro (e | e | e | e | e | e | e)
      · have := hwl _ e; omega
      · omega
      · exact ham e
      · exact ta5 e
      · omega
      · omega
      · have := hvb _ e; omega
    · rintro b (e | e | e | e | e | e | e)
      · have := hwl _ e; omega
      · omega
      · omega
      · omega
      · omega
      · have := hh6.lt; omega
      · have := hhb _ e; omega
  · rcases e with e | e | e | e | e | e
    · omega
    · omega
    · omega
    · omega
    · omega
    · have := hvb b e; omega
theorem alloc2 (w : World) (o0 o1 : Obj) : ∃ w1, (w.alloc o0).alloc o1 = w1 ∧ Gr w w1 ∧ w1.heap[w.heap.size]? = some o0 ∧ w1.heap[w.heap.size + 1]? = some o1 := by
  refine ⟨_, rfl, ((Gr.refl w).alloc _).alloc _, ?_, ?_⟩
  · exact ((Gr.refl _).alloc o1).block _ (by simp) |>.trans (heap_alloc_new w o0)
  · have := heap_alloc_new (w.alloc o0) o1; simpa using this
theorem gr_newS {w w1 w2 : World} {S : Bl} (g : Gr w w1) (m : Mod S w1 w2) (hS : ∀ b, S b → w.heap.size ≤ b) : Gr w w2 := by
  have gs := g.size
  have ms := m.size
  refine ⟨m.os.trans g.os, m.tape.trans g.tape, m.output.trans g.output, by omega, fun b hb => ?_⟩
  exact (m.block b (by omega) (fun e => by have := hS b e; omega)).trans (g.block b hb)
theorem EngR.more {w w1 : World} {M S : Bl} {k B : Nat} {E : ES} (h : EngR w M S k E) (g : Gr w w1) (h1 : w.heap.size ≤ B) (h2 : B < w1.heap.size) : EngR w1 (fun b => M b ∨ b = B) S k E := by
  refine h.keep ⟨g.mod M, fun b hb e => ?_⟩ (fun b e => g.block b (h.lt.1 b (h.lt.2.1 b e))) (fun b e => .inl (h.lt.2.1 b e)) (fun b e => ?_)
  · rcases e with e | e
    · exact e
    · omega
  · rcases e with e | e
    · exact Nat.lt_of_lt_of_le (h.lt.1 b e) g.size
    · omega
theorem EngP.move {w w' : World} {M S : Bl} {k k' kd ka md ma mr kh : Nat} {hv : Value} {E : ES} (h : EngP w M S k' E kd ka md ma mr kh hv) (m : Mod (fun b => b = k) w w')
    (hc : w'.heap[k]? = some (.cells (engC E kd ka mr kh) 79 (0, 0))) (hk : M k) (hS : ¬ S k) : EngP w' M (fun b => S b ∨ b = k) k E kd ka md ma mr kh hv := by
  have u : Up M w M w' := Mod.up m (fun _ _ e => e ▸ hk)
  have hb : ∀ b, S b → w'.heap[b]? = w.heap[b]? := fun b e => m.block b (h.lt b (h.SM b e)) (fun x => hS (x ▸ e))
  have p := h.keep u hb h.SM (fun b e => Nat.lt_of_lt_of_le (h.lt b e) m.size)
  exact ⟨hc, p.d, p.a, p.r, p.h, .inr rfl, .inl p.smd, .inl p.sma, .inl p.smr, .inl p.skh, fun b e => .inl (p.shv b e), p.nd, p.na, p.ne1, p.ne2, p.ne3, fun b e => by
    rcases e with e | e
    · exact p.SM b e
    · exact e ▸ hk, p.lt⟩
set_option maxHeartbeats 1000000 in
theorem set7_heap {w : World} {k : Nat} {a b c d e f g a' b' c' d' e' f' g' : Value} {t : TypeId} (h : w.heap[k]? = some (.cells #[a, b, c, d, e, f, g] t (0, 0))) :
    ∃ w', ((((((w.setCell ⟨k, 0, none⟩ a').setCell ⟨k, 1, none⟩ b').setCell ⟨k, 2, none⟩ c').setCell ⟨k, 3, none⟩ d').setCell ⟨k, 4, none⟩ e').setCell ⟨k, 5, none⟩ f').setCell ⟨k, 6, none⟩ g' = w' ∧
      Mod (fun x => x = k) w w' ∧ w'.heap[k]? = some (.cells #[a', b', c', d', e', f', g'] t (0, 0)) := by
  refine ⟨_, rfl, ?_, ?_⟩
  · refine mod_set (mod_set (mod_set (mod_set (mod_set (mod_set (mod_set ((Gr.refl w).mod _) ?_ _) ?_ _) ?_ _) ?_ _) ?_ _) ?_ _) ?_ _ <;> exact fun _ => rfl
  · have := set1_heap (j := 6) (set1_heap (j := 5) (set1_heap (j := 4) (set1_heap (j := 3) (set1_heap (j := 2) (set1_heap (j := 1) (set1_heap (j := 0) h a') b') c') d') e') f') g'
    simpa only [List.setIfInBounds_toArray, List.set_cons_zero, List.set_cons_succ] using this
def RetDo (M S : Bl) (k : Nat) (a : Ans) (E' : ES) (w : World) (en : Ending) (w2 : World) : Prop :=
  ∃ dv ev M' S', en = .returned (ansV a dv ev) ∧ EngR w2 M' S' k E' ∧ Along w M S w2 M' S' ∧ BysM w2 M' dv a.data ∧ RecsM evR w2 M' ev a.events
def RetF (M S : Bl) (k : Nat) (x : Ans × Option ES) (w : World) (en : Ending) (w2 : World) : Prop :=
  match x with
  | (a, some E') => ∃ dv ev M' S', en = .returned (.tuple #[ansV a dv ev, .bool false]) ∧ EngR w2 M' S' k E' ∧ Along w M S w2 M' S' ∧ BysM w2 M' dv a.data ∧ RecsM evR w2 M' ev a.events
  | (_, none) => ∃ a A n c A' n' c', en = .returned (.tuple #[ansV a (.slice A n c) (.slice A' n' c'), .bool true]) ∧ Mod S w w2
theorem fin_ans {w w1 w2 w3 : World} {M S M2 S2 : Bl} {k b4 : Nat} {E' : ES} {a : Ans} {dv ev : Value} (hS : ∀ b, S b → b < w.heap.size) (g1 : Gr w w1) (hb4 : w.heap.size ≤ b4) (hb41 : b4 < w1.heap.size)
    (heng : EngR w2 M2 S2 k E') (hal : Along w1 (fun b => M b ∨ b = b4) S w2 M2 S2) (hd : BysM w2 M2 dv a.data) (he : RecsM evR w2 M2 ev a.events) (m : Mod (fun x => x = b4) w2 w3) :
    EngR w3 M2 S2 k E' ∧ Along w M S w3 M2 S2 ∧ BysM w3 M2 dv a.data ∧ RecsM evR w3 M2 ev a.events := by
  have h4 : M2 b4 := hal.mm b4 (.inr rfl)
  have n4 : ¬ S2 b4 := fun e => by have := hS b4 (hal.s b4 hb41 e); omega
  have u : Up M2 w2 M2 w3 := Mod.up m (fun _ _ e => e ▸ h4)
  refine ⟨heng.setOther m h4 n4, ⟨?_, fun b hb e => hal.s b (Nat.lt_of_lt_of_le hb g1.size) e, fun b hb e => ?_, fun b e => hal.mm b (.inl e)⟩, hd.up u, he.up u⟩
  · have h1 : Mod S w w2 := (g1.mod S).trans hal.mod (fun _ _ e => e)
    exact h1.trans m (fun b hb e => by omega)
  · rcases hal.m b (Nat.lt_of_lt_of_le hb g1.size) e with h | h
    · exact h
    · omega
theorem along_copy {w1 wr w6 w7 w8 w9 : World} {M1 S1 Mi Si M7 S7 M8 S8 : Bl} {k : Nat} (hal : Along w1 M1 S1 wr Mi Si) (g6 : Gr wr w6) (g7 : Gr w6 w7) (hMM : ∀ b, Mi b → M7 b) (hMo : ∀ b, b < w6.heap.size → M7 b → Mi b) (hS7 : ∀ b, S7 b → w6.heap.size ≤ b)
    (hal8 : Along w7 M7 S7 w8 M8 S8) (m9 : Mod (fun b => b = k) w8 w9) (hk : Si k) : Along w1 M1 S1 w9 M8 (fun b => S8 b ∨ b = k) := by
  have s1 := hal.mod.size
  have s6 := g6.size
  have s7 := g7.size
  refine ⟨?_, fun b hb e => ?_, fun b hb e => ?_, fun b e => hal8.mm b (hMM b (hal.mm b e))⟩
  · have h1 : Mod S1 w1 w7 := hal.mod.trans ((g6.trans g7).mod S1) (fun _ _ e => e)
    have h2 : Mod S1 w1 w8 := h1.trans hal8.mod (fun b hb e => by have := hS7 b e; omega)
    exact h2.trans m9 (fun b hb e => hal.s b hb (e ▸ hk))
  · rcases e with e | e
    · have := hS7 b (hal8.s b (by omega) e)
      omega
    · exact hal.s b hb (e ▸ hk)
  · exact hal.m b hb (hMo b (by omega) (hal8.m b (by omega) e))
theorem fin_full {w w1 w2 w3 : World} {S : Bl} {b4 : Nat} (g1 : Gr w w1) (hb4 : w.heap.size ≤ b4) (h : Mod S w1 w2) (m : Mod (fun x => x = b4) w2 w3) : Mod S w w3 :=
  ((g1.mod S).trans h (fun _ _ e => e)).trans m (fun b hb e => by omega)
theorem stood28 : Tryz.prog.stoodInHeld 28 = false := by kernel_rfl
theorem str28 : Tryz.prog.underlying 28 = some (.struct (Tryz.prog.fieldsOf 28)) := by kernel_rfl
theorem tokE (a b : Tok) : decide (a = b) = ((((a.flow == b.flow) && (a.run == b.run)) && (a.event == b.event)) && (a.turn == b.turn)) := by
  cases a; cases b
  rw [Bool.eq_iff_iff]
  simp only [decide_eq_true_eq, Tok.mk.injEq, Bool.and_eq_true, beq_iff_eq, and_assoc]
theorem equal28 (a b c d a' b' c' d' : Int) (w : World) : (Op.equalIn 10000 28 (.agg #[.int .i64 a', .int .i64 b', .int .i64 c', .int .i64 d']) (.agg #[.int .i64 a, .int .i64 b, .int .i64 c, .int .i64 d])).run Tryz.prog w = .ok (decide ((⟨a', b', c', d'⟩ : Tok) = ⟨a, b, c, d⟩)) w := by
  rw [tokE]
  have u3 := Tryz.underlying3
  have a3 := Tryz.isAgg3
  have z3 := Tryz.sizeOf3
  rw [show (10000 : Nat) = 9999 + 1 from rfl, run_equalIn_agg w 9999 28 _ _ str28 stood28]
  simp only [Program.fieldsOf, Tryz.underlying28]
  go_simp
  cases h1 : a' == a <;> cases h2 : b' == b <;> cases h3 : c' == c <;> cases h4 : d' == d <;> simp_all
theorem eq28 (a b c d a' b' c' d' : Int) (w : World) : (binOp .eql 28 (.agg #[.int .i64 a', .int .i64 b', .int .i64 c', .int .i64 d']) (.agg #[.int .i64 a, .int .i64 b, .int .i64 c, .int .i64 d])).run Tryz.prog w = .ok (.bool (decide ((⟨a', b', c', d'⟩ : Tok) = ⟨a, b, c, d⟩))) w := by
  rw [run_eql_struct, equal28]; rfl
theorem ne28 (a b c d a' b' c' d' : Int) (w : World) : (binOp .neq 28 (.agg #[.int .i64 a', .int .i64 b', .int .i64 c', .int .i64 d']) (.agg #[.int .i64 a, .int .i64 b, .int .i64 c, .int .i64 d])).run Tryz.prog w = .ok (.bool (!decide ((⟨a', b', c', d'⟩ : Tok) = ⟨a, b, c, d⟩))) w := by
  rw [run_neq_struct, equal28]; rfl
theorem between_any (x : Int) (w : World) : Calls Tryz.prog 96 #[.int .i64 x, .int .i64 0, .int .i64 1048576] w (RetE (.bool (numB x)) w) := by
  refine retE ?_
  have hb : ∀ b : Bool, numB x = b → Calls Tryz.prog 96 #[.int .i64 x, .int .i64 0, .int .i64 1048576] w (fun e w' => e = .returned (.bool b) ∧ Gr w w') := by
    intro b hb
    unfold numB at hb
    by_cases h0 : 0 ≤ x
    · by_cases h1 : x ≤ 1048576
      · simp only [h0, h1, decide_true, Bool.and_self] at hb
        subst hb
        go_enter Tryz.func96, Tryz.ntmps96
        go_wp2_with fail
        go_ret
        exact ⟨rfl, Gr.refl w⟩
      · simp only [h0, h1, decide_true, decide_false, Bool.and_false] at hb
        subst hb
        go_enter Tryz.func96, Tryz.ntmps96
        go_wp2_with fail
        go_ret
        exact ⟨rfl, Gr.refl w⟩
    · simp only [h0, decide_false, Bool.false_and] at hb
      subst hb
      go_enter Tryz.func96, Tryz.ntmps96
      go_wp2_with fail
      go_ret
      exact ⟨rfl, Gr.refl w⟩
  exact hb _ rfl
theorem fail_any (x : Int) (w : World) : Calls Tryz.prog 32 #[.int .i64 x] w (RetE (.agg #[.int .i64 x, .int .i64 0, .int .i64 0, .bool false, .int .i64 0, .int .i64 0, .int .i64 0, .int .i64 0, .slice none 0 0, .slice none 0 0]) w) := by
  refine retE ?_
  go_enter Tryz.func32, Tryz.ntmps32
  go_wp2_with fail
  refine bodyPost_ret (v := .agg #[.int .i64 x, .int .i64 0, .int .i64 0, .bool false, .int .i64 0, .int .i64 0, .int .i64 0, .int .i64 0, .slice none 0 0, .slice none 0 0]) (by simp [results, Tryz.results32, go_sem]) rfl ⟨rfl, ?_⟩
  repeat (first | exact Gr.refl _ | refine Gr.alloc ?_ _ | refine Gr.set ?_ (Nat.le_refl _) _)
theorem polls_any (c : Call) (d l : Value) (w : World) (hs : (∃ A n c', d = .slice A n c') ∧ ∃ A n c', l = .slice A n c') : Calls Tryz.prog 60 #[callV c d l] w (RetE (.bool (c.kind == 7 || c.kind == 9)) w) := by
  obtain ⟨⟨Ad, dl, cd, rfl⟩, Al, ll, cl, rfl⟩ := hs
  rcases c with ⟨ck, cf, cli, cn, ⟨tf, tr, te, tt⟩, cdat, cls⟩
  simp only [callV, callC]
  refine retE ?_
  by_cases h7 : ck = 7
  · subst h7
    go_enter Tryz.func60, Tryz.ntmps60
    go_wp2_with fail
    go_ret
    exact ⟨rfl, (Gr.refl w).alloc _⟩
  by_cases h9 : ck = 9
  · subst h9
    go_enter Tryz.func60, Tryz.ntmps60
    go_wp2_with fail
    go_ret
    exact ⟨rfl, (Gr.refl w).alloc _⟩
  have e7 : (ck == 7) = false := by simpa using h7
  have e9 : (ck == 9) = false := by simpa using h9
  rw [e7, e9]
  go_enter Tryz.func60, Tryz.ntmps60
  go_wp2_with fail
  go_ret
  exact ⟨rfl, (Gr.refl w).alloc _⟩
theorem flowOf_any (c : Call) (d l : Value) (w : World) (hs : (∃ A n c', d = .slice A n c') ∧ ∃ A n c', l = .slice A n c') : Calls Tryz.prog 64 #[callV c d l] w (RetE (.int .i64 (flowOfE c)) w) := by
  obtain ⟨⟨Ad, dl, cd, rfl⟩, Al, ll, cl, rfl⟩ := hs
  rcases c with ⟨ck, cf, cli, cn, ⟨tf, tr, te, tt⟩, cdat, cls⟩
  simp only [callV, callC]
  refine retE ?_
  have hn := fun w => ne28 0 0 0 0 tf tr te tt w
  by_cases ht : (⟨tf, tr, te, tt⟩ : Tok) = ⟨0, 0, 0, 0⟩
  · have hX : flowOfE ⟨ck, cf, cli, cn, ⟨tf, tr, te, tt⟩, cdat, cls⟩ = cf := by unfold flowOfE tok0; rw [if_pos ht]
    rw [hX]
    simp only [ht, decide_true, Bool.not_true] at hn
    clear hX ht
    go_enter Tryz.func64, Tryz.ntmps64
    go_wp2_with fail
    go_ret
    exact ⟨rfl, (Gr.refl w).alloc _⟩
  · have hX : flowOfE ⟨ck, cf, cli, cn, ⟨tf, tr, te, tt⟩, cdat, cls⟩ = tf := by unfold flowOfE tok0; rw [if_neg ht]
    rw [hX]
    simp only [ht, decide_false, Bool.not_false] at hn
    clear hX ht
    go_enter Tryz.func64, Tryz.ntmps64
    go_wp2_with fail
    go_ret
    exact ⟨rfl, (Gr.refl w).alloc _⟩
def hasV (a b c d e f : Bool) : Value := .agg #[.bool a, .bool b, .bool c, .bool d, .bool e, .bool f]
set_option maxHeartbeats 8000000 in
theorem hasK_any (k : Int) (w : World) : Calls Tryz.prog 95 #[.int .i64 k] w (RetE (.tuple #[hasV (hasFlow k) (hasList k) (hasN k) (hasTok k) (hasData k) (hasL k), .bool (decide (1 ≤ k) && decide (k ≤ 11))]) w) := by
  refine retE ?_
  by_cases h1 : k = 1
  · subst h1
    go_enter Tryz.func95, Tryz.ntmps95
    go_wp2_with fail
    refine bodyPost_ret (v := .tuple #[hasV true true true false true false, .bool true]) (by simp [results, Tryz.results95, go_sem, hasV]) rfl ⟨rfl, ?_⟩
    repeat (first | exact Gr.refl _ | refine Gr.alloc ?_ _ | refine Gr.set ?_ (Nat.le_refl _) _)
  by_cases h2 : k = 2
  · subst h2
    go_enter Tryz.func95, Tryz.ntmps95
    go_wp2_with fail
    refine bodyPost_ret (v := .tuple #[hasV true false false false true false, .bool true]) (by simp [results, Tryz.results95, go_sem, hasV]) rfl ⟨rfl, ?_⟩
    repeat (first | exact Gr.refl _ | refine Gr.alloc ?_ _ | refine Gr.set ?_ (Nat.le_refl _) _)
  by_cases h3 : k = 3
  · subst h3
    go_enter Tryz.func95, Tryz.ntmps95
    go_wp2_with fail
    refine bodyPost_ret (v := .tuple #[hasV true false false false false false, .bool true]) (by simp [results, Tryz.results95, go_sem, hasV]) rfl ⟨rfl, ?_⟩
    repeat (first | exact Gr.refl _ | refine Gr.alloc ?_ _ | refine Gr.set ?_ (Nat.le_refl _) _)
  by_cases h4 : k = 4
  · subst h4
    go_enter Tryz.func95, Tryz.ntmps95
    go_wp2_with fail
    refine bodyPost_ret (v := .tuple #[hasV true false false false true false, .bool true]) (by simp [results, Tryz.results95, go_sem, hasV]) rfl ⟨rfl, ?_⟩
    repeat (first | exact Gr.refl _ | refine Gr.alloc ?_ _ | refine Gr.set ?_ (Nat.le_refl _) _)
  by_cases h5 : k = 5
  · subst h5
    go_enter Tryz.func95, Tryz.ntmps95
    go_wp2_with fail
    refine bodyPost_ret (v := .tuple #[hasV true false false false false false, .bool true]) (by simp [results, Tryz.results95, go_sem, hasV]) rfl ⟨rfl, ?_⟩
    repeat (first | exact Gr.refl _ | refine Gr.alloc ?_ _ | refine Gr.set ?_ (Nat.le_refl _) _)
  by_cases h6 : k = 6
  · subst h6
    go_enter Tryz.func95, Tryz.ntmps95
    go_wp2_with fail
    refine bodyPost_ret (v := .tuple #[hasV true false true false false false, .bool true]) (by simp [results, Tryz.results95, go_sem, hasV]) rfl ⟨rfl, ?_⟩
    repeat (first | exact Gr.refl _ | refine Gr.alloc ?_ _ | refine Gr.set ?_ (Nat.le_refl _) _)
  by_cases h7 : k = 7
  · subst h7
    go_enter Tryz.func95, Tryz.ntmps95
    go_wp2_with fail
    refine bodyPost_ret (v := .tuple #[hasV false true false false false false, .bool true]) (by simp [results, Tryz.results95, go_sem, hasV]) rfl ⟨rfl, ?_⟩
    repeat (first | exact Gr.refl _ | refine Gr.alloc ?_ _ | refine Gr.set ?_ (Nat.le_refl _) _)
  by_cases h8 : k = 8
  · subst h8
    go_enter Tryz.func95, Tryz.ntmps95
    go_wp2_with fail
    refine bodyPost_ret (v := .tuple #[hasV false false false true false true, .bool true]) (by simp [results, Tryz.results95, go_sem, hasV]) rfl ⟨rfl, ?_⟩
    repeat (first | exact Gr.refl _ | refine Gr.alloc ?_ _ | refine Gr.set ?_ (Nat.le_refl _) _)
  by_cases h9 : k = 9
  · subst h9
    go_enter Tryz.func95, Tryz.ntmps95
    go_wp2_with fail
    refine bodyPost_ret (v := .tuple #[hasV false true false false false false, .bool true]) (by simp [results, Tryz.results95, go_sem, hasV]) rfl ⟨rfl, ?_⟩
    repeat (first | exact Gr.refl _ | refine Gr.alloc ?_ _ | refine Gr.set ?_ (Nat.le_refl _) _)
  by_cases h10 : k = 10
  · subst h10
    go_enter Tryz.func95, Tryz.ntmps95
    go_wp2_with fail
    refine bodyPost_ret (v := .tuple #[hasV false false false true true false, .bool true]) (by simp [results, Tryz.results95, go_sem, hasV]) rfl ⟨rfl, ?_⟩
    repeat (first | exact Gr.refl _ | refine Gr.alloc ?_ _ | refine Gr.set ?_ (Nat.le_refl _) _)
  by_cases h11 : k = 11
  · subst h11
    go_enter Tryz.func95, Tryz.ntmps95
    go_wp2_with fail
    refine bodyPost_ret (v := .tuple #[hasV false false false true true false, .bool true]) (by simp [results, Tryz.results95, go_sem, hasV]) rfl ⟨rfl, ?_⟩
    repeat (first | exact Gr.refl _ | refine Gr.alloc ?_ _ | refine Gr.set ?_ (Nat.le_refl _) _)
  have hb : (decide (1 ≤ k) && decide (k ≤ 11)) = false := by
    cases h : (decide (1 ≤ k) && decide (k ≤ 11)) with
    | false => rfl
    | true =>
      simp only [Bool.and_eq_true, decide_eq_true_eq] at h
      omega
  have e1 : hasFlow k = false := by simp [hasFlow, h1, h2, h3, h4, h5, h6]
  have e2 : hasList k = false := by simp [hasList, h1, h7, h9]
  have e3 : hasN k = false := by simp [hasN, h1, h6]
  have e4 : hasTok k = false := by simp [hasTok, h8, h10, h11]
  have e5 : hasData k = false := by simp [hasData, h1, h2, h4, h10, h11]
  have e6 : hasL k = false := by simp [hasL, h8]
  rw [hb, e1, e2, e3, e4, e5, e6]
  clear hb e1 e2 e3 e4 e5 e6
  go_enter Tryz.func95, Tryz.ntmps95
  go_wp2_with fail
  refine bodyPost_ret (v := .tuple #[hasV false false false false false false, .bool false]) (by simp [results, Tryz.results95, go_sem, hasV]) rfl ⟨rfl, ?_⟩
  repeat (first | exact Gr.refl _ | refine Gr.alloc ?_ _ | refine Gr.set ?_ (Nat.le_refl _) _)
theorem long_any (k i l n : Int) (A : Option Addr) (m c : Nat) (w : World) (hm : m ≤ 140737488351232) : Calls Tryz.prog 98 #[.agg #[.int .i64 k, .int .i64 i, .int .i64 l, .int .i64 n, .slice A m c]] w (RetE (.bool (decide (4096 < m))) w) := by
  refine retE ?_
  by_cases h : 4096 < m
  · have h' : (4096 : Int) < (m : Int) := by omega
    rw [decide_eq_true h]
    go_enter Tryz.func98, Tryz.ntmps98
    go_wp2_with fail
    go_ret
    exact ⟨by simp, (Gr.refl w).alloc _⟩
  · have h' : ¬ (4096 : Int) < (m : Int) := by omega
    rw [decide_eq_false h]
    go_enter Tryz.func98, Tryz.ntmps98
    go_wp2_with fail
    go_ret
    exact ⟨by simp, (Gr.refl w).alloc _⟩
def longF (d : Dec) : Bool := decide (4096 < d.data.length)
set_option maxHeartbeats 1000000 in
theorem indexL_any (v : Value) (l : List Dec) (M : Bl) (w : World) (h : RecsM decR w M v l) (hl : l.length ≤ 140737488351232) (hd : ∀ d ∈ l, d.data.length ≤ 140737488351232) :
    Calls Tryz.prog 134 #[v, .func (.func 98) #[] #[]] w (fun e w' => ∃ i : Int, e = .returned (.int .i64 i) ∧ Gr w w' ∧ (decide (0 ≤ i) = l.any longF)) := by
  obtain ⟨A, c, rfl, hlc⟩ := h.shape
  have H := hid h
  have HLL := hid hl
  have HDD := hid hd
  have HX := hid (fun (k i l n : Int) (A : Option Addr) (m c : Nat) (w : World) (hm : m ≤ 140737488351232) => long_any k i l n A m c w hm)
  clear h hl hd
  go_enter Tryz.func134, Tryz.ntmps134
  go_wp2_with fail
  go_loopw [8] (fun iv wr => ∃ i : Nat, iv = .int .i64 i ∧ i ≤ l.length ∧ Gr w wr ∧ (l.drop i).any longF = l.any longF) (fun iv _ => l.length - (intOf iv).toNat)
  case atStart => exact ⟨0, rfl, Nat.zero_le _, Gr.refl w, rfl⟩
  case round =>
    obtain ⟨i, rfl, hi, hgr, hany⟩ := hrel
    have HG := hid hgr
    have HANY := hid hany
    clear hgr hany
    have hLL : (l.length : Int) ≤ 140737488351232 := by have := HLL.out; omega
    by_cases hlt : i < l.length
    · have hget : l[i]? = some l[i] := List.getElem?_eq_getElem hlt
      have hdrop : l.drop i = l[i] :: l.drop (i + 1) := List.drop_eq_getElem_cons hlt
      obtain ⟨b, off, A', c', rfl, hb, hMb, hdat, c0, c1_, c2, c3, c4⟩ := dec_at (H.out.up (Gr.up HG.out M)) hget
      have hdl := HDD.out _ (List.getElem_mem hlt)
      rw [hdrop] at HANY
      generalize l[i] = o at *
      clear hdat hget
      rcases o with ⟨dk, di, dl, dn, dd⟩
      simp only at c0 c1_ c2 c3 c4 hdl
      have HY := hid (show longF ⟨dk, di, dl, dn, dd⟩ = decide (4096 < dd.length) from rfl)
      have HC := hid (fun W => HX.out dk di dl dn A' dd.length c' W hdl)
      have hlz : (i : Int) < (l.length : Int) := by omega
      cases hbig : decide (4096 < dd.length)
      · rw [hbig] at HC HY
        generalize dd.length = dlen at *
        go_wp2_with (go_at_call 98; refine (HC.out _).mono ?_; rintro en _ ⟨rfl, y1, rfl⟩)
        go_roundw
        case rel => exact ⟨i + 1, by go_num, by omega, HG.out.ext y1, by rw [← HANY.out, List.any_cons, HY.out, Bool.false_or]⟩
        case measure => simp [intOf]; omega
      · rw [hbig] at HC HY
        generalize dd.length = dlen at *
        go_wp2_with (go_at_call 98; refine (HC.out _).mono ?_; rintro en _ ⟨rfl, y1, rfl⟩)
        go_ret
        refine ⟨_, rfl, HG.out.ext y1, ?_⟩
        rw [← HANY.out, List.any_cons, HY.out, Bool.true_or]
        simp
    · go_wp2_with fail
      go_ret
      refine ⟨_, rfl, HG.out, ?_⟩
      rw [← HANY.out, List.drop_eq_nil_of_le (by omega)]
      rfl
theorem containsL_any (v : Value) (l : List Dec) (M : Bl) (w : World) (h : RecsM decR w M v l) (hl : l.length ≤ 140737488351232) (hd : ∀ d ∈ l, d.data.length ≤ 140737488351232) :
    Calls Tryz.prog 97 #[v, .func (.func 98) #[] #[]] w (RetE (.bool (l.any longF)) w) := by
  have HC := hid (indexL_any v l M w h hl hd)
  obtain ⟨A, c, rfl, hlc⟩ := h.shape
  clear h
  refine retE ?_
  go_enter Tryz.func97, Tryz.ntmps97
  go_wp2_with (go_at_call 134; refine HC.out.mono ?_; rintro en w1 ⟨i, rfl, g1, h1⟩; have G1 := hid g1; have H1 := hid h1; clear g1 h1)
  go_ret
  rw [← H1.out]
  exact ⟨rfl, G1.out⟩
end Go.Proofs.YtniknicnnaiilaaGreat
end
