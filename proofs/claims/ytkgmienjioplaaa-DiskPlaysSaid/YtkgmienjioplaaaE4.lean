import Derived.Test.YtkgmienjioplaaaE3
namespace Go.Proofs.Ytkgmienjioplaaa
open Go.RowKit Go.Ext Go.BigFrame
attribute [local go_sem] Ext.cell Ext.frozen Ext.lt Ext.le s1 s2 s3 s4 s5 s6 t1 t2 t3 t4 t5 t6
attribute [local go_sem ↓] Go.wp_at_zero Go.wp_at_succ

section
variable {base : Nat} {w w' : World} {rg rkb kb : Nat} {off : Bool} {armed : Int} {keep : Value} {S sz : Nat} {K : List UInt8} {P : List Ent} {pend : Value} {writes : Int}

set_option maxHeartbeats 1000000 in
theorem rnew_ok (base kb S sz : Nat) (w : World) (hb : base ≤ w.heap.size) (h1 : 1 ≤ S) (h2 : S ≤ 16384) (h3 : 64 ≤ sz) (h4 : sz ≤ 1024) :
    Calls Try.prog 22 #[.int .i64 S, .int .i64 sz] w (fun e w' => ∃ rg rkb, e = .returned (.tuple #[.pointer (some ⟨rg, 0, none⟩), .int .i64 0]) ∧ RkAt base w' rg rkb kb false 0 (.slice none 0 0) S sz (List.replicate (S * sz) 0) [] (.slice none 0 0) 0 ∧ Gr w w' ∧ w.heap.size ≤ rkb) := by
  obtain ⟨n, hn⟩ : ∃ n, S * sz = n := ⟨_, rfl⟩
  have hm : (S : Int) * (sz : Int) = (n : Int) := by rw [← hn, Int.natCast_mul]
  have hbn : n ≤ 16777216 := by rw [← hn]; exact Nat.mul_le_mul h2 h4
  have HN := hid hn
  clear hn
  have mk := fun (w : World) => mk_any w n hbn
  go_enter Try.func22, Try.ntmps22
  go_wp2_with fail
  go_ret2
  have hkb : (w.alloc (.cells (bc (List.replicate n 0)).toArray 5)).heap.size = w.heap.size + 1 := by simp
  refine ⟨w.heap.size + 1, w.heap.size, rfl, ⟨?_, ?_, by simp, h1, h2, h3, h4, ⟨[], World.ownsRow_nil _ _ _ _, entsT_nil _ _ _⟩, by simp, fun j hj => absurd hj (by simp), by omega, by omega⟩, ((Gr.refl w).alloc _).alloc _, Nat.le_refl _⟩
  · have := heap_alloc_new (w.alloc (.cells (bc (List.replicate n 0)).toArray 5)) (.cells #[.int .i64 S, .int .i64 sz, .slice (some ⟨w.heap.size, 0, none⟩) n n, .slice none 0 0, .bool false, .int .i64 0, .slice none 0 0, .int .i64 0] 59)
    rw [hkb] at this
    rw [HN.out]
    exact this
  · rw [HN.out]
    exact (((Gr.refl _).alloc _).block w.heap.size (by simp)).trans (heap_alloc_new w _)
set_option maxHeartbeats 1000000 in
theorem rnew_bad (S sz : Int) (w : World) (h : S < 1 ∨ 16384 < S ∨ sz < 64 ∨ 1024 < sz) :
    Calls Try.prog 22 #[.int .i64 S, .int .i64 sz] w (RetE (.tuple #[.pointer none, .int .i64 1]) w) := by
  refine retE ?_
  by_cases h1 : S < 1
  · go_enter Try.func22, Try.ntmps22
    go_wp2_with fail
    go_ret2
    exact ⟨rfl, Gr.refl _⟩
  by_cases h2 : 16384 < S
  · go_enter Try.func22, Try.ntmps22
    go_wp2_with fail
    go_ret2
    exact ⟨rfl, Gr.refl _⟩
  by_cases h3 : sz < 64
  · go_enter Try.func22, Try.ntmps22
    go_wp2_with fail
    go_ret2
    exact ⟨rfl, Gr.refl _⟩
  have h4 : 1024 < sz := by omega
  go_enter Try.func22, Try.ntmps22
  go_wp2_with fail
  go_ret2
  exact ⟨rfl, Gr.refl _⟩

theorem RB.grown {n : Nat} {row : Option Nat} (h : RB w rg rkb S sz n pend off armed keep writes) (g : w.grownBy w' row) (hne : some rg ≠ row) : RB w' rg rkb S sz n pend off armed keep writes := (g.block rg h.lt hne).trans h

/-- The power is armed. -/
def RetA (base rg rkb kb : Nat) (off : Bool) (armed : Int) (S sz : Nat) (K : List UInt8) (P : List Ent) (pend : Value) (writes : Int) (ks : List Bool) (w : World) (e : Ending) (w' : World) : Prop :=
  ∃ v, e = .returned (.tuple #[]) ∧ RkAt base w' rg rkb kb off armed v S sz K P pend writes ∧ Mod (fun b => b = rg) w w' ∧ KeepAt base w' v ks

set_option maxRecDepth 100000 in
set_option maxHeartbeats 2000000 in
theorem rarm_any (m : Int) (A : Option Addr) (c n : Nat) (ks : List Bool) (h : RkAt base w rg rkb kb off armed keep S sz K P pend writes) (hb : Bls w A ks) (hn : ks.length = n) (hl : n ≤ 140737488351232) (hnc : A = none → c = 0) (hbase : base ≤ w.heap.size) (hAg : ks ≠ [] → ∀ b o, A = some ⟨b, o, none⟩ → b ≠ rg) :
    Calls Try.prog 25 #[.pointer (some ⟨rg, 0, none⟩), .int .i64 m, .slice A n c] w (RetA base rg rkb kb off (if m < 1 then 1 else m) S sz K P pend writes ks w) := by
  obtain ⟨i0, hi0, hz0, hz1, hz2⟩ := info_parts info4
  have h1c : ∀ u ∈ ks.map Value.bool, u.oneCell' = true := by
    intro u hu
    simp only [List.mem_map] at hu
    obtain ⟨b, _, rfl⟩ := hu
    rfl
  have r5 := h.rb.cell 5
  have f5 := h.rb.frozen 5
  simp at r5
  have hgl := h.rb.lt
  have H := hid h
  have hbb : ∀ a' : Int, Bls (w.setCell ⟨rg, 5, none⟩ (.int .i64 a')) A ks := fun a' hne => by
    have hks : ks ≠ [] := by intro e; rw [e] at hne; exact hne rfl
    exact Rd.keep hb (fun b ⟨o, e⟩ _ => Below.heap_setCell w _ _ b (hAg hks b o e)) hne
  have HB := hid hbb
  have HN := hid hn
  clear h hb hbb hn
  by_cases h1 : m < 1
  · rw [if_pos h1]
    have hmod : Mod (fun b => b = rg) w (w.setCell ⟨rg, 5, none⟩ (.int .i64 1)) := ((Gr.refl w).mod (fun b => b = rg)).set (fun _ => rfl) _
    have HR := hid (H.out.upd hmod (H.out.rb.set5 1))
    have q6 := HR.out.rb.cell 6
    have g6 := HR.out.rb.frozen 6
    simp at q6
    have hs1 : (w.setCell ⟨rg, 5, none⟩ (.int .i64 1)).heap.size = w.heap.size := by simp [World.setCell]
    have hmade : ((w.setCell ⟨rg, 5, none⟩ (.int .i64 1)).alloc (.cells #[] 4)).ownsRow w.heap.size 4 1 (.slice (some ⟨w.heap.size, 0, none⟩) 0 0) 0 [] := by
      have := World.ownsRow_made (base := w.heap.size) (e := 4) (size := 1) (w.setCell ⟨rg, 5, none⟩ (.int .i64 1)) #[] 0 (by rw [hs1]; exact Nat.le_refl _) (by decide) rfl
      rwa [hs1] at this
    have HMD := hid hmade
    have HMO := hid hmod
    clear hmade hmod
    rcases A with _ | ad
    · have hn0 : n = 0 := by
        have : ks = [] := by
          by_cases hk : ks = []
          · exact hk
          · obtain ⟨b, o, e, _⟩ := HB.out 0 (by simpa using hk); cases e
        rw [← HN.out, this]; rfl
      have hc0 := hnc rfl
      subst hn0 hc0
      have hks : ks = [] := List.eq_nil_of_length_eq_zero HN.out
      go_enter Try.func25, Try.ntmps25
      go_wp2_with fail
      go_end0
      have hm2 := HMO.out.set (p := ⟨rg, 6, none⟩) (fun _ => rfl) (.slice (some ⟨w.heap.size, 0, none⟩) 0 0)
      have hr2 := H.out.upd hm2 (HR.out.rb.set6 (.slice (some ⟨w.heap.size, 0, none⟩) 0 0))
      have hs2 : ((w.setCell ⟨rg, 5, none⟩ (.int .i64 1)).setCell ⟨rg, 6, none⟩ (.slice (some ⟨w.heap.size, 0, none⟩) 0 0)).heap.size = w.heap.size := by simp [World.setCell]
      have ho := World.ownsRow_made (base := base) (e := 4) (size := 1) ((w.setCell ⟨rg, 5, none⟩ (.int .i64 1)).setCell ⟨rg, 6, none⟩ (.slice (some ⟨w.heap.size, 0, none⟩) 0 0)) #[] 0 (by rw [hs2]; exact hbase) (by decide) rfl
      rw [hs2] at ho
      refine ⟨.slice (some ⟨w.heap.size, 0, none⟩) 0 0, rfl, hr2.gr ((Gr.refl _).alloc _), hm2.gr ((Gr.refl _).alloc _), ?_⟩
      exact ho
    · have hr1 := hid (Rd.gr (HB.out 1) ((Gr.refl (w.setCell ⟨rg, 5, none⟩ (.int .i64 1))).alloc (.cells #[] 4)))
      go_enter Try.func25, Try.ntmps25
      go_wp2_with (at_builtin; refine wpList_append_own _ rfl _ _ 23 rfl w.heap.size 4 i0 _ 1 1 Try.underlying23 hi0 hz0 hz1 hz2 rfl (by decide) (.slice (some ⟨w.heap.size, 0, none⟩) 0 0) 0 [] rfl HMD.out ad n c (ks.map Value.bool) rfl (by simp [HN.out]) hr1.out.add h1c (by unfold maxLen; omega) (by omega) (by simp [World.setCell]) ?_; intro v1 w1 hown1 hg1 _; obtain ⟨D1, n1, rfl⟩ : ∃ D1 n1, v1 = .slice D1 n n1 := (by rcases hown1.2 with ⟨rfl, h0⟩ | ⟨g', cap, cur, rfl, _⟩; exact ⟨none, 0, by rw [show n = 0 by omega]⟩; exact ⟨_, _, by rw [Nat.zero_add]⟩); have hB1 := (HR.out.rb.gr ((Gr.refl _).alloc (.cells #[] 4))).grown hg1 (by simp [Value.ownBlock]; omega); have q61 := hB1.cell 6; have g61 := hB1.frozen 6; simp at q61; have HB1 := hid hB1; have HO1 := hid hown1; have HG1 := hid hg1; clear hown1 hg1 hB1)
      go_end0
      have hm1 : Mod (fun b => b = rg) w w1 := HMO.out.trans (S' := fun b => b = w.heap.size) ((((Gr.refl _).alloc (.cells #[] 4)).mod (fun b => b = w.heap.size)).trans ((mod_grown HG1.out).mono (S' := fun b => b = w.heap.size) (fun k _ e => by simpa [Value.ownBlock] using e)) (fun _ _ h => h)) (fun k hk e => by omega)
      have hr1 := H.out.upd hm1 HB1.out
      have hm2 := ((Gr.refl w1).mod (fun b => b = rg)).set (p := ⟨rg, 6, none⟩) (fun _ => rfl) (.slice D1 n n1)
      have ho : w1.ownsRow base 4 1 (.slice D1 n n1) ks.length (ks.map Value.bool) := own_base (by have := HO1.out; rw [Nat.zero_add, List.nil_append] at this; rwa [HN.out]) hbase
      refine ⟨.slice D1 n n1, rfl, hr1.upd hm2 (HB1.out.set6 _), hm1.trans hm2 (fun _ _ h => h), ?_⟩
      exact own_mod ho hm2 (fun k hk e => own_ne ho hr1.rb (by decide) (e ▸ hk.symm))
  · rw [if_neg h1]
    have hmod : Mod (fun b => b = rg) w (w.setCell ⟨rg, 5, none⟩ (.int .i64 m)) := ((Gr.refl w).mod (fun b => b = rg)).set (fun _ => rfl) _
    have HR := hid (H.out.upd hmod (H.out.rb.set5 m))
    have q6 := HR.out.rb.cell 6
    have g6 := HR.out.rb.frozen 6
    simp at q6
    have hs1 : (w.setCell ⟨rg, 5, none⟩ (.int .i64 m)).heap.size = w.heap.size := by simp [World.setCell]
    have hmade : ((w.setCell ⟨rg, 5, none⟩ (.int .i64 m)).alloc (.cells #[] 4)).ownsRow w.heap.size 4 1 (.slice (some ⟨w.heap.size, 0, none⟩) 0 0) 0 [] := by
      have := World.ownsRow_made (base := w.heap.size) (e := 4) (size := 1) (w.setCell ⟨rg, 5, none⟩ (.int .i64 m)) #[] 0 (by rw [hs1]; exact Nat.le_refl _) (by decide) rfl
      rwa [hs1] at this
    have HMD := hid hmade
    have HMO := hid hmod
    clear hmade hmod
    rcases A with _ | ad
    · have hn0 : n = 0 := by
        have : ks = [] := by
          by_cases hk : ks = []
          · exact hk
          · obtain ⟨b, o, e, _⟩ := HB.out 0 (by simpa using hk); cases e
        rw [← HN.out, this]; rfl
      have hc0 := hnc rfl
      subst hn0 hc0
      have hks : ks = [] := List.eq_nil_of_length_eq_zero HN.out
      go_enter Try.func25, Try.ntmps25
      go_wp2_with fail
      go_end0
      have hm2 := HMO.out.set (p := ⟨rg, 6, none⟩) (fun _ => rfl) (.slice (some ⟨w.heap.size, 0, none⟩) 0 0)
      have hr2 := H.out.upd hm2 (HR.out.rb.set6 (.slice (some ⟨w.heap.size, 0, none⟩) 0 0))
      have hs2 : ((w.setCell ⟨rg, 5, none⟩ (.int .i64 m)).setCell ⟨rg, 6, none⟩ (.slice (some ⟨w.heap.size, 0, none⟩) 0 0)).heap.size = w.heap.size := by simp [World.setCell]
      have ho := World.ownsRow_made (base := base) (e := 4) (size := 1) ((w.setCell ⟨rg, 5, none⟩ (.int .i64 m)).setCell ⟨rg, 6, none⟩ (.slice (some ⟨w.heap.size, 0, none⟩) 0 0)) #[] 0 (by rw [hs2]; exact hbase) (by decide) rfl
      rw [hs2] at ho
      refine ⟨.slice (some ⟨w.heap.size, 0, none⟩) 0 0, rfl, hr2.gr ((Gr.refl _).alloc _), hm2.gr ((Gr.refl _).alloc _), ?_⟩
      exact ho
    · have hr1 := hid (Rd.gr (HB.out m) ((Gr.refl (w.setCell ⟨rg, 5, none⟩ (.int .i64 m))).alloc (.cells #[] 4)))
      go_enter Try.func25, Try.ntmps25
      go_wp2_with (at_builtin; refine wpList_append_own _ rfl _ _ 23 rfl w.heap.size 4 i0 _ 1 1 Try.underlying23 hi0 hz0 hz1 hz2 rfl (by decide) (.slice (some ⟨w.heap.size, 0, none⟩) 0 0) 0 [] rfl HMD.out ad n c (ks.map Value.bool) rfl (by simp [HN.out]) hr1.out.add h1c (by unfold maxLen; omega) (by omega) (by simp [World.setCell]) ?_; intro v1 w1 hown1 hg1 _; obtain ⟨D1, n1, rfl⟩ : ∃ D1 n1, v1 = .slice D1 n n1 := (by rcases hown1.2 with ⟨rfl, h0⟩ | ⟨g', cap, cur, rfl, _⟩; exact ⟨none, 0, by rw [show n = 0 by omega]⟩; exact ⟨_, _, by rw [Nat.zero_add]⟩); have hB1 := (HR.out.rb.gr ((Gr.refl _).alloc (.cells #[] 4))).grown hg1 (by simp [Value.ownBlock]; omega); have q61 := hB1.cell 6; have g61 := hB1.frozen 6; simp at q61; have HB1 := hid hB1; have HO1 := hid hown1; have HG1 := hid hg1; clear hown1 hg1 hB1)
      go_end0
      have hm1 : Mod (fun b => b = rg) w w1 := HMO.out.trans (S' := fun b => b = w.heap.size) ((((Gr.refl _).alloc (.cells #[] 4)).mod (fun b => b = w.heap.size)).trans ((mod_grown HG1.out).mono (S' := fun b => b = w.heap.size) (fun k _ e => by simpa [Value.ownBlock] using e)) (fun _ _ h => h)) (fun k hk e => by omega)
      have hr1 := H.out.upd hm1 HB1.out
      have hm2 := ((Gr.refl w1).mod (fun b => b = rg)).set (p := ⟨rg, 6, none⟩) (fun _ => rfl) (.slice D1 n n1)
      have ho : w1.ownsRow base 4 1 (.slice D1 n n1) ks.length (ks.map Value.bool) := own_base (by have := HO1.out; rw [Nat.zero_add, List.nil_append] at this; rwa [HN.out]) hbase
      refine ⟨.slice D1 n n1, rfl, hr1.upd hm2 (HB1.out.set6 _), hm1.trans hm2 (fun _ _ h => h), ?_⟩
      exact own_mod ho hm2 (fun k hk e => own_ne ho hr1.rb (by decide) (e ▸ hk.symm))
end
end Go.Proofs.Ytkgmienjioplaaa
