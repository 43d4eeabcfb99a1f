import Derived.Test.YtkgmienjioplaaaE8
namespace Go.Proofs.Ytkgmienjioplaaa
open Go.RowKit Go.Ext Go.BigFrame
attribute [local go_sem] Ext.cell Ext.frozen Ext.lt Ext.le s1 s2 s3 s4 s5 s6 t1 t2 t3 t4 t5 t6
attribute [local go_sem ↓] Go.wp_at_zero Go.wp_at_succ

section
variable {base : Nat} {w w' : World} {g kb rg rkb S sz : Nat} {s : St} {n : Nat}

theorem keep_mod {keep : Value} {ks : List Bool} {R : Nat → Prop} (k : KeepAt base w keep ks) (m : Mod R w w') (hR : ∀ q, R q → ∃ cs t fz, w.heap[q]? = some (.cells cs t fz) ∧ t ≠ 4) : KeepAt base w' keep ks := k.modk m hR

theorem theirs_cut (A : Option Addr) (c m : Nat) (kt : List Bool) (h : Theirs base w rg rkb kb S sz s) (hb : Bls w A kt) (hn : kt.length = m) (hA : kt ≠ [] → ∀ b o, A = some ⟨b, o, none⟩ → b ≠ rkb) :
    Calls Try.prog 26 #[.pointer (some ⟨rg, 0, none⟩), .slice A m c] w (RetT base rg rkb kb S sz (stCut sz s kt) (.tuple #[]) w) := by
  obtain ⟨keep, pend, rks, h1, h2, h3⟩ := h
  refine (rcut_any A c m kt h1 hb hn hA).mono fun e w' ⟨he, hd, hm⟩ => ⟨he, ⟨keep, _, rks, hd, keep_mod h2 hm ?_, fun hne => absurd rfl hne⟩, mod_mr hm (fun q hq => hq.symm)⟩
  rintro q (rfl | rfl)
  · exact ⟨_, _, _, h1.kept, by decide⟩
  · exact ⟨_, _, _, h1.rb, by decide⟩
theorem theirs_sync (h : Theirs base w rg rkb kb S sz s) : Calls Try.prog 24 #[.pointer (some ⟨rg, 0, none⟩)] w (RetT base rg rkb kb S sz (stS sz s) (.int .i64 (if s.off = true then 5 else 0)) w) := by
  obtain ⟨keep, pend, rks, h1, h2, h3⟩ := id h
  unfold stS
  by_cases ho : s.off = true
  · rw [if_pos ho, if_pos ho]
    rw [ho] at h1
    refine (rsync_off h1).mono fun e w' ⟨he, y, hy⟩ => ?_
    subst hy
    exact ⟨he, h.gr y.gr, y.gr.mod _⟩
  · rw [if_neg ho, if_neg ho]
    have ho' : s.off = false := by simpa using ho
    rw [ho'] at h1
    refine (rsync_on h1).mono fun e w' ⟨he, hd, hm⟩ => ⟨he, ⟨keep, _, rks, hd, keep_mod h2 hm ?_, h3⟩, mod_mr hm (fun q hq => hq.symm)⟩
    rintro q (rfl | rfl)
    · exact ⟨_, _, _, h1.kept, by decide⟩
    · exact ⟨_, _, _, h1.rb, by decide⟩
theorem theirs_on (h : Theirs base w rg rkb kb S sz s) : Theirs base (w.setCell ⟨rg, 4, none⟩ (.bool false)) rg rkb kb S sz (stO s) ∧ MR base rg rkb w (w.setCell ⟨rg, 4, none⟩ (.bool false)) := by
  obtain ⟨keep, pend, rks, h1, h2, h3⟩ := h
  have m : Mod (fun b => b = rg) w (w.setCell ⟨rg, 4, none⟩ (.bool false)) := ((Gr.refl w).mod (fun b => b = rg)).set (fun _ => rfl) _
  exact ⟨⟨keep, pend, rks, h1.upd m (h1.rb.set4 false), keep_mod h2 m (fun q hq => by subst hq; exact ⟨_, _, _, h1.rb, by decide⟩), h3⟩, mod_mr m (fun q hq => .inl hq)⟩
theorem theirs_arm (m : Int) (A : Option Addr) (c k : Nat) (kt : List Bool) (h : Theirs base w rg rkb kb S sz s) (hb : Bls w A kt) (hn : kt.length = k) (hl : k ≤ 140737488351232) (hnc : A = none → c = 0) (hbase : base ≤ w.heap.size) (hAg : kt ≠ [] → ∀ b o, A = some ⟨b, o, none⟩ → b ≠ rg) :
    Calls Try.prog 25 #[.pointer (some ⟨rg, 0, none⟩), .int .i64 m, .slice A k c] w (RetT base rg rkb kb S sz (stA s m kt) (.tuple #[]) w) := by
  obtain ⟨keep, pend, rks, h1, h2, h3⟩ := h
  exact (rarm_any m A c k kt h1 hb hn hl hnc hbase hAg).mono fun e w' ⟨v, he, hd, hm, hk⟩ => ⟨he, ⟨v, pend, kt, hd, hk, fun _ => rfl⟩, mod_mr hm (fun q hq => .inl hq)⟩
theorem theirs_write (i : Int) (A : Option Addr) (c m : Nat) (bs : List UInt8) (h : Theirs base w rg rkb kb S sz s) (hb : Bts w (.slice A m c) bs) (hkb : kb < w.heap.size) (ha : 0 ≤ s.armed) (ha2 : s.armed ≤ 9223372036854775807) (hl : s.P.length < 4398046511000) (hw0 : 0 ≤ s.writes) (hw : s.writes ≤ 4611686018427387904) (hAg : ∀ b o, A = some ⟨b, o, none⟩ → b ≠ rg) (hbl : base ≤ w.heap.size) :
    Calls Try.prog 23 #[.pointer (some ⟨rg, 0, none⟩), .int .i64 i, .slice A m c] w (RetT base rg rkb kb S sz (stW S sz s i bs) (.int .i64 (codeW S sz s i bs)) w) := by
  have hm : bs.length = m := by obtain ⟨_, _, e, _⟩ := hb; injection e with _ e _; exact e.symm
  obtain ⟨keep, pend, rks, h1, h2, h3⟩ := id h
  unfold stW codeW
  by_cases ho : s.off = true
  · rw [if_pos ho, if_pos ho]
    rw [ho] at h1
    refine (rwrite_bad i A m c h1 (.inl rfl)).mono fun e w' ⟨he, y, hy⟩ => ?_
    subst hy
    exact ⟨he, h.gr y.gr, y.gr.mod _⟩
  · have ho' : s.off = false := by simpa using ho
    rw [if_neg ho, if_neg ho]
    rw [ho'] at h1
    by_cases hbad : stBad S sz i bs
    · rw [if_pos hbad, if_pos hbad]
      refine (rwrite_bad i A m c h1 (.inr (by rcases hbad with h | h | h; exact .inl h; exact .inr (.inl h); exact .inr (.inr (by rw [← hm]; exact h))))).mono fun e w' ⟨he, y, hy⟩ => ?_
      subst hy
      exact ⟨he, h.gr y.gr, y.gr.mod _⟩
    · rw [if_neg hbad, if_neg hbad]
      have hi0 : 0 ≤ i := by
        rcases Int.lt_or_le i 0 with h | h
        · exact absurd (.inl h) hbad
        · exact h
      have hi1 : i < S := by
        rcases Int.lt_or_le i S with h | h
        · exact h
        · exact absurd (.inr (.inl h)) hbad
      have hlen : bs.length = sz := by
        by_cases h : bs.length = sz
        · exact h
        · exact absurd (.inr (.inr h)) hbad
      obtain ⟨k, rfl⟩ : ∃ k : Nat, i = k := ⟨i.toNat, by omega⟩
      by_cases h4 : s.armed = 1
      · rw [if_pos h4, if_pos h4]
        have hks := h3 (by rw [h4]; decide)
        subst hks
        rw [h4] at h1
        refine (rwrite_goes k A c m _ h1 h2 (by omega) (by omega)).mono fun e w' ⟨he, hd, hm⟩ => ⟨he, ⟨keep, _, _, hd, keep_mod h2 hm ?_, fun hne => absurd rfl hne⟩, mod_mr hm (fun q hq => hq.symm)⟩
        rintro q (rfl | rfl)
        · exact ⟨_, _, _, h1.kept, by decide⟩
        · exact ⟨_, _, _, h1.rb, by decide⟩
      · rw [if_neg h4, if_neg h4]
        refine (rwrite_ok k A c m bs h1 (by omega) hb hm (by omega) ha ha2 h4 hl hw0 hw hkb hAg hbl).mono fun e w' ⟨p, he, hd, hmd⟩ => ?_
        obtain ⟨ys, r1, _⟩ := h1.row
        refine ⟨he, ⟨keep, p, rks, hd, keep_mod h2 hmd ?_, fun hne => h3 ?_⟩, Mod.mono hmd (fun q' _ hq' => ?_)⟩
        · rintro q' (rfl | hq')
          · exact ⟨_, _, _, h1.rb, by decide⟩
          · rcases r1.2 with ⟨rfl, _⟩ | ⟨g', cap, cur, rfl, _, hh, _⟩
            · simp [Value.ownBlock] at hq'
            · simp [Value.ownBlock] at hq'
              subst hq'
              exact ⟨_, _, _, hh, by decide⟩
        · intro e
          apply hne
          show less s.armed = 0
          rw [e]
          rfl
        · rcases hq' with rfl | hq'
          · exact .inl rfl
          · rcases r1.2 with ⟨rfl, _⟩ | ⟨g', cap, cur, rfl, hlo, hh, _⟩
            · simp [Value.ownBlock] at hq'
            · simp [Value.ownBlock] at hq'
              subst hq'
              exact .inr (.inr ⟨hlo, _, _, hh⟩)
theorem theirs_read (i : Int) (h : Theirs base w rg rkb kb S sz s) :
    Calls Try.prog 39 #[.pointer (some ⟨rg, 0, none⟩), .int .i64 i] w (fun e w' => ∃ v, e = .returned (.tuple #[v, .int .i64 (chk s.off S i true)]) ∧ Bts w' v (if chk s.off S i true = 0 then sector sz s.K s.P i.toNat else []) ∧ Gr w w') := by
  obtain ⟨keep, pend, rks, h1, h2, h3⟩ := h
  by_cases hc : chk s.off S i true = 0
  · rw [if_pos hc, hc]
    have ho : s.off = false := by
      cases ho : s.off
      · rfl
      · rw [ho] at hc; simp [chk] at hc
    rw [ho] at hc h1
    have hi : 0 ≤ i ∧ i < S := by
      unfold chk at hc
      rw [if_neg (by simp)] at hc
      by_cases h3 : i < 0 ∨ (S : Int) ≤ i ∨ true = false
      · rw [if_pos h3] at hc; omega
      · simp at h3; exact h3
    obtain ⟨k, rfl⟩ : ∃ k : Nat, i = k := ⟨i.toNat, by omega⟩
    exact (rread_ok k h1 (by omega)).mono fun e w' ⟨v, he, hb, hg⟩ => ⟨v, he, hb, hg⟩
  · rw [if_neg hc]
    exact (rread_bad i h1 hc).mono fun e w' ⟨he, y, hy⟩ => ⟨_, he, ⟨none, 0, rfl, by simp, Rd.nil _ _, fun _ => rfl⟩, hy ▸ y.gr⟩
end
end Go.Proofs.Ytkgmienjioplaaa
