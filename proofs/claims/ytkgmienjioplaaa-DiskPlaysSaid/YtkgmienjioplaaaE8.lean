import Derived.Test.YtkgmienjioplaaaE7
namespace Go.Proofs.Ytkgmienjioplaaa
open Go.RowKit Go.Ext Go.BigFrame
attribute [local go_sem] Ext.cell Ext.frozen Ext.lt Ext.le s1 s2 s3 s4 s5 s6 t1 t2 t3 t4 t5 t6
attribute [local go_sem ↓] Go.wp_at_zero Go.wp_at_succ

section
variable {base : Nat} {w w' : World} {g kb rg rkb S sz : Nat} {s : St} {n : Nat}

/-- A call of our disk; of the document's. -/
def RetO (base g kb rkb S sz : Nat) (s : St) (v : Value) (w : World) (e : Ending) (w' : World) : Prop := e = .returned v ∧ Ours base w' g kb rkb S sz s ∧ MO base g kb w w'
def RetT (base rg rkb kb S sz : Nat) (s : St) (v : Value) (w : World) (e : Ending) (w' : World) : Prop := e = .returned v ∧ Theirs base w' rg rkb kb S sz s ∧ MR base rg rkb w w'

theorem ours_empty {off : Bool} {armed : Int} {keep : Value} {K : List UInt8} {ks : List Bool} {writes : Int} (d : DkAt base w g kb off armed keep S sz K [] (.slice none 0 0) writes) (k : KeepAt base w keep ks) : Ours base w g kb rkb S sz ⟨off, armed, ks, K, [], writes⟩ :=
  ⟨keep, _, [], d, k, World.ownsRow_nil _ _ _ _, ents_nil _ _ _, fun j _ _ _ _ h => by simp at h⟩
theorem mod_mo {R : Nat → Prop} (m : Mod R w w') (h : ∀ q, R q → q = g ∨ q = kb) : MO base g kb w w' := Mod.mono m (fun q _ hq => (h q hq).elim .inl (fun e => .inr (.inl e)))
theorem mod_mr {R : Nat → Prop} (m : Mod R w w') (h : ∀ q, R q → q = rg ∨ q = rkb) : MR base rg rkb w w' := Mod.mono m (fun q _ hq => (h q hq).elim .inl (fun e => .inr (.inl e)))
/-- Our disk of which its block alone has turned. -/
theorem ours_upd {off' : Bool} {armed' : Int} {writes' : Int} {keep pend : Value} {ys : List Value} (d : DkAt base w g kb s.off s.armed keep S sz s.K s.P pend s.writes) (k : KeepAt base w keep s.ks) (r1 : w.ownsRow base 67 2 pend s.P.length ys) (r2 : Ents kb base w ys s.P) (r3 : Av ys rkb) (m : Mod (fun b => b = g) w w')
    (hd : DB w' g kb off' armed' keep sz (S * sz) pend writes') : Ours base w' g kb rkb S sz ⟨off', armed', s.ks, s.K, s.P, writes'⟩ := by
  have hk : Kp (TK kb) base w w' := g_kp d.db m d.lg
  exact ⟨keep, pend, ys, d.upd m hd, k.mod d.db m, own_mod r1 m (fun q hq e => own_ne r1 d.db (by decide) (e ▸ hq.symm)), r2.kp hk, r3⟩

theorem ours_cut (A : Option Addr) (c m : Nat) (kt : List Bool) (h : Ours base w g kb rkb S sz s) (hb : Bls w A kt) (hn : kt.length = m) (hA : kt ≠ [] → ∀ b off, A = some ⟨b, off, none⟩ → b ≠ kb) :
    Calls Try.prog 11 #[.pointer (some ⟨g, 0, none⟩), .slice A m c] w (RetO base g kb rkb S sz (stCut sz s kt) (.tuple #[]) w) := by
  obtain ⟨keep, pend, ys, h1, h2, r1, r2, r3⟩ := h
  subst hn
  exact (cut_any A c kt h1 hb hA).mono fun e w' ⟨he, hd, hm⟩ => ⟨he, ours_empty hd keep_nil, mod_mo hm (fun q hq => hq.symm)⟩
theorem ours_sync (h : Ours base w g kb rkb S sz s) : Calls Try.prog 15 #[.pointer (some ⟨g, 0, none⟩)] w (RetO base g kb rkb S sz (stS sz s) (.int .i64 (if s.off = true then 5 else 0)) w) := by
  obtain ⟨keep, pend, ys, h1, h2, r1, r2, r3⟩ := id h
  unfold stS
  by_cases ho : s.off = true
  · rw [if_pos ho, if_pos ho]
    rw [ho] at h1
    refine (sync_off h1).mono fun e w' ⟨he, y, hy⟩ => ?_
    subst hy
    exact ⟨he, h.gr y.gr, y.gr.mod _⟩
  · rw [if_neg ho, if_neg ho]
    have ho' : s.off = false := by simpa using ho
    rw [ho'] at h1
    refine (sync_on h1).mono fun e w' ⟨he, hd, hm⟩ => ?_
    refine ⟨he, ours_empty hd (h2.modk hm ?_), mod_mo hm (fun q hq => hq.symm)⟩
    rintro q (rfl | rfl)
    · exact ⟨_, _, _, h1.kept, by decide⟩
    · exact ⟨_, _, _, h1.db, by decide⟩
theorem ours_on (h : Ours base w g kb rkb S sz s) : Calls Try.prog 12 #[.pointer (some ⟨g, 0, none⟩)] w (RetO base g kb rkb S sz (stO s) (.tuple #[]) w) := by
  obtain ⟨keep, pend, ys, h1, h2, r1, r2, r3⟩ := h
  exact (on_any h1.db).mono fun e w' ⟨he, hd, hm⟩ => ⟨he, ours_upd h1 h2 r1 r2 r3 hm hd, mod_mo hm (fun q hq => .inl hq)⟩

set_option maxHeartbeats 2000000 in
theorem ours_arm (m : Int) (A : Option Addr) (c k : Nat) (kt : List Bool) (h : Ours base w g kb rkb S sz s) (hb : Bls w A kt) (hn : kt.length = k) (hl : k ≤ 140737488351232) (hnc : A = none → c = 0) (hbase : base ≤ w.heap.size) :
    Calls Try.prog 20 #[.pointer (some ⟨g, 0, none⟩), .int .i64 m, .slice A k c] w (RetO base g kb rkb S sz (stA s m kt) (.tuple #[]) w) := by
  obtain ⟨keep, pend, ys, h1, h2, r1, r2, r3⟩ := h
  subst hn
  have C := hid (clone37_any A c kt hb hl hnc)
  have k1 := h1.db.cell 1
  have k2 := h1.db.cell 2
  have f1 := h1.db.frozen 1
  have f2 := h1.db.frozen 2
  have hlt := h1.db.lt
  simp at k1 k2
  have H := hid h1
  have HK := hid h2
  have H1 := hid r1
  have H2 := hid r2
  have H3 := hid r3
  clear h1 h2 r1 r2 r3 hb
  unfold stA
  obtain ⟨a', ha'⟩ : ∃ a' : Int, (if m < 1 then 1 else m) = a' := ⟨_, rfl⟩
  rw [ha']
  go_enter Try.func20, Try.ntmps20
  go_wp2_with (go_at_call 37; (with_reducible refine C.out.mono ?_); rintro e _ ⟨v, y, rfl, rfl, ho⟩; obtain ⟨A6, n6, rfl⟩ : ∃ A6 n6, v = .slice A6 kt.length n6 := (by rcases ho.2 with ⟨rfl, h0⟩ | ⟨g', cap, cur, rfl, _⟩; exact ⟨none, 0, by rw [h0]⟩; exact ⟨_, _, rfl⟩); have HO := hid ho; clear ho)
  go_end0
  have md : Mod (fun b => b = g) y.val ((y.val.setCell ⟨g, 1, none⟩ (.int .i64 a')).setCell ⟨g, 2, none⟩ (.slice A6 kt.length n6)) := (((Gr.refl y.val).mod (fun b => b = g)).set (fun _ => rfl) _).set (fun _ => rfl) _
  have hy := H.out.gr y.gr
  have hkp : Kp (TK kb) base y.val _ := g_kp hy.db md hy.lg
  have r1' := own_gr H1.out y.gr
  exact ⟨rfl, ⟨_, pend, ys, hy.upd md ((hy.db.set1 a').set2 _), KeepAt.mod (own_base HO.out hbase) hy.db md, own_mod r1' md (fun q hq e => own_ne r1' hy.db (by decide) (e ▸ hq.symm)), (H2.out.kp y.gr.kp).kp hkp, H3.out⟩, mod_mo ((y.gr.mod (fun b => b = g)).trans md (fun _ _ h => h)) (fun q hq => .inl hq)⟩

theorem ours_write (i : Int) (A : Option Addr) (c m : Nat) (bs : List UInt8) (h : Ours base w g kb rkb S sz s) (hb : Bts w (.slice A m c) bs) (hrk : rkb < w.heap.size) (ha : 0 ≤ s.armed) (ha2 : s.armed ≤ 9223372036854775807) (hl : s.P.length < 4398046511000) (hw0 : 0 ≤ s.writes) (hw : s.writes ≤ 4611686018427387904) :
    Calls Try.prog 10 #[.pointer (some ⟨g, 0, none⟩), .int .i64 i, .slice A m c] w (RetO base g kb rkb S sz (stW S sz s i bs) (.int .i64 (codeW S sz s i bs)) w) := by
  have hm : bs.length = m := by obtain ⟨_, _, e, _⟩ := hb; injection e with _ e _; exact e.symm
  obtain ⟨keep, pend, ys, h1, h2, r1, r2, r3⟩ := id h
  unfold stW codeW
  by_cases ho : s.off = true
  · rw [if_pos ho, if_pos ho]
    rw [ho] at h1
    refine (write_bad i A m c h1 (.inl rfl)).mono fun e w' ⟨he, y, hy⟩ => ?_
    subst hy
    exact ⟨he, h.gr y.gr, y.gr.mod _⟩
  · have ho' : s.off = false := by simpa using ho
    rw [if_neg ho, if_neg ho]
    rw [ho'] at h1
    by_cases hbad : stBad S sz i bs
    · rw [if_pos hbad, if_pos hbad]
      refine (write_bad i A m c h1 (.inr (by rcases hbad with h | h | h; exact .inl h; exact .inr (.inl h); exact .inr (.inr (by rw [← hm]; exact h))))).mono fun e w' ⟨he, y, hy⟩ => ?_
      subst hy
      exact ⟨he, h.gr y.gr, y.gr.mod _⟩
    · rw [if_neg hbad, if_neg hbad]
      have hi0 : 0 ≤ i := by
        rcases Int.lt_or_le i 0 with h | h
        · exact absurd (.inl h) hbad
        · exact h
      have hi1 : i < S := by
        rcases Int.lt_or_le i S with h | h
        · exact h
        · exact absurd (.inr (.inl h)) hbad
      have hlen : bs.length = sz := by
        by_cases h : bs.length = sz
        · exact h
        · exact absurd (.inr (.inr h)) hbad
      by_cases h3 : s.armed = 1
      · rw [if_pos h3, if_pos h3]
        rw [h3] at h1
        obtain ⟨k, rfl⟩ : ∃ k : Nat, i = k := ⟨i.toNat, by omega⟩
        subst hm
        refine (write_goes k A c bs s.ks h1 h2 (by omega) hlen).mono fun e w' ⟨he, hd, hm⟩ => ?_
        exact ⟨he, ours_empty hd keep_nil, mod_mo hm (fun q hq => hq.symm)⟩
      · rw [if_neg h3, if_neg h3]
        refine (write_ok' i A c m bs h1 hi0 hi1 hb hm (hm ▸ hlen) ha ha2 h3 hl hw0 hw).mono fun e w' ⟨p, he, hd, hk, hmd, ys', q, c', ho1, hoe, ho2, hq⟩ => ?_
        have hys : ys' = ys := own_unique ho1 r1
        subst hys
        obtain ⟨zs, hz1, hz2⟩ := hd.row
        rw [List.length_append] at hz1
        have hzs : zs = ys' ++ [.int .i64 (i, bs).1, .slice (some ⟨q, 0, none⟩) sz c'] := own_unique hz1 ho2
        subst hzs
        refine ⟨he, ⟨keep, p, _, hd, h2.modk hmd ?_, by rw [List.length_append]; exact ho2, hz2, ?_⟩, Mod.mono hmd (fun q' _ hq' => ?_)⟩
        · rintro q' (rfl | hq')
          · exact ⟨_, _, _, h1.db, by decide⟩
          · rcases r1.2 with ⟨rfl, _⟩ | ⟨g', cap, cur, rfl, _, hh, _⟩
            · simp [Value.ownBlock] at hq'
            · simp [Value.ownBlock] at hq'
              subst hq'
              exact ⟨_, _, _, hh, by decide⟩
        · intro j b off m' c'' hj
          by_cases hjl : j < ys'.length
          · rw [List.getElem?_append_left hjl] at hj
            exact r3 j b off m' c'' hj
          · rw [List.getElem?_append_right (by omega)] at hj
            have hj2 : j - ys'.length = 0 ∨ j - ys'.length = 1 ∨ 2 ≤ j - ys'.length := by omega
            rcases hj2 with e | e | e
            · rw [e] at hj; simp at hj
            · rw [e] at hj
              simp at hj
              omega
            · rw [List.getElem?_eq_none (by simpa using e)] at hj
              cases hj
        · rcases hq' with rfl | hq'
          · exact .inl rfl
          · rcases r1.2 with ⟨rfl, _⟩ | ⟨g', cap, cur, rfl, hlo, hh, _⟩
            · simp [Value.ownBlock] at hq'
            · simp [Value.ownBlock] at hq'
              subst hq'
              exact .inr (.inr ⟨hlo, _, _, hh⟩)
end
end Go.Proofs.Ytkgmienjioplaaa
