/- Lemmas: what the functions of the engine answer, and which blocks they write. -/
import Derived.Maps.RangeRun
import Derived.Test.YtniknicnnaiilaaGreatX01
import Derived.Test.YtniknicnnaiilaaGreatX02
section
namespace Go.Proofs.YtniknicnnaiilaaGreat
open Go.RowKit Go.Ext
section
variable {α : Type}
theorem mem_up {l : List (Int × α)} {k : Int} {v : α} : ∀ {x : Int × α}, x ∈ up l k v → x = (k, v) ∨ (x ∈ l) := by
  induction l with
  | nil => intro x h; simpa [up] using h
  | cons y r ih =>
    intro x h
    simp only [up] at h
    split at h
    · rcases List.mem_cons.1 h with h | h
      · exact .inl h
      · exact .inr (List.mem_cons_of_mem _ h)
    · rcases List.mem_cons.1 h with h | h
      · exact .inr (h ▸ List.mem_cons_self ..)
      · exact (ih h).imp id (List.mem_cons_of_mem _)
theorem mem_up_ne {l : List (Int × α)} (hn : (l.map (·.1)).Nodup) {k : Int} {v : α} {x : Int × α} (h : x ∈ up l k v) : x = (k, v) ∨ (x ∈ l ∧ x.1 ≠ k) := by
  rcases x with ⟨a, b⟩
  by_cases e : a = k
  · subst e
    have := mem_lk (up_nodup hn a v) h
    rw [lk_up_same] at this
    injection this with this
    exact .inl (by rw [this])
  · rcases mem_up h with h | h
    · injection h with h1; exact absurd h1 e
    · exact .inr ⟨h, e⟩
theorem mem_rm_ne {l : List (Int × α)} (hn : (l.map (·.1)).Nodup) {k : Int} {x : Int × α} (h : x ∈ rm l k) : x ∈ l ∧ x.1 ≠ k := by
  refine ⟨(rm_sub l k).subset h, fun e => ?_⟩
  rcases x with ⟨a, b⟩
  obtain rfl : a = k := e
  have := mem_lk (rm_nodup hn a) h
  rw [lk_rm_same hn] at this
  cases this
theorem rm_mem {l : List (Int × α)} {k : Int} {x : Int × α} (h : x ∈ l) (hk : x.1 ≠ k) : x ∈ rm l k := by
  induction l with
  | nil => cases h
  | cons y r ih =>
    simp only [rm]
    rcases List.mem_cons.1 h with rfl | h
    · rw [if_neg hk]; exact List.mem_cons_self ..
    · split
      · exact h
      · exact List.mem_cons_of_mem _ (ih h)
end
structure FI (F : FS) : Prop where
  keys : ∀ x ∈ F.op, 1 ≤ x.1 ∧ x.1 ≤ F.l.length ∧ (x.2.kind = 7 ∨ x.2.kind = 12 ∨ x.2.kind = 17) ∧ 0 ≤ x.2.works ∧ x.2.works ≤ F.l.length ∧ ∃ e, F.l[(x.1 - 1).toNat]? = some e ∧ e.kind = x.2.kind ∧ e.id = x.2.id
  nodup : (F.op.map (·.1)).Nodup
  uniq : ∀ x ∈ F.op, ∀ y ∈ F.op, x.2.kind = y.2.kind → x.2.id = y.2.id → x = y
  wuniq : ∀ x ∈ F.op, ∀ y ∈ F.op, x.2.works ≠ 0 → x.2.works = y.2.works → x = y
  turn : 0 ≤ F.turn ∧ F.turn ≤ F.l.length
  evs : ∀ e ∈ F.l, 0 ≤ e.n ∧ e.n ≤ 1048576 ∧ e.data.length ≤ 4096
  n : F.l ≠ [] → 1 ≤ F.n ∧ F.n ≤ 1048576
  task : 0 ≤ F.task ∧ F.task ≤ 2
  ids : ∀ x ∈ F.op, 0 ≤ x.2.id ∧ x.2.id ≤ 1048576
structure PutOk (F : FS) (e : Ev) : Prop where
  n : 0 ≤ e.n ∧ e.n ≤ 1048576
  data : e.data.length ≤ 4096
  k1 : F.l = [] → e.kind = 1
  k1n : e.kind = 1 → 1 ≤ e.n
  k2 : e.kind = 2 → e.n ≤ F.l.length + 1
  k7 : e.kind = 7 ∨ e.kind = 12 ∨ e.kind = 17 → ∀ x ∈ F.op, x.2.kind = e.kind → x.2.id = e.id → False
  k8 : e.kind = 8 → lk F.op e.ref = some ⟨7, e.id, 0⟩
  kid : e.kind = 7 ∨ e.kind = 12 ∨ e.kind = 17 → 0 ≤ e.id ∧ e.id ≤ 1048576
theorem FI.sub {F F' : FS} {e : Ev} (h : FI F) (hp : PutOk F e) (hl : F'.l = F.l ++ [e]) (ho : F'.op.Sublist F.op) (ht : 0 ≤ F'.turn ∧ F'.turn ≤ F.l.length + 1) (hn : 1 ≤ F'.n ∧ F'.n ≤ 1048576) (hk : 0 ≤ F'.task ∧ F'.task ≤ 2) : FI F' := by
  have hlen : F'.l.length = F.l.length + 1 := by rw [hl]; simp
  refine ⟨fun x hx => ?_, h.nodup.sublist (ho.map _), fun x hx y hy => h.uniq x (ho.subset hx) y (ho.subset hy), fun x hx y hy => h.wuniq x (ho.subset hx) y (ho.subset hy), ⟨ht.1, by omega⟩, fun e' he => ?_, fun _ => hn, hk, fun x hx => h.ids x (ho.subset hx)⟩
  · obtain ⟨h1, h2, h3, h4, h5, e', h6, h7⟩ := h.keys x (ho.subset hx)
    refine ⟨h1, by omega, h3, h4, by omega, e', ?_, h7⟩
    rw [hl, List.getElem?_append_left (by omega)]
    exact h6
  · rw [hl] at he
    rcases List.mem_append.1 he with he | he
    · exact h.evs e' he
    · simp only [List.mem_singleton] at he
      subst he
      exact ⟨hp.n.1, hp.n.2, hp.data⟩
theorem putF_l (F : FS) (e : Ev) : (putF F e).l = F.l ++ [e] := by
  simp only [putF, apply_ite FS.l, ite_self]
theorem putF_id1 (F : FS) (e : Ev) : (putF F e).id = F.id := by
  unfold putF
  repeat (refine iteInduction (motive := fun G : FS => G.id = F.id) (fun _ => rfl) (fun _ => ?_))
  rfl
theorem putF_id2 (F : FS) (e : Ev) : (putF F e).run = F.run := by
  unfold putF
  repeat (refine iteInduction (motive := fun G : FS => G.run = F.run) (fun _ => rfl) (fun _ => ?_))
  rfl
theorem putF_id (F : FS) (e : Ev) : (putF F e).id = F.id ∧ (putF F e).run = F.run := ⟨putF_id1 F e, putF_id2 F e⟩
theorem FI.put {F : FS} {e : Ev} (h : FI F) (hp : PutOk F e) : FI (putF F e) := by
  have hN : e.kind ≠ 1 → 1 ≤ F.n ∧ F.n ≤ 1048576 := fun hk => h.n fun e => hk (hp.k1 e)
  have ht := h.turn
  have hk := h.task
  unfold putF
  refine iteInduction (motive := FI) (fun hc => ?_) (fun hc => ?_)
  · have hk1 := hc
    exact h.sub hp rfl (List.Sublist.refl _) ⟨ht.1, by dsimp only; omega⟩ ⟨hp.k1n hk1, hp.n.2⟩ hk
  have hk1 := hc
  have hN := hN hk1
  refine iteInduction (motive := FI) (fun hc => ?_) (fun hc => ?_)
  · have hk2 := hc
    exact h.sub hp rfl (List.Sublist.refl _) ⟨hp.n.1, hp.k2 hk2⟩ hN (by dsimp only; omega)
  refine iteInduction (motive := FI) (fun hc => ?_) (fun hc => ?_)
  · exact h.sub hp rfl (List.Sublist.refl _) ⟨ht.1, by dsimp only; omega⟩ hN (by dsimp only; omega)
  refine iteInduction (motive := FI) (fun hc => ?_) (fun hc => ?_)
  · exact h.sub hp rfl (List.Sublist.refl _) (by dsimp only; omega) hN (by dsimp only; omega)
  refine iteInduction (motive := FI) (fun hc => ?_) (fun hc => ?_)
  · exact h.sub hp rfl (List.Sublist.refl _) (by dsimp only; omega) hN (by dsimp only; omega)
  refine iteInduction (motive := FI) (fun hc => ?_) (fun hc => ?_)
  · have hk7 := hc
    have h7 := hp.k7 hk7
    have hb : FI { F with l := F.l ++ [e] } := h.sub hp rfl (List.Sublist.refl _) ⟨ht.1, by dsimp only; omega⟩ hN hk
    have hn : ∀ x ∈ F.op, x.1 ≠ atF F := fun x hx e => by have := (h.keys x hx).2.1; unfold atF at e; omega
    refine ⟨fun x hx => ?_, up_nodup h.nodup _ _, ?_, ?_, hb.turn, hb.evs, hb.n, hk, fun x hx => by rcases mem_up hx with rfl | hx; exact hp.kid hk7; exact h.ids x hx⟩
    · rcases mem_up hx with rfl | hx
      · have : (atF F - 1).toNat = F.l.length := by unfold atF; omega
        refine ⟨by simp only [atF]; omega, by simp [atF], hk7, by simp, by simp; omega, e, ?_, rfl, rfl⟩
        simp only [this, List.getElem?_append_right (Nat.le_refl _), Nat.sub_self]
        rfl
      · exact hb.keys x hx
    · intro x hx y hy h1 h2
      rcases mem_up hx with rfl | hx <;> rcases mem_up hy with rfl | hy
      · rfl
      · exact (h7 y hy h1.symm h2.symm).elim
      · exact (h7 x hx h1 h2).elim
      · exact h.uniq x hx y hy h1 h2
    · intro x hx y hy h1 h2
      rcases mem_up hx with rfl | hx <;> rcases mem_up hy with rfl | hy
      · rfl
      · exact (h1 rfl).elim
      · exact (h1 h2).elim
      · exact h.wuniq x hx y hy h1 h2
  refine iteInduction (motive := FI) (fun hc => ?_) (fun hc => ?_)
  · have hk8 := hc
    have h8 := hp.k8 hk8
    have hm := lk_mem h8
    have hb : FI { F with l := F.l ++ [e] } := h.sub hp rfl (List.Sublist.refl _) ⟨ht.1, by dsimp only; omega⟩ hN hk
    refine ⟨fun x hx => ?_, up_nodup h.nodup _ _, ?_, ?_, hb.turn, hb.evs, hb.n, hk, fun x hx => by rcases mem_up hx with rfl | hx; exact h.ids (e.ref, ⟨7, e.id, 0⟩) hm; exact h.ids x hx⟩
    · rcases mem_up hx with rfl | hx
      · obtain ⟨h1, h2, h3, _, _, h6⟩ := hb.keys _ hm
        refine ⟨h1, h2, h3, by simp only [atF]; omega, by simp [atF], h6⟩
      · exact hb.keys x hx
    · intro x hx y hy h1 h2
      rcases mem_up_ne h.nodup hx with rfl | ⟨hx, hxn⟩ <;> rcases mem_up_ne h.nodup hy with rfl | ⟨hy, hyn⟩
      · rfl
      · exact absurd (congrArg Prod.fst (h.uniq _ hy _ hm h1.symm h2.symm)) hyn
      · exact absurd (congrArg Prod.fst (h.uniq _ hx _ hm h1 h2)) hxn
      · exact h.uniq x hx y hy h1 h2
    · intro x hx y hy h1 h2
      rcases mem_up_ne h.nodup hx with rfl | ⟨hx, hxn⟩ <;> rcases mem_up_ne h.nodup hy with rfl | ⟨hy, hyn⟩
      · rfl
      · have := (h.keys y hy).2.2.2.2.1
        simp only [atF] at h2
        omega
      · have := (h.keys x hx).2.2.2.2.1
        simp only [atF] at h2
        omega
      · exact h.wuniq x hx y hy h1 h2
  refine iteInduction (motive := FI) (fun hc => ?_) (fun hc => ?_)
  · exact h.sub hp rfl (rm_sub _ _) ⟨ht.1, by dsimp only; omega⟩ hN hk
  refine iteInduction (motive := FI) (fun hc => ?_) (fun hc => ?_)
  · exact h.sub hp rfl (rm_sub _ _) ⟨ht.1, by dsimp only; omega⟩ hN hk
  refine iteInduction (motive := FI) (fun hc => ?_) (fun hc => ?_)
  · exact h.sub hp rfl (rm_sub _ _) ⟨ht.1, by dsimp only; omega⟩ hN hk
  refine iteInduction (motive := FI) (fun hc => ?_) (fun hc => ?_)
  · exact h.sub hp rfl (rm_sub _ _) ⟨ht.1, by dsimp only; omega⟩ hN hk
  refine iteInduction (motive := FI) (fun hc => ?_) (fun hc => ?_)
  · exact h.sub hp rfl (List.Sublist.refl _) ⟨ht.1, by dsimp only; omega⟩ hN hk
  · exact h.sub hp rfl (List.nil_sublist _) ⟨ht.1, by dsimp only; omega⟩ hN (by dsimp only; omega)
def plainK (k : Int) : Prop := k ≠ 1 ∧ k ≠ 2 ∧ k ≠ 7 ∧ k ≠ 12 ∧ k ≠ 17 ∧ k ≠ 8
theorem PutOk.plain {F : FS} {e : Ev} (hl : F.l ≠ []) (hk : plainK e.kind) (hn : 0 ≤ e.n ∧ e.n ≤ 1048576) (hd : e.data.length ≤ 4096) : PutOk F e := by
  obtain ⟨h1, h2, h3, h4, h5, h6⟩ := hk
  refine ⟨hn, hd, fun h => absurd h hl, fun h => absurd h h1, fun h => absurd h h2, fun h => ?_, fun h => absurd h h6, fun h => ?_⟩
  rotate_left
  · rcases h with h | h | h
    · exact absurd h h3
    · exact absurd h h4
    · exact absurd h h5
  rcases h with h | h | h
  · exact absurd h h3
  · exact absurd h h4
  · exact absurd h h5
theorem putF_ne (F : FS) (e : Ev) : (putF F e).l ≠ [] := by rw [putF_l]; simp
theorem putF_len (F : FS) (e : Ev) : (putF F e).l.length = F.l.length + 1 := by rw [putF_l]; simp
theorem FI.schedule {F : FS} {now : Int} (h : FI F) (hl : F.l ≠ []) (hb : F.l.length ≤ 100000) : FI (scheduleF F now).1 := by
  have ht := h.turn
  refine FI.put (F := F) (e := ⟨2, now, 0, 0, F.list, F.turn, []⟩) h ⟨?_, ?_, fun e => absurd e hl, ?_, ?_, ?_, ?_, fun e => by simp at e⟩
  · dsimp only; omega
  · simp
  · intro e; simp at e
  · intro _; dsimp only; omega
  · intro e; simp at e
  · intro e; simp at e
theorem FI.wake {F : FS} {now : Int} (h : FI F) (hl : F.l ≠ []) (hb : F.l.length ≤ 100000) : FI (wakeF F now).1 := by
  unfold wakeF
  split
  · exact h.schedule hl hb
  · exact h
theorem FI.close {F : FS} {kind now : Int} {data : List UInt8} (h : FI F) (hl : F.l ≠ []) (hk : 19 ≤ kind) (hd : data.length ≤ 4096) : FI (closeF F kind data now).1 :=
  h.put (.plain hl ⟨by dsimp only; omega, by dsimp only; omega, by dsimp only; omega, by dsimp only; omega, by dsimp only; omega, by dsimp only; omega⟩ (by dsimp only; omega) hd)
structure FOk (F : FS) : Prop where
  i : FI F
  ne : F.l ≠ []
  len : F.l.length ≤ 4096
  idn : 0 ≤ F.id ∧ F.id ≤ 1048576
  runn : 1 ≤ F.run ∧ F.run ≤ 1048576
def Good (act : FS → FR) : Prop := ∀ F, FOk F → FI (act F).1 ∧ (act F).1.l ≠ [] ∧ (act F).1.l.length ≤ F.l.length + 200 ∧ (act F).1.id = F.id ∧ (act F).1.run = F.run
theorem wakeF_l (F : FS) (now : Int) : (wakeF F now).1.l.length ≤ F.l.length + 1 ∧ (F.l ≠ [] → (wakeF F now).1.l ≠ []) ∧ (wakeF F now).1.id = F.id ∧ (wakeF F now).1.run = F.run := by
  unfold wakeF
  split
  · simp only [scheduleF]
    exact ⟨Nat.le_of_eq (putF_len _ _), fun _ => putF_ne _ _, (putF_id _ _).1, (putF_id _ _).2⟩
  · exact ⟨by simp, id, rfl, rfl⟩
theorem FOk.tryF {F : FS} {data : List UInt8} {now : Int} {act : FS → FR} (h : FOk F) (hg : Good act) : FOk (tryF F data now act).1 := by
  unfold YtniknicnnaiilaaGreat.tryF
  split
  · exact h
  split
  · exact h
  split
  · exact h
  split
  · exact h
  · rename_i hlen
    obtain ⟨h1, h2, h3, h4, h5⟩ := hg F h
    exact ⟨h1, h2, by omega, h4 ▸ h.idn, h5 ▸ h.runn⟩
theorem good_wake {F G : FS} {now : Int} (h : FI G) (hl : G.l ≠ []) (hb : G.l.length ≤ F.l.length + 10) (hF : FOk F) (hi : G.id = F.id ∧ G.run = F.run) :
    FI (wakeF G now).1 ∧ (wakeF G now).1.l ≠ [] ∧ (wakeF G now).1.l.length ≤ F.l.length + 200 ∧ (wakeF G now).1.id = F.id ∧ (wakeF G now).1.run = F.run := by
  obtain ⟨h1, h2, h3, h4⟩ := wakeF_l G now
  have := hF.len
  exact ⟨h.wake hl (by omega), h2 hl, by omega, h3.trans hi.1, h4.trans hi.2⟩
theorem good_self {F : FS} (hF : FOk F) : FI F ∧ F.l ≠ [] ∧ F.l.length ≤ F.l.length + 200 ∧ F.id = F.id ∧ F.run = F.run := ⟨hF.i, hF.ne, by omega, rfl, rfl⟩
theorem good_put {F : FS} {e : Ev} (hF : FOk F) (hp : PutOk F e) : FI (putF F e) ∧ (putF F e).l ≠ [] ∧ (putF F e).l.length ≤ F.l.length + 200 ∧ (putF F e).id = F.id ∧ (putF F e).run = F.run :=
  ⟨hF.i.put hp, putF_ne _ _, by rw [putF_len]; omega, (putF_id _ _).1, (putF_id _ _).2⟩
theorem good_putwake {F : FS} {e : Ev} {now : Int} (hF : FOk F) (hp : PutOk F e) : FI (wakeF (putF F e) now).1 ∧ (wakeF (putF F e) now).1.l ≠ [] ∧ (wakeF (putF F e) now).1.l.length ≤ F.l.length + 200 ∧ (wakeF (putF F e) now).1.id = F.id ∧ (wakeF (putF F e) now).1.run = F.run :=
  good_wake (hF.i.put hp) (putF_ne _ _) (by rw [putF_len]; omega) hF (putF_id _ _)
theorem signal_good {data : List UInt8} {now : Int} (hd : data.length ≤ 4096) : Good (signalD data now) := fun F hF =>
  good_putwake hF (.plain hF.ne (by unfold plainK; dsimp only; omega) (by dsimp only; omega) hd)
theorem cancel_good {now : Int} : Good (cancelD now) := fun F hF => by
  unfold cancelD
  split
  · exact good_self hF
  · exact good_putwake hF (.plain hF.ne (by unfold plainK; dsimp only; omega) (by dsimp only; omega) (by simp))
theorem terminate_good {data : List UInt8} {now : Int} (hd : data.length ≤ 4096) : Good (terminateD data now) := fun F hF =>
  good_put (e := ⟨23, now, 0, 0, 0, 0, data⟩) hF (.plain hF.ne (by unfold plainK; dsimp only; omega) (by dsimp only; omega) hd)
theorem decides_good {ref turn now : Int} : Good (decidesD ref turn now) := fun F hF => by
  unfold decidesD
  split
  · exact good_self hF
  · exact good_put (e := ⟨3, now, ref, 0, 0, 0, []⟩) hF (.plain hF.ne (by unfold plainK; dsimp only; omega) (by dsimp only; omega) (by simp))
theorem works_good {ref now : Int} : Good (worksD ref now) := fun F hF => by
  unfold worksD
  split
  · exact good_self hF
  · rename_i hw
    split
    · exact good_self hF
    · rename_i a ha
      refine good_put (e := ⟨8, now, ref, a.id, 0, 0, []⟩) hF ⟨by dsimp only; omega, by simp, fun e => absurd e hF.ne, ?_, ?_, ?_, ?_, fun e => by simp at e⟩
      · intro e; simp at e
      · intro e; simp at e
      · intro e; simp at e
      · intro _
        have hw : wantsF F ref (-1) = true := by simpa using hw
        unfold wantsF at hw
        rw [if_pos rfl] at hw
        dsimp only
        cases hx : lk F.op ref with
        | none => rw [hx] at hw; cases hw
        | some x =>
          rw [hx] at hw
          simp only [Bool.and_eq_true, beq_iff_eq] at hw
          obtain ⟨h1, _, _, _, _, e, h6, _, h8⟩ := hF.i.keys _ (lk_mem hx)
          rw [ha] at h6
          injection h6 with h6
          subst h6
          rcases x with ⟨k, i, wk⟩
          obtain ⟨rfl, rfl⟩ := hw
          simp only at h8
          subst h8
          rfl
theorem ends_good {kind ref now : Int} {data : List UInt8} (hk : kind = 9 ∨ kind = 10 ∨ kind = 11) (hd : data.length ≤ 4096) : Good (endsF kind ref data now) := fun F hF => by
  unfold endsF
  split
  · exact good_self hF
  · split
    · exact good_self hF
    · refine good_putwake hF (.plain hF.ne ?_ (by dsimp only; omega) hd)
      unfold plainK
      dsimp only
      omega
theorem missed_good {ref turn now : Int} : Good (missedD ref turn now) := fun F hF => by
  unfold missedD
  split
  · exact good_self hF
  · have hp : PutOk F ⟨5, now, F.begun, 0, 0, 0, []⟩ := .plain hF.ne (by unfold plainK; dsimp only; omega) (by dsimp only; omega) (by simp)
    have hlen := hF.len
    have e1 := putF_len F ⟨5, now, F.begun, 0, 0, 0, []⟩
    refine ⟨(hF.i.put hp).schedule (putF_ne _ _) (by omega), putF_ne _ _, ?_, ?_, ?_⟩
    · simp only [ok, scheduleF, putF_len]; omega
    · simp only [ok, scheduleF, (putF_id _ _).1]
    · simp only [ok, scheduleF, (putF_id _ _).2]
theorem lapsed_good {ref turn now : Int} : Good (lapsedD ref turn now) := fun F hF => by
  unfold lapsedD
  split
  · exact good_self hF
  · exact ends_good (.inr (.inr rfl)) (by simp) F hF
theorem fired_good {ref turn now : Int} : Good (firedD ref turn now) := fun F hF => by
  unfold firedD
  split
  · exact good_self hF
  · split
    · exact good_self hF
    · exact good_putwake hF (.plain hF.ne (by unfold plainK; dsimp only; omega) (by dsimp only; omega) (by simp))
theorem childEnds_good {id status now : Int} {data : List UInt8} (hd : data.length ≤ 4096) : Good (childEndsD id status data now) := fun F hF => by
  unfold childEndsD
  split
  · exact good_self hF
  · split
    · exact good_self hF
    · exact good_putwake hF (.plain hF.ne (by unfold plainK; dsimp only; omega) (by dsimp only; omega) hd)
theorem isOf_spec {op : List (Int × Opn)} {p : Int × Int} : isOf op p = true ↔ ∃ x ∈ op, x.2.kind = p.1 ∧ x.2.id = p.2 := by
  simp [isOf]
theorem findF_spec {op : List (Int × Opn)} {kind id : Int} (h : isOf op (kind, id) = true) : ∃ o, (findF op kind id, o) ∈ op ∧ o.kind = kind ∧ o.id = id := by
  unfold findF
  cases hf : op.find? fun x => x.2.kind == kind && x.2.id == id with
  | none =>
    rw [List.find?_eq_none] at hf
    obtain ⟨x, hx, h1, h2⟩ := isOf_spec.1 h
    exact absurd (by simp [h1, h2]) (hf x hx)
  | some x =>
    have h1 := List.find?_some hf
    have h2 := List.mem_of_find?_eq_some hf
    simp only [Bool.and_eq_true, beq_iff_eq] at h1
    exact ⟨x.2, h2, h1.1, h1.2⟩
theorem bool_ext {a b : Bool} (h : a = true ↔ b = true) : a = b := by cases a <;> cases b <;> simp_all
theorem done_is {F : FS} {d : Dec} {now : Int} (h : FI F) (hk : d.kind < 5) (ht : takeB (isOf F.op) d = true) (hk1 : 1 ≤ d.kind) : ∀ p, isOf (doneF F d now).1.op p = takeS (isOf F.op) d p := by
  intro p
  have hnew : ∀ v, lk (up F.op (atF F) v) = lk (up F.op (atF F) v) := fun _ => rfl
  have hfresh : lk F.op (atF F) = none := by
    cases hx : lk F.op (atF F) with
    | none => rfl
    | some v => have := (h.keys _ (lk_mem hx)).2.1; unfold atF at this; simp only at this; omega
  have hadd : ∀ (K : Int) (w : Int), isOf (up F.op (atF F) ⟨K, d.id, w⟩) p = (decide (p = (K, d.id)) || isOf F.op p) := fun K w => by
    rw [up_new hfresh]
    simp only [isOf, List.any_append, List.any_cons, List.any_nil, Bool.or_false]
    rw [Bool.or_comm]
    congr 1
    refine bool_ext ?_
    rcases p with ⟨p1, p2⟩
    simp only [Bool.and_eq_true, beq_iff_eq, decide_eq_true_eq, Prod.mk.injEq]
    exact ⟨fun ⟨a, b⟩ => ⟨a.symm, b.symm⟩, fun ⟨a, b⟩ => ⟨a.symm, b.symm⟩⟩
  have hkk : d.kind = 1 ∨ d.kind = 2 ∨ d.kind = 3 ∨ d.kind = 4 := by omega
  rcases hkk with e | e | e | e
  · simp only [doneF, takeS, e, kindD]
    exact hadd 7 0
  · simp only [doneF, takeS, e, kindD]
    exact hadd 12 0
  · have e3 : takeB (isOf F.op) d = isOf F.op (12, d.id) := by simp [takeB, e]
    rw [e3] at ht
    obtain ⟨o, ho, h1, h2⟩ := findF_spec ht
    simp only [doneF, takeS, e, show ¬ (3 : Int) = 1 by decide, show ¬ (3 : Int) = 2 by decide, show ¬ (3 : Int) = 4 by decide, if_false, if_true]
    have : (putF F ⟨14, now, findF F.op 12 d.id, d.id, d.list, d.n, d.data⟩).op = rm F.op (findF F.op 12 d.id) := rfl
    rw [this]
    refine bool_ext ?_
    rw [isOf_spec]
    constructor
    · rintro ⟨x, hx, hx1, hx2⟩
      obtain ⟨hx, hxn⟩ := mem_rm_ne h.nodup hx
      split
      · rename_i hp
        subst hp
        exact absurd (congrArg Prod.fst (h.uniq _ hx _ ho (hx1.trans h1.symm) (hx2.trans h2.symm))) hxn
      · exact isOf_spec.2 ⟨x, hx, hx1, hx2⟩
    · intro hp
      split at hp
      · cases hp
      · rename_i hpn
        obtain ⟨x, hx, hx1, hx2⟩ := isOf_spec.1 hp
        refine ⟨x, rm_mem hx fun e => hpn ?_, hx1, hx2⟩
        have hxx := mem_lk h.nodup (show (x.1, x.2) ∈ F.op from hx)
        rw [e, mem_lk h.nodup ho] at hxx
        injection hxx with hxx
        rw [← hxx] at hx1 hx2
        rcases p with ⟨p1, p2⟩
        simp only at hx1 hx2
        rw [← hx1, ← hx2, h1, h2]
  · simp only [doneF, takeS, e, kindD]
    exact hadd 17 0
theorem mayF_spec {d : Dec} (h : mayF d = true) : 1 ≤ d.kind ∧ d.kind ≤ 8 ∧ d.data.length ≤ 4096 ∧ (d.kind = 1 ∨ d.kind = 4 ∨ d.kind = 2 → 1 ≤ d.n ∧ d.n ≤ 1048576) ∧ (¬ (d.kind = 1 ∨ d.kind = 4 ∨ d.kind = 2) → d.n = 0) ∧ 0 ≤ d.id ∧ d.id ≤ 1048576 := by
  unfold mayF ticksB at h
  simp only [Bool.and_eq_true, Bool.or_eq_true, decide_eq_true_eq, beq_iff_eq, Bool.not_eq_true', Bool.or_eq_false_iff, beq_eq_false_iff_ne] at h
  obtain ⟨⟨⟨⟨⟨⟨⟨⟨⟨h1, h2⟩, h3⟩, h4⟩, h5⟩, h6⟩, h7⟩, h8⟩, h9⟩, h10⟩ := h
  have h7' : 0 ≤ d.id ∧ d.id ≤ 1048576 := by simpa [numB] using h7
  refine ⟨h1, h2, h10, fun hk => ?_, fun hk => ?_, h7'⟩
  · rcases h9 with h9 | h9
    · omega
    · exact h9
  · omega
theorem doneF_l (F : FS) (d : Dec) (now : Int) : (doneF F d now).1.l.length = F.l.length + 1 ∧ (doneF F d now).1.l ≠ [] ∧ (doneF F d now).1.id = F.id ∧ (doneF F d now).1.run = F.run := by
  unfold doneF closeF
  repeat' split
  all_goals exact ⟨putF_len _ _, putF_ne _ _, (putF_id _ _).1, (putF_id _ _).2⟩
theorem FI.done {F : FS} {d : Dec} {now : Int} (h : FI F) (hl : F.l ≠ []) (hm : mayF d = true) (ht : takeB (isOf F.op) d = true) : FI (doneF F d now).1 := by
  obtain ⟨h1, h2, h3, h4, h5, hid0⟩ := mayF_spec hm
  have hnew : d.kind = 1 ∨ d.kind = 2 ∨ d.kind = 4 → ∀ x ∈ F.op, x.2.kind = kindD d.kind → x.2.id = d.id → False := fun hk x hx e1 e2 => by
    have : takeB (isOf F.op) d = !isOf F.op (kindD d.kind, d.id) := by
      unfold takeB
      rw [if_neg (by omega), if_pos hk]
    rw [this, isOf_spec.2 ⟨x, hx, e1, e2⟩] at ht
    cases ht
  unfold doneF
  split
  · rename_i e
    have hn := hnew (.inl e)
    rw [e] at hn
    refine h.put (e := ⟨7, now, 0, d.id, d.list, d.n, d.data⟩) ⟨by dsimp only; omega, h3, fun e => absurd e hl, ?_, ?_, fun _ => hn, ?_, fun _ => hid0⟩
    · intro e; simp at e
    · intro e; simp at e
    · intro e; simp at e
  split
  · rename_i e
    have hn := hnew (.inr (.inl e))
    rw [e] at hn
    refine h.put (e := ⟨12, now, 0, d.id, d.list, d.n, d.data⟩) ⟨by dsimp only; omega, h3, fun e => absurd e hl, ?_, ?_, fun _ => hn, ?_, fun _ => hid0⟩
    · intro e; simp at e
    · intro e; simp at e
    · intro e; simp at e
  split
  · rename_i e
    have hn := hnew (.inr (.inr e))
    rw [e] at hn
    refine h.put (e := ⟨17, now, 0, d.id, d.list, d.n, d.data⟩) ⟨by dsimp only; omega, h3, fun e => absurd e hl, ?_, ?_, fun _ => hn, ?_, fun _ => hid0⟩
    · intro e; simp at e
    · intro e; simp at e
    · intro e; simp at e
  split
  · exact h.put (e := ⟨14, now, findF F.op 12 d.id, d.id, d.list, d.n, d.data⟩) (.plain hl (by unfold plainK; dsimp only; omega) (by dsimp only; omega) h3)
  · refine h.close hl ?_ h3
    unfold closeK
    repeat' split
    all_goals omega
theorem dones_ok {now : Int} : ∀ (l : List Dec) (F : FS) (os : List Out), FI F → F.l ≠ [] → badL F.id F.asked (isOf F.op) l = false →
    FI (donesF now (F, os) l).1 ∧ (donesF now (F, os) l).1.l ≠ [] ∧ (donesF now (F, os) l).1.l.length = F.l.length + l.length ∧ (donesF now (F, os) l).1.id = F.id ∧ (donesF now (F, os) l).1.run = F.run
  | [], F, os, h, hl, _ => ⟨h, hl, rfl, rfl, rfl⟩
  | d :: r, F, os, h, hl, hb => by
    simp only [badL, badOne, Bool.or_eq_false_iff, Bool.and_eq_false_iff, Bool.not_eq_false', decide_eq_false_iff_not] at hb
    obtain ⟨⟨⟨⟨⟨hm, h5⟩, ht⟩, _⟩, _⟩, hb⟩ := hb
    have hd := h.done hl hm ht (now := now)
    obtain ⟨e1, e2, e3, e4⟩ := doneF_l F d now
    simp only [donesF]
    by_cases hk : d.kind < 5
    · have hask : (doneF F d now).1.asked = F.asked := by
        have hh := (mayF_spec hm).1
        have hkk : d.kind = 1 ∨ d.kind = 2 ∨ d.kind = 3 ∨ d.kind = 4 := by omega
        rcases hkk with e | e | e | e <;> simp only [doneF, e] <;> rfl
      have his : isOf (doneF F d now).1.op = takeS (isOf F.op) d := funext fun p => done_is h hk ht (mayF_spec hm).1 p
      rw [← his, ← hask, ← e3] at hb
      obtain ⟨a, b, c, c4, c5⟩ := dones_ok r (doneF F d now).1 (os ++ (doneF F d now).2) hd e2 hb
      refine ⟨a, b, ?_, c4.trans e3, c5.trans e4⟩
      rw [c, e1]; simp only [List.length_cons]; omega
    · have : r = [] := by
        rcases h5 with h5 | h5
        · omega
        · simpa using h5
      subst this
      exact ⟨hd, e2, by simp only [donesF, e1]; simp, e3, e4⟩
theorem decide_good {ref turn now : Int} {l : List Dec} : Good (decideD ref turn l now) := fun F hF => by
  have hlen := hF.len
  have fault : ∀ n, 0 ≤ n → n ≤ 10 → FI (faultyF F n now).1 ∧ (faultyF F n now).1.l ≠ [] ∧ (faultyF F n now).1.l.length ≤ F.l.length + 200 ∧ (faultyF F n now).1.id = F.id ∧ (faultyF F n now).1.run = F.run := fun n h0 h1 => by
    have hp : PutOk F ⟨6, now, F.begun, 0, 0, n, []⟩ := .plain hF.ne (by unfold plainK; dsimp only; omega) (by dsimp only; omega) (by simp)
    have e1 := putF_len F ⟨6, now, F.begun, 0, 0, n, []⟩
    refine ⟨(hF.i.put hp).schedule (putF_ne _ _) (by omega), putF_ne _ _, ?_, ?_, ?_⟩
    · simp only [faultyF, scheduleF, putF_len]; omega
    · simp only [faultyF, scheduleF, (putF_id _ _).1]
    · simp only [faultyF, scheduleF, (putF_id _ _).2]
  unfold decideD
  split
  · exact good_self hF
  split
  · exact fault 1 (by decide) (by decide)
  rename_i hbad
  split
  · exact fault 2 (by decide) (by decide)
  have hp : PutOk F ⟨4, now, F.begun, 0, 0, 0, []⟩ := .plain hF.ne (by unfold plainK; dsimp only; omega) (by dsimp only; omega) (by simp)
  have hF4 := hF.i.put hp
  have hb : badL F.id F.asked (isOf F.op) l = false ∧ l.length ≤ 32 := by
    unfold badF at hbad
    simp only [Bool.or_eq_true, decide_eq_true_eq, not_or, Bool.not_eq_true] at hbad
    exact ⟨hbad.2, by omega⟩
  obtain ⟨a, b, c, d4, d5⟩ := dones_ok (now := now) l (putF F ⟨4, now, F.begun, 0, 0, 0, []⟩) [] hF4 (putF_ne _ _) (by
    have e : badL (putF F ⟨4, now, F.begun, 0, 0, 0, []⟩).id (putF F ⟨4, now, F.begun, 0, 0, 0, []⟩).asked (isOf (putF F ⟨4, now, F.begun, 0, 0, 0, []⟩).op) l = badL F.id F.asked (isOf F.op) l := rfl
    rw [e]; exact hb.1)
  rw [putF_len] at c
  rw [(putF_id _ _).1] at d4
  rw [(putF_id _ _).2] at d5
  split
  · refine ⟨a.schedule b (by omega), putF_ne _ _, ?_, ?_, ?_⟩
    · simp only [ok, scheduleF, putF_len, c]; omega
    · simp only [ok, scheduleF, (putF_id _ _).1, d4]
    · simp only [ok, scheduleF, (putF_id _ _).2, d5]
  · exact ⟨a, b, by simp only [ok, c]; omega, d4, d5⟩
theorem FOk.new {id run list n now : Int} {data : List UInt8} {F : FS} {os : List Out} (h : newF id run list n data now = some (F, os)) : FOk F ∧ F.id = id ∧ F.run = run ∧ F.l.length = 2 := by
  unfold newF at h
  split at h
  · rename_i hc
    simp only [Bool.and_eq_true, numB, ticksB, rightF, decide_eq_true_eq] at hc
    obtain ⟨⟨⟨⟨h1, h2⟩, h3⟩, h4⟩, h5⟩ := hc
    injection h with h
    have hf : FI (f0 id run) := ⟨fun x hx => (by cases hx), List.nodup_nil, fun x hx => (by cases hx), fun x hx => (by cases hx), by simp [f0], fun x hx => (by cases hx), fun h => absurd rfl h, by simp [f0], fun x hx => (by cases hx)⟩
    have h1' : FI (putF (f0 id run) ⟨1, now, 0, 0, list, n, data⟩) := hf.put ⟨by dsimp only; omega, h5.1.1.1, fun _ => rfl, fun _ => h4.1, fun e => by simp at e, fun e => by simp at e, fun e => by simp at e, fun e => by simp at e⟩
    have h2' := h1'.schedule (now := now) (putF_ne _ _) (by rw [putF_len]; simp [f0])
    rw [h] at h2'
    have e1 : F = (scheduleF (putF (f0 id run) ⟨1, now, 0, 0, list, n, data⟩) now).1 := by rw [h]
    refine ⟨⟨h2', ?_, ?_, ?_, ?_⟩, ?_, ?_, ?_⟩
    · rw [e1]; exact putF_ne _ _
    · rw [e1]; simp [scheduleF, putF_len, f0]
    · rw [e1]; simp only [scheduleF, (putF_id _ _).1, f0]; exact h1
    · rw [e1]; simp only [scheduleF, (putF_id _ _).2, f0]; exact h2
    · rw [e1]; simp only [scheduleF, (putF_id _ _).1, f0]
    · rw [e1]; simp only [scheduleF, (putF_id _ _).2, f0]
    · rw [e1]; simp [scheduleF, putF_len, f0]
  · cases h
end Go.Proofs.YtniknicnnaiilaaGreat
end
section
namespace Go.Proofs.YtniknicnnaiilaaGreat
set_option maxRecDepth 100000
open Go.RowKit Go.Ext Go.BigFrame Go.Maps Go.MapKept
attribute [local go_sem] Ext.cell Ext.frozen Ext.lt Ext.le s1 s2 s3 s4 s5 s6 t1 t2 t3 t4 t5 t6
attribute [local go_sem ↓] Go.wp_at_zero Go.wp_at_succ
theorem gr_setBlock {a w : World} (h : Gr a w) {r : Nat} (hr : a.heap.size ≤ r) (o : Obj) : Gr a (ChangeMaps.setBlock w r o) :=
  ⟨h.os, h.tape, h.output, by simp [ChangeMaps.setBlock]; exact h.size, fun k hk => by
    have : (ChangeMaps.setBlock w r o).heap[k]? = w.heap[k]? := by
      simp only [ChangeMaps.setBlock]
      rw [Array.getElem?_setIfInBounds_ne (by omega)]
    rw [this]
    exact h.block k hk⟩
theorem setBlock_at {w : World} {r : Nat} {x : Obj} (h : w.heap[r]? = some x) (o : Obj) : (ChangeMaps.setBlock w r o).heap[r]? = some o := by
  have := (Array.getElem?_eq_some_iff.1 h).1
  simp [ChangeMaps.setBlock, this]
theorem iter_step {P : Program} {w wr : World} {r mb clock : Nat} {es : Array MapEntry} {seen : Array Nat} (hit : wr.heap[r]? = some (.mapIter (some mb) clock seen clock)) (hm : w.heap[mb]? = some (.map es clock)) (hst : Stamped es clock) (hr : w.heap.size ≤ r) (hg : Gr w wr) :
    ((leftOf es seen).size = 0 ∧ (∀ ty, (Instr.next (.pointer (some ⟨r, 0, none⟩)) false ty).run P wr = .ok (.tuple #[.bool false]) wr)) ∨
    ∃ e ∈ (leftOf es seen).toList, ∃ W2, Gr w W2 ∧ W2.heap[r]? = some (.mapIter (some mb) clock (seen.push e.born) clock) ∧ (∀ ty, (Instr.next (.pointer (some ⟨r, 0, none⟩)) false ty).run P wr = .ok (.tuple #[.bool true, e.key, e.val]) W2) ∧
      (Instr.entry (.pointer (some ⟨r, 0, none⟩))).run P W2 = .ok (.tuple #[e.key, e.val]) W2 := by
  have hlt : mb < w.heap.size := (Array.getElem?_eq_some_iff.1 hm).1
  have hb : wr.heap[mb]? = some (.map es clock) := (hg.block mb hlt).trans hm
  rcases run_next_at (P := P) wr 0 r mb clock clock seen es clock hit hb hst.1 (Nat.le_refl _) with ⟨h0, hrun⟩ | ⟨e, he, w1, hal, hrun⟩
  · exact .inl ⟨h0, fun _ => hrun⟩
  · refine .inr ⟨e, he, _, ?_, ?_, fun _ => hrun, ?_⟩
    · refine gr_setBlock ?_ hr _
      rcases hal with rfl | rfl
      · exact hg
      · exact hg.drew
    · refine setBlock_at (x := .mapIter (some mb) clock seen clock) ?_ _
      rcases hal with rfl | rfl <;> exact hit
    · refine run_entry_at _ r mb clock seen es clock e (setBlock_at (x := .mapIter (some mb) clock seen clock) ?_ _) ?_ (mem_left he).1 hst.2.1
      · rcases hal with rfl | rfl <;> exact hit
      · have : (ChangeMaps.setBlock w1 r (.mapIter (some mb) clock (seen.push e.born) clock)).heap[mb]? = w1.heap[mb]? := by
          simp only [ChangeMaps.setBlock]
          rw [Array.getElem?_setIfInBounds_ne (by omega)]
        rw [this]
        rcases hal with rfl | rfl <;> exact hb
theorem iterSeen_of {w : World} {r : Nat} {m : Option Nat} {s c : Nat} {seen : Array Nat} (h : w.heap[r]? = some (.mapIter m s seen c)) : w.iterSeen r = seen := by
  unfold World.iterSeen
  rw [h]
theorem MI.entries {α : Type} {f : α → Value} {w : World} {mb : Nat} {op : List (Int × α)} (h : MI w mb (mp f op)) : ∃ es clock, w.heap[mb]? = some (.map es clock) ∧ Stamped es clock ∧
    (∀ e ∈ es.toList, ∃ x ∈ op, e.key = .int .i64 x.1 ∧ e.val = f x.2) ∧ (∀ x ∈ op, ∃ e ∈ es.toList, e.key = .int .i64 x.1 ∧ e.val = f x.2) := by
  obtain ⟨es, clock, h0, h1, h2⟩ := h
  refine ⟨es, clock, h0, h2, fun e he => ?_, fun x hx => ?_⟩
  · have : (e.key, e.val) ∈ kvs (mp f op) := by rw [← h1]; exact List.mem_map.2 ⟨e, he, rfl⟩
    simp only [kvs, mp, List.mem_map] at this
    obtain ⟨y, ⟨x, hx, rfl⟩, hy⟩ := this
    injection hy with h3 h4
    exact ⟨x, hx, h3.symm, h4.symm⟩
  · have : (Value.int .i64 x.1, f x.2) ∈ es.toList.map (fun e => (e.key, e.val)) := by
      rw [h1]
      simp only [kvs, mp, List.mem_map]
      exact ⟨(x.1, f x.2), ⟨x, hx, rfl⟩, rfl⟩
    obtain ⟨e, he, hy⟩ := List.mem_map.1 this
    injection hy with h3 h4
    exact ⟨e, he, h3, h4⟩
theorem find_one {op : List (Int × Opn)} {p : Opn → Bool} (hu : ∀ x ∈ op, ∀ y ∈ op, p x.2 = true → p y.2 = true → x = y) {x : Int × Opn} (hx : x ∈ op) (hp : p x.2 = true) : ((op.find? fun y => p y.2).map (·.1)).getD 0 = x.1 := by
  cases hf : op.find? fun y => p y.2 with
  | none => exact absurd hp (by simpa using List.find?_eq_none.1 hf x hx)
  | some y =>
    have := hu y (List.mem_of_find?_eq_some hf) x hx (List.find?_some (p := fun y : Int × Opn => p y.2) hf) hp
    rw [← this]; rfl
theorem find_no {op : List (Int × Opn)} {p : Opn → Bool} (h : ∀ x ∈ op, p x.2 = false) : ((op.find? fun y => p y.2).map (·.1)).getD 0 = 0 := by
  have : op.find? (fun y => p y.2) = none := List.find?_eq_none.2 fun x hx => by simp [h x hx]
  rw [this]; rfl
set_option maxHeartbeats 1000000 in
theorem findO_any (k mb : Nat) (F : FS) (M : Bl) (kind id : Int) (w : World) (h : FlowR w M k mb F) (hu : ∀ x ∈ F.op, ∀ y ∈ F.op, x.2.kind = y.2.kind → x.2.id = y.2.id → x = y) :
    Calls Tryz.prog 187 #[.pointer (some ⟨k, 0, none⟩), .int .i64 kind, .int .i64 id] w (RetE (.int .i64 (findF F.op kind id)) w) := by
  obtain ⟨A, c, hc, hf, hr, hk⟩ := h.parts
  obtain ⟨_, _, _, _, _, _, _, _, _, _, _, c11⟩ := hf
  obtain ⟨es, clock, hm, hst, he1, he2⟩ := MI.entries h.map
  have hrg := fun W (y : Gr w W) => run_range_map (P := Tryz.prog) W 155 3 185 mb es clock Tryz.underlying155 ((y.block mb (Array.getElem?_eq_some_iff.1 hm).1).trans hm)
  have hrg0 := hrg w (Gr.refl w)
  have hu' : ∀ x ∈ F.op, ∀ y ∈ F.op, (x.2.kind == kind && x.2.id == id) = true → (y.2.kind == kind && y.2.id == id) = true → x = y := fun x hx y hy e1 e2 => by
    simp only [Bool.and_eq_true, beq_iff_eq] at e1 e2
    exact hu x hx y hy (e1.1.trans e2.1.symm) (e1.2.trans e2.2.symm)
  have HU := hid hu'
  clear h hr hu hu' hrg
  refine retE ?_
  go_enter Tryz.func187, Tryz.ntmps187
  go_wp2_with fail
  go_loopw [] (fun wr => ∃ seen : Array Nat, Gr w wr ∧ wr.heap[w.heap.size]? = some (.mapIter (some mb) clock seen clock) ∧ ∀ x ∈ F.op, ∀ e ∈ es.toList, e.key = .int .i64 x.1 → e.val = opV x.2 → seen.contains e.born = true → (x.2.kind == kind && x.2.id == id) = false) (fun wr => (leftOf es (wr.iterSeen w.heap.size)).size)
  case atStart => exact ⟨#[], (Gr.refl w).alloc _, heap_alloc_new w _, fun _ _ _ _ _ _ hc => by simp at hc⟩
  case round =>
    obtain ⟨seen, hg, hit, hno⟩ := hrel
    have HSN := hid (iterSeen_of hit)
    rcases iter_step (P := Tryz.prog) hit hm hst (Nat.le_refl _) hg with ⟨h0, hnx⟩ | ⟨e, he, W2, hg2, hit2, hnx, hen⟩
    · have HF := hid (show findF F.op kind id = 0 from find_no (p := fun o => o.kind == kind && o.id == id) fun x hx => by
        obtain ⟨e, he, e1, e2⟩ := he2 x hx
        exact hno x hx e he e1 e2 (all_seen es seen h0 e he))
      clear hno
      go_wp2_with fail
      go_ret
      exact ⟨by rw [HF.out]; rfl, hg⟩
    · obtain ⟨x, hx, ek, ev⟩ := he1 e (mem_left he).1
      have HNO := hid hno
      have HIT := hid hit2
      have HE := hid he
      have HEK := hid (show e.key = .int .i64 x.1 ∧ e.val = opV x.2 from ⟨ek, ev⟩)
      rw [ek, ev] at hnx hen
      clear hno hit hit2 he ek ev
      rcases x with ⟨q, o⟩
      rcases o with ⟨xk, xi, xw⟩
      simp only [opV] at hnx hen
      have hlt2 : w.heap.size < W2.heap.size := (Array.getElem?_eq_some_iff.1 HIT.out).1
      have last : (xk == kind && xi == id) = false → ∃ seen' : Array Nat, seen' = seen.push e.born ∧ ∀ x ∈ F.op, ∀ e ∈ es.toList, e.key = .int .i64 x.1 → e.val = opV x.2 → seen'.contains e.born = true → (x.2.kind == kind && x.2.id == id) = false := fun hne => by
        refine ⟨_, rfl, fun y hy e' he' e1 e2 hc => ?_⟩
        rw [contains_push] at hc
        rcases Bool.or_eq_true _ _ ▸ hc with h1 | h1
        · exact HNO.out y hy e' he' e1 e2 h1
        · have : e' = e := born_inj hst.2.1 he' (mem_left HE.out).1 (beq_iff_eq.1 h1)
          subst this
          rw [HEK.out.2] at e2
          unfold opV at e2
          injection e2 with e2
          injection e2 with e2
          injection e2 with e3 e2
          injection e2 with e4 e2
          injection e3 with _ e3
          injection e4 with _ e4
          rw [← e3, ← e4]; exact hne
      have LAST := hid last
      clear last
      by_cases hk1 : xk = kind
      · by_cases hi1 : xi = id
        · subst hk1 hi1
          have HF := hid (show findF F.op xk xi = q from find_one (p := fun o => o.kind == xk && o.id == xi) HU.out hx (by simp))
          go_wp2_with fail
          go_ret
          exact ⟨by rw [HF.out]; rfl, hg2.alloc _⟩
        · subst hk1
          go_wp2_with fail
          go_roundw
          case rel =>
            obtain ⟨_, rfl, hl⟩ := LAST.out (by simp [hi1])
            refine ⟨_, ?_, ?_, hl⟩
            · exact hg2.alloc _
            · exact (((Gr.refl _).alloc _).block _ hlt2).trans HIT.out
          case measure =>
            rw [HSN.out, iterSeen_of (show (W2.alloc _).heap[w.heap.size]? = _ from (((Gr.refl _).alloc _).block _ hlt2).trans HIT.out)]
            exact left_shrinks es seen e HE.out
      · go_wp2_with fail
        go_roundw
        case rel =>
          obtain ⟨_, rfl, hl⟩ := LAST.out (by simp [hk1])
          refine ⟨_, ?_, ?_, hl⟩
          · exact hg2.alloc _
          · exact (((Gr.refl _).alloc _).block _ hlt2).trans HIT.out
        case measure =>
          rw [HSN.out, iterSeen_of (show (W2.alloc _).heap[w.heap.size]? = _ from (((Gr.refl _).alloc _).block _ hlt2).trans HIT.out)]
          exact left_shrinks es seen e HE.out
set_option maxHeartbeats 1000000 in
theorem ofO_any (k mb : Nat) (F : FS) (M : Bl) (works : Int) (w : World) (h : FlowR w M k mb F) (hu : ∀ x ∈ F.op, ∀ y ∈ F.op, x.2.works ≠ 0 → x.2.works = y.2.works → x = y) (hw : works ≠ 0) :
    Calls Tryz.prog 184 #[.pointer (some ⟨k, 0, none⟩), .int .i64 works] w (RetE (.int .i64 (ofF F.op works)) w) := by
  obtain ⟨A, c, hc, hf, hr, hk⟩ := h.parts
  obtain ⟨_, _, _, _, _, _, _, _, _, _, _, c11⟩ := hf
  obtain ⟨es, clock, hm, hst, he1, he2⟩ := MI.entries h.map
  have hrg := fun W (y : Gr w W) => run_range_map (P := Tryz.prog) W 155 3 185 mb es clock Tryz.underlying155 ((y.block mb (Array.getElem?_eq_some_iff.1 hm).1).trans hm)
  have hrg0 := hrg w (Gr.refl w)
  have hu' : ∀ x ∈ F.op, ∀ y ∈ F.op, (x.2.kind == 7 && x.2.works == works) = true → (y.2.kind == 7 && y.2.works == works) = true → x = y := fun x hx y hy e1 e2 => by
    simp only [Bool.and_eq_true, beq_iff_eq] at e1 e2
    exact hu x hx y hy (by rw [e1.2]; exact hw) (e1.2.trans e2.2.symm)
  have HU := hid hu'
  clear h hr hu hu' hrg
  refine retE ?_
  go_enter Tryz.func184, Tryz.ntmps184
  go_wp2_with fail
  go_loopw [] (fun wr => ∃ seen : Array Nat, Gr w wr ∧ wr.heap[w.heap.size]? = some (.mapIter (some mb) clock seen clock) ∧ ∀ x ∈ F.op, ∀ e ∈ es.toList, e.key = .int .i64 x.1 → e.val = opV x.2 → seen.contains e.born = true → (x.2.kind == 7 && x.2.works == works) = false) (fun wr => (leftOf es (wr.iterSeen w.heap.size)).size)
  case atStart => exact ⟨#[], (Gr.refl w).alloc _, heap_alloc_new w _, fun _ _ _ _ _ _ hc => by simp at hc⟩
  case round =>
    obtain ⟨seen, hg, hit, hno⟩ := hrel
    have HSN := hid (iterSeen_of hit)
    rcases iter_step (P := Tryz.prog) hit hm hst (Nat.le_refl _) hg with ⟨h0, hnx⟩ | ⟨e, he, W2, hg2, hit2, hnx, hen⟩
    · have HF := hid (show ofF F.op works = 0 from find_no (p := fun o => o.kind == 7 && o.works == works) fun x hx => by
        obtain ⟨e, he, e1, e2⟩ := he2 x hx
        exact hno x hx e he e1 e2 (all_seen es seen h0 e he))
      clear hno
      go_wp2_with fail
      go_ret
      exact ⟨by rw [HF.out]; rfl, hg⟩
    · obtain ⟨x, hx, ek, ev⟩ := he1 e (mem_left he).1
      have HNO := hid hno
      have HIT := hid hit2
      have HE := hid he
      have HEK := hid (show e.key = .int .i64 x.1 ∧ e.val = opV x.2 from ⟨ek, ev⟩)
      rw [ek, ev] at hnx hen
      clear hno hit hit2 he ek ev
      rcases x with ⟨q, o⟩
      rcases o with ⟨xk, xi, xw⟩
      simp only [opV] at hnx hen
      have hlt2 : w.heap.size < W2.heap.size := (Array.getElem?_eq_some_iff.1 HIT.out).1
      have last : (xk == 7 && xw == works) = false → ∃ seen' : Array Nat, seen' = seen.push e.born ∧ ∀ x ∈ F.op, ∀ e ∈ es.toList, e.key = .int .i64 x.1 → e.val = opV x.2 → seen'.contains e.born = true → (x.2.kind == 7 && x.2.works == works) = false := fun hne => by
        refine ⟨_, rfl, fun y hy e' he' e1 e2 hc => ?_⟩
        rw [contains_push] at hc
        rcases Bool.or_eq_true _ _ ▸ hc with h1 | h1
        · exact HNO.out y hy e' he' e1 e2 h1
        · have : e' = e := born_inj hst.2.1 he' (mem_left HE.out).1 (beq_iff_eq.1 h1)
          subst this
          rw [HEK.out.2] at e2
          unfold opV at e2
          injection e2 with e2
          injection e2 with e2
          injection e2 with e3 e2
          injection e2 with e5 e2
          injection e2 with e4 e2
          injection e3 with _ e3
          injection e4 with _ e4
          rw [← e3, ← e4]; exact hne
      have LAST := hid last
      clear last
      by_cases hk1 : xk = 7
      · by_cases hi1 : xw = works
        · subst hk1 hi1
          have HF := hid (show ofF F.op xw = q from find_one (p := fun o => o.kind == 7 && o.works == xw) HU.out hx (by simp))
          go_wp2_with fail
          go_ret
          exact ⟨by rw [HF.out]; rfl, hg2.alloc _⟩
        · subst hk1
          go_wp2_with fail
          go_roundw
          case rel =>
            obtain ⟨_, rfl, hl⟩ := LAST.out (by simp [hi1])
            refine ⟨_, ?_, ?_, hl⟩
            · exact hg2.alloc _
            · exact (((Gr.refl _).alloc _).block _ hlt2).trans HIT.out
          case measure =>
            rw [HSN.out, iterSeen_of (show (W2.alloc _).heap[w.heap.size]? = _ from (((Gr.refl _).alloc _).block _ hlt2).trans HIT.out)]
            exact left_shrinks es seen e HE.out
      · go_wp2_with fail
        go_roundw
        case rel =>
          obtain ⟨_, rfl, hl⟩ := LAST.out (by simp [hk1])
          refine ⟨_, ?_, ?_, hl⟩
          · exact hg2.alloc _
          · exact (((Gr.refl _).alloc _).block _ hlt2).trans HIT.out
        case measure =>
          rw [HSN.out, iterSeen_of (show (W2.alloc _).heap[w.heap.size]? = _ from (((Gr.refl _).alloc _).block _ hlt2).trans HIT.out)]
          exact left_shrinks es seen e HE.out
end Go.Proofs.YtniknicnnaiilaaGreat
end
