/- Lemmas: what the functions of the engine answer, and which blocks they write. -/
import Derived.Test.YtniknicnnaiilaaGreatX12
import Derived.Test.YtniknicnnaiilaaGreatX18
section
namespace Go.Proofs.YtniknicnnaiilaaGreat
set_option maxRecDepth 100000
open Go.RowKit Go.Ext Go.BigFrame Go.Maps Go.MapKept
attribute [local go_sem] Ext.cell Ext.frozen Ext.lt Ext.le s1 s2 s3 s4 s5 s6 t1 t2 t3 t4 t5 t6
attribute [local go_sem ↓] Go.wp_at_zero Go.wp_at_succ
structure Hl (F G : FS) : Prop where
  id : G.id = F.id
  run : G.run = F.run
  l : F.l <+: G.l
theorem Hl.refl (F : FS) : Hl F F := ⟨rfl, rfl, List.prefix_refl _⟩
theorem Hl.trans {F G H : FS} (h : Hl F G) (k : Hl G H) : Hl F H := ⟨k.id.trans h.id, k.run.trans h.run, h.l.trans k.l⟩
theorem hl_put (F : FS) (e : Ev) : Hl F (putF F e) := ⟨(putF_id F e).1, (putF_id F e).2, by rw [putF_l]; exact List.prefix_append _ _⟩
theorem hl_of {F G : FS} (e : Ev) (h : G = putF F e) : Hl F G := h ▸ hl_put F e
theorem hl_sched (F : FS) (now : Int) : Hl F (scheduleF F now).1 := hl_of ⟨2, now, 0, 0, F.list, F.turn, []⟩ rfl
theorem hl_wake (F : FS) (now : Int) : Hl F (wakeF F now).1 := by
  unfold wakeF
  split
  · exact hl_sched F now
  · exact Hl.refl _
theorem hl_pw (F : FS) (e : Ev) (now : Int) : Hl F (ok (wakeF (putF F e) now)).1 := (hl_put F e).trans (hl_wake _ now)
theorem hl_close (F : FS) (k : Int) (data : List UInt8) (now : Int) : Hl F (closeF F k data now).1 := hl_of ⟨k, now, 0, 0, 0, 0, data⟩ rfl
theorem hl_done (F : FS) (d : Dec) (now : Int) : Hl F (doneF F d now).1 := by
  unfold doneF
  split
  · exact hl_of ⟨7, now, 0, d.id, d.list, d.n, d.data⟩ rfl
  split
  · exact hl_of ⟨12, now, 0, d.id, d.list, d.n, d.data⟩ rfl
  split
  · exact hl_of ⟨17, now, 0, d.id, d.list, d.n, d.data⟩ rfl
  split
  · exact hl_of ⟨14, now, findF F.op 12 d.id, d.id, d.list, d.n, d.data⟩ rfl
  · exact hl_close _ _ _ _
theorem hl_faulty (F : FS) (n now : Int) : Hl F (faultyF F n now).1 := (hl_put F ⟨6, now, F.begun, 0, 0, n, []⟩).trans (hl_sched _ now)
theorem hl_dones (now : Int) : ∀ (l : List Dec) (x : FS × List Out), Hl x.1 (donesF now x l).1
  | [], _ => Hl.refl _
  | d :: r, x => (hl_done x.1 d now).trans (hl_dones now r ((doneF x.1 d now).1, x.2 ++ (doneF x.1 d now).2))
theorem hl_try {data : List UInt8} {now : Int} {act : FS → FR} {F : FS} (h : Hl F (act F).1) : Hl F (tryF F data now act).1 := by
  unfold tryF
  repeat' split
  all_goals first | exact Hl.refl _ | exact h
theorem hl_ends (kind ref : Int) (data : List UInt8) (now : Int) (F : FS) : Hl F (endsF kind ref data now F).1 := by
  unfold endsF
  repeat' split
  all_goals first | exact Hl.refl _ | exact hl_pw _ _ _
theorem hl_decide (ref turn : Int) (l : List Dec) (now : Int) (F : FS) : Hl F (decideD ref turn l now F).1 := by
  unfold decideD
  split
  · exact Hl.refl _
  split
  · exact hl_faulty _ _ _
  split
  · exact hl_faulty _ _ _
  split
  · exact ((hl_put F ⟨4, now, F.begun, 0, 0, 0, []⟩).trans (hl_dones now l (putF F ⟨4, now, F.begun, 0, 0, 0, []⟩, []))).trans (hl_sched _ now)
  · exact (hl_put F ⟨4, now, F.begun, 0, 0, 0, []⟩).trans (hl_dones now l (putF F ⟨4, now, F.begun, 0, 0, 0, []⟩, []))
theorem hl_fire (F : FS) (kind ref turn now : Int) : Hl F (fireF F kind ref turn now).1 := by
  unfold fireF
  split
  · refine hl_try ?_
    unfold missedD
    split
    · exact Hl.refl _
    · exact (hl_put F ⟨5, now, F.begun, 0, 0, 0, []⟩).trans (hl_sched _ now)
  split
  · refine hl_try ?_
    unfold lapsedD
    split
    · exact Hl.refl _
    · exact hl_ends _ _ _ _ _
  split
  · refine hl_try ?_
    unfold firedD
    repeat' split
    all_goals first | exact Hl.refl _ | exact hl_pw _ _ _
  · exact Hl.refl _
theorem hl_childEnds (F : FS) (id status : Int) (data : List UInt8) (now : Int) : Hl F (childEndsF F id status data now).1 := by
  unfold childEndsF
  split
  · exact Hl.refl _
  refine hl_try ?_
  unfold childEndsD
  repeat' split
  all_goals first | exact Hl.refl _ | exact hl_pw _ _ _
theorem hl_give (d : Bool) (t : Task) (now : Int) (F : FS) : Hl F (giveD d t now F).1 := by
  unfold giveD decidesF worksF
  cases d
  · refine hl_try ?_
    unfold worksD
    split
    · exact Hl.refl _
    split
    · exact Hl.refl _
    · rename_i a _
      exact hl_of ⟨8, now, t.ref, a.id, 0, 0, []⟩ rfl
  · refine hl_try ?_
    unfold decidesD
    split
    · exact Hl.refl _
    · exact hl_of ⟨3, now, t.ref, 0, 0, 0, []⟩ rfl
theorem hl_ask (sh : Int → Int) (E : ES) (c : Call) (F : FS) : Hl F (askE sh E c F).1 := by
  unfold askE signalF cancelF terminateF decideF workedF
  split
  · exact hl_try (hl_pw _ _ _)
  split
  · refine hl_try ?_
    unfold cancelD
    split
    · exact Hl.refl _
    · exact hl_pw _ _ _
  split
  · exact hl_try (hl_close F 23 c.data E.now)
  split
  · exact hl_try (hl_decide _ _ _ _ _)
  · exact hl_try (hl_ends _ _ _ _ _)
def KA (l : List Ev) (i k : Int) : Prop := 1 ≤ i ∧ i ≤ l.length ∧ ∃ e, l[(i - 1).toNat]? = some e ∧ e.kind = k
theorem KA.app {l : List Ev} {i k : Int} (h : KA l i k) (m : List Ev) : KA (l ++ m) i k := by
  obtain ⟨h1, h2, e, h3, h4⟩ := h
  refine ⟨h1, by rw [List.length_append]; omega, e, ?_, h4⟩
  rw [List.getElem?_append_left (by omega)]
  exact h3
theorem KA.last (l : List Ev) (e : Ev) : KA (l ++ [e]) ((l.length : Int) + 1) e.kind := by
  refine ⟨by omega, by simp, e, ?_, rfl⟩
  rw [show ((l.length : Int) + 1 - 1).toNat = l.length by omega]
  simp
theorem KA.one {l : List Ev} {i k k' : Int} (h : KA l i k) (h' : KA l i k') : k = k' := by
  obtain ⟨_, _, e, h3, h4⟩ := h
  obtain ⟨_, _, e', h3', h4'⟩ := h'
  rw [h3] at h3'
  injection h3' with h3'
  rw [← h4, ← h4', h3']
structure FJ (F : FS) : Prop where
  place : F.task ≠ 0 → KA F.l F.place 2
  k3 : ∀ e ∈ F.l, e.kind = 3 → KA F.l e.ref 2 ∧ e.ref ≤ F.place ∧ (F.task = 1 → e.ref < F.place)
  k8 : ∀ e ∈ F.l, e.kind = 8 → KA F.l e.ref 7 ∧ ∀ o, (e.ref, o) ∈ F.op → o.works ≠ 0
theorem FJ.sub {F F' : FS} {e : Ev} (h : FJ F) (hl : F'.l = F.l ++ [e]) (ho : F'.op.Sublist F.op) (hp : F'.place = F.place) (ht : F'.task = F.task ∨ F'.task = 0) (h3 : e.kind ≠ 3) (h8 : e.kind ≠ 8) : FJ F' := by
  refine ⟨fun hk => ?_, fun x hx hk => ?_, fun x hx hk => ?_⟩
  · rcases ht with ht | ht
    · rw [hl, hp]; exact (h.place (by rw [← ht]; exact hk)).app _
    · exact absurd ht hk
  · rw [hl] at hx
    rcases List.mem_append.1 hx with hx | hx
    · obtain ⟨a, b, c⟩ := h.k3 x hx hk
      rw [hl, hp]
      refine ⟨a.app _, b, fun e1 => ?_⟩
      rcases ht with ht | ht
      · exact c (ht ▸ e1)
      · omega
    · simp only [List.mem_singleton] at hx
      subst hx
      exact absurd hk h3
  · rw [hl] at hx
    rcases List.mem_append.1 hx with hx | hx
    · obtain ⟨a, b⟩ := h.k8 x hx hk
      rw [hl]
      exact ⟨a.app _, fun o ho' => b o (ho.subset ho')⟩
    · simp only [List.mem_singleton] at hx
      subst hx
      exact absurd hk h8
theorem FJ.put {F : FS} {e : Ev} (h : FJ F) (h3 : e.kind = 3 → F.task = 1 ∧ e.ref = F.place) (h8 : e.kind = 8 → KA F.l e.ref 7 ∧ (F.op.map (·.1)).Nodup) : FJ (putF F e) := by
  unfold putF
  refine iteInduction (motive := FJ) (fun hc => ?_) (fun hc1 => ?_)
  · exact h.sub (e := e) rfl (List.Sublist.refl _) rfl (.inl rfl) (by omega) (by omega)
  refine iteInduction (motive := FJ) (fun hc => ?_) (fun hc2 => ?_)
  · refine ⟨fun _ => ?_, fun x hx hk => ?_, fun x hx hk => ?_⟩
    · have := KA.last F.l e
      rw [hc] at this
      exact this
    · rcases List.mem_append.1 hx with hx | hx
      · have a := (h.k3 x hx hk).1
        have := a.2.1
        refine ⟨a.app _, ?_, fun _ => ?_⟩
        · simp only [atF]; omega
        · simp only [atF]; omega
      · simp only [List.mem_singleton] at hx
        subst hx
        omega
    · rcases List.mem_append.1 hx with hx | hx
      · obtain ⟨a, b⟩ := h.k8 x hx hk
        exact ⟨a.app _, b⟩
      · simp only [List.mem_singleton] at hx
        subst hx
        omega
  refine iteInduction (motive := FJ) (fun hc => ?_) (fun hc3 => ?_)
  · obtain ⟨ht, hr⟩ := h3 hc
    have hp := h.place (by omega)
    refine ⟨fun _ => hp.app _, fun x hx hk => ?_, fun x hx hk => ?_⟩
    · rcases List.mem_append.1 hx with hx | hx
      · obtain ⟨a, b, _⟩ := h.k3 x hx hk
        exact ⟨a.app _, b, fun e1 => by simp at e1⟩
      · simp only [List.mem_singleton] at hx
        subst hx
        refine ⟨?_, by rw [hr]; simp, fun e1 => by simp at e1⟩
        rw [hr]
        exact hp.app _
    · rcases List.mem_append.1 hx with hx | hx
      · obtain ⟨a, b⟩ := h.k8 x hx hk
        exact ⟨a.app _, b⟩
      · simp only [List.mem_singleton] at hx
        subst hx
        omega
  refine iteInduction (motive := FJ) (fun hc => ?_) (fun hc4 => ?_)
  · exact h.sub (e := e) rfl (List.Sublist.refl _) rfl (.inr rfl) (by omega) (by omega)
  refine iteInduction (motive := FJ) (fun hc => ?_) (fun hc5 => ?_)
  · exact h.sub (e := e) rfl (List.Sublist.refl _) rfl (.inr rfl) (by omega) (by omega)
  refine iteInduction (motive := FJ) (fun hc => ?_) (fun hc7 => ?_)
  · have hb : FJ { F with l := F.l ++ [e] } := h.sub (e := e) rfl (List.Sublist.refl _) rfl (.inl rfl) (by omega) (by omega)
    refine ⟨hb.place, hb.k3, fun x hx hk => ?_⟩
    obtain ⟨a, b⟩ := hb.k8 x hx hk
    refine ⟨a, fun o ho => ?_⟩
    rcases mem_up ho with e1 | ho
    · injection e1 with e1 _
      rcases List.mem_append.1 hx with hx | hx
      · have := (h.k8 x hx hk).1.2.1
        unfold atF at e1
        omega
      · simp only [List.mem_singleton] at hx
        subst hx
        omega
    · exact b o ho
  refine iteInduction (motive := FJ) (fun hc => ?_) (fun hc8 => ?_)
  · obtain ⟨ha, hn⟩ := h8 hc
    refine ⟨fun hk => (h.place hk).app _, fun x hx hk => ?_, fun x hx hk => ?_⟩
    · rcases List.mem_append.1 hx with hx | hx
      · obtain ⟨a, b, c⟩ := h.k3 x hx hk
        exact ⟨a.app _, b, c⟩
      · simp only [List.mem_singleton] at hx
        subst hx
        omega
    · have hw : ∀ o, (x.ref, o) ∈ up F.op e.ref ⟨7, e.id, atF F⟩ → (∀ o, (x.ref, o) ∈ F.op → x.ref ≠ e.ref → o.works ≠ 0) → o.works ≠ 0 := fun o ho hold => by
        rcases mem_up_ne hn ho with e1 | ⟨ho, hne⟩
        · injection e1 with _ e1
          rw [e1]
          simp only [atF]
          omega
        · exact hold o ho hne
      rcases List.mem_append.1 hx with hx | hx
      · obtain ⟨a, b⟩ := h.k8 x hx hk
        exact ⟨a.app _, fun o ho => hw o ho fun o ho _ => b o ho⟩
      · simp only [List.mem_singleton] at hx
        subst hx
        exact ⟨ha.app _, fun o ho => hw o ho fun o ho hne => absurd rfl hne⟩
  refine iteInduction (motive := FJ) (fun hc => ?_) (fun hc9 => ?_)
  · exact h.sub (e := e) rfl (rm_sub _ _) rfl (.inl rfl) (by omega) (by omega)
  refine iteInduction (motive := FJ) (fun hc => ?_) (fun hc10 => ?_)
  · exact h.sub (e := e) rfl (rm_sub _ _) rfl (.inl rfl) (by omega) (by omega)
  refine iteInduction (motive := FJ) (fun hc => ?_) (fun hc11 => ?_)
  · exact h.sub (e := e) rfl (rm_sub _ _) rfl (.inl rfl) (by omega) (by omega)
  refine iteInduction (motive := FJ) (fun hc => ?_) (fun hc12 => ?_)
  · exact h.sub (e := e) rfl (rm_sub _ _) rfl (.inl rfl) (by omega) (by omega)
  refine iteInduction (motive := FJ) (fun hc => ?_) (fun hc13 => ?_)
  · exact h.sub (e := e) rfl (List.Sublist.refl _) rfl (.inl rfl) (by omega) (by omega)
  · exact h.sub (e := e) rfl (List.nil_sublist _) rfl (.inr rfl) (by omega) (by omega)
theorem FJ.plain {F : FS} {e : Ev} (h : FJ F) (h3 : e.kind ≠ 3) (h8 : e.kind ≠ 8) : FJ (putF F e) := h.put (fun e => absurd e h3) (fun e => absurd e h8)
theorem fj_of {F G : FS} (e : Ev) (h : FJ F) (hG : G = putF F e) (h3 : e.kind ≠ 3) (h8 : e.kind ≠ 8) : FJ G := hG ▸ h.plain h3 h8
theorem fj_schedule {F : FS} (h : FJ F) (now : Int) : FJ (scheduleF F now).1 := fj_of ⟨2, now, 0, 0, F.list, F.turn, []⟩ h rfl (by dsimp only; omega) (by dsimp only; omega)
theorem fj_wake {F : FS} (h : FJ F) (now : Int) : FJ (wakeF F now).1 := by
  unfold wakeF
  split
  · exact fj_schedule h now
  · exact h
theorem fj_done {F : FS} (h : FJ F) (d : Dec) (now : Int) : FJ (doneF F d now).1 := by
  unfold doneF
  split
  · exact fj_of ⟨7, now, 0, d.id, d.list, d.n, d.data⟩ h rfl (by dsimp only; omega) (by dsimp only; omega)
  split
  · exact fj_of ⟨12, now, 0, d.id, d.list, d.n, d.data⟩ h rfl (by dsimp only; omega) (by dsimp only; omega)
  split
  · exact fj_of ⟨17, now, 0, d.id, d.list, d.n, d.data⟩ h rfl (by dsimp only; omega) (by dsimp only; omega)
  split
  · exact fj_of ⟨14, now, findF F.op 12 d.id, d.id, d.list, d.n, d.data⟩ h rfl (by dsimp only; omega) (by dsimp only; omega)
  · have : closeK d.kind ≠ 3 ∧ closeK d.kind ≠ 8 := by
      unfold closeK
      repeat' split
      all_goals omega
    exact fj_of ⟨closeK d.kind, now, 0, 0, 0, 0, d.data⟩ h rfl this.1 this.2
theorem fj_pw {F : FS} (e : Ev) (now : Int) (h : FJ F) (h3 : e.kind ≠ 3) (h8 : e.kind ≠ 8) : FJ (ok (wakeF (putF F e) now)).1 := fj_wake (h.plain h3 h8) now
theorem fj_ps {F : FS} (e : Ev) (now : Int) (h : FJ F) (h3 : e.kind ≠ 3) (h8 : e.kind ≠ 8) : FJ (scheduleF (putF F e) now).1 := fj_schedule (h.plain h3 h8) now
theorem fj_dones (now : Int) : ∀ (l : List Dec) (x : FS × List Out), FJ x.1 → FJ (donesF now x l).1
  | [], _, h => h
  | d :: r, x, h => fj_dones now r ((doneF x.1 d now).1, x.2 ++ (doneF x.1 d now).2) (fj_done h d now)
theorem fj_try {data : List UInt8} {now : Int} {act : FS → FR} {F : FS} (h : FJ F) (h' : FJ (act F).1) : FJ (tryF F data now act).1 := by
  unfold tryF
  repeat' split
  all_goals first | exact h | exact h'
theorem fj_ends {kind ref : Int} {data : List UInt8} {now : Int} {F : FS} (hk : kind = 9 ∨ kind = 10 ∨ kind = 11) (h : FJ F) : FJ (endsF kind ref data now F).1 := by
  unfold endsF
  repeat' split
  all_goals first | exact h | exact fj_pw _ _ h (by dsimp only; omega) (by dsimp only; omega)
theorem fj_decide (ref turn : Int) (l : List Dec) (now : Int) {F : FS} (h : FJ F) : FJ (decideD ref turn l now F).1 := by
  unfold decideD
  split
  · exact h
  split
  · exact fj_ps ⟨6, now, F.begun, 0, 0, 1, []⟩ now h (by dsimp only; omega) (by dsimp only; omega)
  split
  · exact fj_ps ⟨6, now, F.begun, 0, 0, 2, []⟩ now h (by dsimp only; omega) (by dsimp only; omega)
  have h4 : FJ (putF F ⟨4, now, F.begun, 0, 0, 0, []⟩) := h.plain (by dsimp only; omega) (by dsimp only; omega)
  split
  · exact fj_schedule (fj_dones now l (putF F ⟨4, now, F.begun, 0, 0, 0, []⟩, []) h4) now
  · exact fj_dones now l (putF F ⟨4, now, F.begun, 0, 0, 0, []⟩, []) h4
theorem fj_fire {F : FS} (h : FJ F) (kind ref turn now : Int) : FJ (fireF F kind ref turn now).1 := by
  unfold fireF
  split
  · refine fj_try h ?_
    unfold missedD
    split
    · exact h
    · exact fj_ps ⟨5, now, F.begun, 0, 0, 0, []⟩ now h (by dsimp only; omega) (by dsimp only; omega)
  split
  · refine fj_try h ?_
    unfold lapsedD
    split
    · exact h
    · exact fj_ends (.inr (.inr rfl)) h
  split
  · refine fj_try h ?_
    unfold firedD
    repeat' split
    all_goals first | exact h | exact fj_pw _ _ h (by dsimp only; omega) (by dsimp only; omega)
  · exact h
theorem fj_childEnds {F : FS} (h : FJ F) (id status : Int) (data : List UInt8) (now : Int) : FJ (childEndsF F id status data now).1 := by
  unfold childEndsF
  split
  · exact h
  refine fj_try h ?_
  unfold childEndsD
  repeat' split
  all_goals first | exact h | exact fj_pw _ _ h (by dsimp only; omega) (by dsimp only; omega)
theorem wants_op {F : FS} {ref : Int} (h : wantsF F ref (-1) = true) : ∃ o, (ref, o) ∈ F.op ∧ o.kind = 7 ∧ o.works = 0 := by
  unfold wantsF at h
  rw [if_pos rfl] at h
  cases hx : lk F.op ref with
  | none => rw [hx] at h; cases h
  | some x =>
    rw [hx] at h
    simp only [Bool.and_eq_true, beq_iff_eq] at h
    exact ⟨x, lk_mem hx, h.1, h.2⟩
theorem FI.ka {F : FS} (h : FI F) {ref : Int} {o : Opn} (ho : (ref, o) ∈ F.op) : KA F.l ref o.kind := by
  obtain ⟨h1, h2, _, _, _, e, h6, h7, _⟩ := h.keys _ ho
  exact ⟨h1, h2, e, h6, h7⟩
theorem fj_give {F : FS} (hF : FOk F) (h : FJ F) (d : Bool) (t : Task) (now : Int) : FJ (giveD d t now F).1 := by
  unfold giveD decidesF worksF
  cases d
  · refine fj_try h ?_
    unfold worksD
    split
    · exact h
    · rename_i hw
      split
      · exact h
      · obtain ⟨o, ho, hk, _⟩ := wants_op (by simpa using hw)
        exact h.put (e := ⟨8, now, t.ref, _, 0, 0, []⟩) (fun e => by simp at e) (fun _ => ⟨hk ▸ hF.i.ka ho, hF.i.nodup⟩)
  · refine fj_try h ?_
    unfold decidesD
    split
    · exact h
    · rename_i hw
      simp only [not_or, Bool.not_eq_false] at hw
      obtain ⟨h0, hw⟩ := hw
      unfold wantsF at hw
      rw [if_neg (by omega)] at hw
      simp only [Bool.and_eq_true, beq_iff_eq] at hw
      exact h.put (e := ⟨3, now, t.ref, 0, 0, 0, []⟩) (fun _ => ⟨hw.1.1, hw.1.2.symm⟩) (fun e => by simp at e)
theorem fj_ask (sh : Int → Int) (E : ES) (c : Call) {F : FS} (h : FJ F) : FJ (askE sh E c F).1 := by
  unfold askE signalF cancelF terminateF decideF workedF
  split
  · exact fj_try h (fj_pw _ _ h (by dsimp only; omega) (by dsimp only; omega))
  split
  · refine fj_try h ?_
    unfold cancelD
    split
    · exact h
    · exact fj_pw _ _ h (by dsimp only; omega) (by dsimp only; omega)
  split
  · exact fj_try h (fj_of ⟨23, E.now, 0, 0, 0, 0, c.data⟩ h rfl (by dsimp only; omega) (by dsimp only; omega))
  split
  · exact fj_try h (fj_decide _ _ _ _ h)
  · exact fj_try h (fj_ends (by split <;> simp) h)
theorem fj_new {id run list n now : Int} {data : List UInt8} {F : FS} {os : List Out} (h : newF id run list n data now = some (F, os)) : FJ F := by
  unfold newF at h
  split at h
  · injection h with h
    have e1 : F = (scheduleF (putF (f0 id run) ⟨1, now, 0, 0, list, n, data⟩) now).1 := by rw [h]
    rw [e1]
    have h0 : FJ (f0 id run) := ⟨fun e => absurd rfl e, fun x hx => (by cases hx), fun x hx => (by cases hx)⟩
    exact fj_schedule (h0.plain (by dsimp only; omega) (by dsimp only; omega)) _
  · cases h
structure Gro (E E' : ES) : Prop where
  g : ∀ id r, lk E.runs id = some r → ∃ r', lk E'.runs id = some r' ∧ (r.f.run < r'.f.run ∨ Hl r.f r'.f)
  j : EOk E → (∀ x ∈ E.runs, FJ x.2.f) → ∀ x ∈ E'.runs, FJ x.2.f
theorem Gro.refl (E : ES) : Gro E E := ⟨fun _ r h => ⟨r, h, .inr (Hl.refl _)⟩, fun _ h => h⟩
theorem Gro.same {E E' : ES} (h : E'.runs = E.runs) : Gro E E' := ⟨fun _ r hr => ⟨r, h ▸ hr, .inr (Hl.refl _)⟩, fun _ j => h ▸ j⟩
theorem Gro.trans {E E' E'' : ES} (h : Gro E E') (k : Gro E' E'') (ok : EOk E → EOk E') : Gro E E'' := by
  refine ⟨fun id r hr => ?_, fun e j => k.j (ok e) (h.j e j)⟩
  obtain ⟨r', h1, h2⟩ := h.g id r hr
  obtain ⟨r'', k1, k2⟩ := k.g id r' h1
  refine ⟨r'', k1, ?_⟩
  rcases h2 with h2 | h2 <;> rcases k2 with k2 | k2
  · exact .inl (by omega)
  · exact .inl (by rw [k2.run]; exact h2)
  · exact .inl (by rw [← h2.run]; exact k2)
  · exact .inr (h2.trans k2)
theorem gro_run {E : ES} {id : Int} {r' : RunS} (hg : ∀ r, lk E.runs id = some r → r.f.run < r'.f.run ∨ Hl r.f r'.f) (hj : EOk E → (∀ x ∈ E.runs, FJ x.2.f) → FJ r'.f) : Gro E { E with runs := up E.runs id r' } := by
  refine ⟨fun q r hr => ?_, fun e j x hx => ?_⟩
  · by_cases hq : q = id
    · subst hq
      exact ⟨r', lk_up_same _ _ _, hg r hr⟩
    · exact ⟨r, (lk_up_other _ _ hq).trans hr, .inr (Hl.refl _)⟩
  · rcases mem_up hx with rfl | hx
    · exact hj e j
    · exact j x hx
theorem gro_begin {E E' : ES} {id list n pf pr now k : Int} {data : List UInt8} (h : beginF E id list n data pf pr now = some (E', k)) : Gro E E' := by
  unfold beginF at h
  simp only at h
  split at h
  · cases h
  · rename_i f os hn
    obtain ⟨E1, h1, h2⟩ := Option.map_eq_some_iff.1 h
    injection h2 with h2 _
    subst h2
    have ho := (FOk.new hn).2.2.1
    have a : Gro E { E with runs := up E.runs id ⟨f, pf, pr⟩ } := gro_run (fun r hr => by
      left
      rw [hr] at ho
      simp only at ho ⊢
      omega) (fun _ _ => fj_new hn)
    exact a.trans (.same (nx_outs0 h1).2) (nx_run (r := ⟨f, pf, pr⟩) (fun _ => ⟨(FOk.new hn).1, (FOk.new hn).2.1⟩)).ok
theorem gro_set {E : ES} {id : Int} {r : RunS} {f : FS} (hr : lk E.runs id = some r) (hl : Hl r.f f) (hj : FOk r.f → FJ r.f → FJ f) : Gro E { E with runs := up E.runs id { r with f := f } } :=
  gro_run (fun r' h' => by rw [hr] at h'; injection h' with h'; subst h'; exact .inr hl) (fun e j => hj (e.get hr).1 (j _ (lk_mem hr)))
theorem gro_ends {E E' : ES} {id now child status : Int} {data : List UInt8} (h : endsE E id now child status data = some E') : Gro E E' := by
  unfold endsE at h
  split at h
  · injection h with h; subst h; exact Gro.refl _
  · rename_i r hr
    simp only at h
    have g := good_childEnds child status data now
    split at h
    · have a := gro_set (f := (childEndsF r.f child status data now).1) hr (hl_childEnds _ _ _ _ _) (fun _ j => fj_childEnds j _ _ _ _)
      exact a.trans (.same (nx_outs0 h).2) (nx_run (r := { r with f := (childEndsF r.f child status data now).1 }) (fun e => ⟨(g.ok _ (e.get hr).1).1, (g.ok _ (e.get hr).1).2.1.trans (e.get hr).2⟩)).ok
    split at h
    · cases h
    · injection h with h; subst h; exact Gro.refl _
theorem gro_out {E E' : ES} {id n now : Int} {o : Out} (h : outE E id n now o = some E') : Gro E E' := by
  unfold outE at h
  split at h
  · exact .same (nx_out0 h).2
  split at h
  · unfold childE at h
    split at h
    · exact gro_ends h
    · obtain ⟨⟨E1, k⟩, h1, rfl⟩ := Option.map_eq_some_iff.1 h
      exact gro_begin h1
  have d : Gro E { E with due := dropD E.due id n } := .same rfl
  have dn : Nx 0 E { E with due := dropD E.due id n } := nx_due (fun e => dropD_srt e _ _) (Nat.le_trans (dropD_len _ _ _) (by omega))
  simp only at h
  split at h
  · cases h
  · rename_i r hr
    split at h
    · split at h
      · cases h
      · obtain ⟨⟨E1, k⟩, h1, rfl⟩ := Option.map_eq_some_iff.1 h
        exact d.trans (gro_begin h1) dn.ok
    · split at h
      · injection h with h; subst h; exact d
      · split at h
        · injection h with h; subst h; exact d
        · exact d.trans (gro_ends h) dn.ok
theorem gro_outs {id n now : Int} : ∀ {l : List Out} {E E' : ES}, outsE E id n now l = some E' → Gro E E'
  | [], E, E', h => by injection h with h; subst h; exact Gro.refl _
  | o :: r, E, E', h => by
    obtain ⟨E1, h1, h2⟩ := Option.bind_eq_some_iff.1 h
    exact (gro_out h1).trans (gro_outs h2) (nx_out h1).ok
theorem gro_change {E E' : ES} {id e : Int} {act : FS → FR} (g : GoodF act) (hl : ∀ F, Hl F (act F).1) (hj : ∀ F, FOk F → FJ F → FJ (act F).1) (h : changeE E id act = (e, some E')) : Gro E E' := by
  unfold changeE at h
  split at h
  · cases h
  · rename_i r hr
    simp only at h
    split at h
    · cases h
    · injection h with _ h
      have a := gro_set (f := (act r.f).1) hr (hl _) (hj _)
      exact a.trans (gro_outs h) (nx_run (r := { r with f := (act r.f).1 }) (fun e => ⟨(g.ok _ (e.get hr).1).1, (g.ok _ (e.get hr).1).2.1.trans (e.get hr).2⟩)).ok
theorem pop_runs (E : ES) (d : Bool) (list : Int) : (popE E d list).runs = E.runs := by cases d <;> rfl
theorem gro_give {E E' : ES} {d : Bool} {t : Task} {a : Ans} (h : giveE E d t = some (a, E')) : Gro E E' := by
  unfold giveE at h
  split at h
  · cases h
  · split at h
    · rename_i e E1 hc
      split at h
      · injection h with h
        injection h with _ h
        subst h
        exact gro_change (good_give _ _ _) (hl_give _ _ _) (fun _ a b => fj_give a b _ _ _) hc
      · cases h
    · cases h
theorem gro_pollL {d : Bool} {list : Int} : ∀ (l : List Task) (E : ES), Gro E (pollL d list E l).2
  | [], E => Gro.refl _
  | t :: r, E => by
    unfold pollL
    split
    · split
      · exact Gro.refl _
      · rename_i a E' h
        exact (gro_give h).trans (.same (pop_runs _ _ _)) (nx_give h).ok
    · exact Gro.trans (.same (pop_runs _ _ _)) (gro_pollL r _) nx_pop.ok
theorem gro_do {sh : Int → Int} {E E' : ES} {c : Call} {a : Ans} (h : doE sh E c = (a, some E')) : Gro E E' := by
  unfold doE at h
  split at h
  · unfold startE at h
    split at h
    · injection h with _ h; injection h with h; subst h; exact Gro.refl _
    · split at h
      · cases h
      · rename_i E1 n hb
        injection h with _ h; injection h with h; subst h
        exact gro_begin hb
  split at h
  · injection h with _ h; injection h with h; subst h; exact gro_pollL _ _
  split at h
  · injection h with _ h; injection h with h; subst h; exact Gro.refl _
  split at h
  · injection h with _ h; injection h with h; subst h; exact Gro.refl _
  split at h
  · injection h with _ h; injection h with h; subst h; exact Gro.refl _
  split at h
  · injection h with _ h; injection h with h; subst h; exact Gro.refl _
  · injection h with h1 h2
    exact gro_change (e := (changeE E (flowOfE c) (askE sh E c)).1) (good_ask sh E c) (hl_ask sh E c) (fun _ _ j => fj_ask sh E c j) (Prod.ext rfl h2)
theorem gro_call (sh : Int → Int) (E : ES) (c : Call) : Gro E (callE sh E c).2 := by
  unfold callE
  split
  · exact Gro.refl _
  · split
    · rename_i a E' h; exact gro_do h
    · exact Gro.refl _
theorem gro_fire {E E' : ES} {i : It} (h : fireE E i = some E') : Gro E E' := by
  unfold fireE at h
  split at h
  · injection h with h; subst h; exact Gro.refl _
  · rename_i r hr
    split at h
    · injection h with h; subst h; exact Gro.refl _
    · simp only at h
      have g := good_fire i.2.2.2.2.2 i.2.2.2.1 i.2.2.2.2.1 i.1
      split at h
      · have a := gro_set (f := (fireF r.f i.2.2.2.2.2 i.2.2.2.1 i.2.2.2.2.1 i.1).1) hr (hl_fire _ _ _ _ _) (fun _ j => fj_fire j _ _ _ _)
        exact a.trans (gro_outs h) (nx_run (r := { r with f := (fireF r.f i.2.2.2.2.2 i.2.2.2.1 i.2.2.2.2.1 i.1).1 }) (fun e => ⟨(g.ok _ (e.get hr).1).1, (g.ok _ (e.get hr).1).2.1.trans (e.get hr).2⟩)).ok
      split at h
      · cases h
      · injection h with h; subst h; exact Gro.refl _
theorem gro_tick (end_ : Int) : ∀ (n : Nat) (E : ES), Gro E (tickL end_ n E)
  | 0, E => Gro.refl _
  | n + 1, E => by
    unfold tickL
    split
    · exact Gro.refl _
    · rename_i i r hd
      split
      · exact Gro.refl _
      · have a : Nx 0 E { E with due := r } := nx_due (fun e => by rw [hd] at e; exact (List.pairwise_cons.1 e).2) (by rw [hd]; simp only [List.length_cons]; omega)
        have ga : Gro E { E with due := r } := .same rfl
        split
        · rename_i E1 h
          exact (ga.trans (gro_fire h) a.ok).trans (gro_tick end_ n E1) (fun e => (nx_fire h).1.ok (a.ok e))
        · have b : Nx 0 E { E with due := addD r (end_ + 1, i.2) } := nx_due (fun e => by rw [hd] at e; exact addD_srt (List.pairwise_cons.1 e).2 _) (by have := addD_len r (end_ + 1, i.2); rw [hd]; simp only [List.length_cons]; omega)
          have gb : Gro E { E with due := addD r (end_ + 1, i.2) } := .same rfl
          exact gb.trans (gro_tick end_ n _) b.ok
def Seen (E : ES) (t : Tok) : Prop := ∃ r, lk E.runs t.flow = some r ∧ (t.run < r.f.run ∨ (t.run = r.f.run ∧ ∃ e ∈ r.f.l, (e.kind = 3 ∨ e.kind = 8) ∧ e.ref = t.event))
theorem Seen.gro {E E' : ES} {t : Tok} (h : Seen E t) (g : Gro E E') : Seen E' t := by
  obtain ⟨r, hr, h⟩ := h
  obtain ⟨r', hr', h'⟩ := g.g _ r hr
  refine ⟨r', hr', ?_⟩
  rcases h with h | ⟨h, e, he, hk⟩ <;> rcases h' with h' | h'
  · exact .inl (by omega)
  · exact .inl (by rw [h'.run]; exact h)
  · exact .inl (by omega)
  · exact .inr ⟨h.trans h'.run.symm, e, h'.l.subset he, hk⟩
structure EJ (E : ES) : Prop where
  ok : EOk E
  j : ∀ x ∈ E.runs, FJ x.2.f
theorem EJ.gro {m : Nat} {E E' : ES} (h : EJ E) (n : Nx m E E') (g : Gro E E') : EJ E' := ⟨n.ok h.ok, g.j h.ok h.j⟩
theorem try_done {data : List UInt8} {now : Int} {act : FS → FR} {F : FS} (h : (tryF F data now act).2.2 = 0) : tryF F data now act = act F := by
  unfold tryF at h ⊢
  split at h
  · simp at h
  split at h
  · simp at h
  split at h
  · rename_i h3; exact absurd h h3.1
  split at h
  · simp at h
  · rename_i h1 h2 h3 h4
    rw [if_neg h1, if_neg h2, if_neg h3, if_neg h4]
theorem give_new {E E' : ES} {d : Bool} {t : Task} {a : Ans} (hE : EJ E) (hw : wantedE E t = true) (h : giveE E d t = some (a, E')) : a.given = true ∧ ¬ Seen E a.tok ∧ Seen E' a.tok := by
  unfold giveE at h
  split at h
  · cases h
  rename_i r hr
  unfold wantedE at hw
  rw [hr] at hw
  simp only [Bool.and_eq_true, beq_iff_eq] at hw
  obtain ⟨hrun, _⟩ := hw
  have hJ : FJ r.f := hE.j _ (lk_mem hr)
  have hI := (hE.ok.get hr).1.i
  split at h
  rotate_left
  · cases h
  rename_i e E1 hc
  split at h
  rotate_left
  · cases h
  rename_i he
  subst he
  injection h with h
  injection h with h1 h2
  subst h1 h2
  unfold changeE at hc
  rw [hr] at hc
  simp only at hc
  split at hc
  · cases hc
  rename_i hne
  injection hc with hc1 hc2
  have key : (d = false → wantsF r.f t.ref (-1) = true) ∧ (d = true → r.f.task = 1 ∧ r.f.place = t.ref) ∧ ∃ ev, (ev.kind = 3 ∨ ev.kind = 8) ∧ ev.ref = t.ref ∧ (giveD d t E.now r.f).1 = putF r.f ev := by
    have ht : giveD d t E.now r.f = (if d then decidesD t.ref t.turn E.now r.f else worksD t.ref E.now r.f) := by
      unfold giveD decidesF worksF at hc1 ⊢
      cases d
      · exact try_done hc1
      · exact try_done hc1
    rw [ht] at hc1 ⊢
    cases d
    · simp only [Bool.false_eq_true, if_false] at hc1 ⊢
      unfold worksD at hc1 ⊢
      split at hc1
      · simp at hc1
      · rename_i h1
        rw [if_neg h1]
        split at hc1
        · simp at hc1
        · exact ⟨fun _ => by simpa using h1, fun e => (by cases e), ⟨8, E.now, t.ref, _, 0, 0, []⟩, .inr rfl, rfl, rfl⟩
    · simp only [if_true] at hc1 ⊢
      unfold decidesD at hc1 ⊢
      split at hc1
      · simp at hc1
      · rename_i h1
        rw [if_neg h1]
        refine ⟨fun e => (by cases e), fun _ => ?_, ⟨3, E.now, t.ref, 0, 0, 0, []⟩, .inl rfl, rfl, rfl⟩
        simp only [not_or, Bool.not_eq_false] at h1
        obtain ⟨h0, hw⟩ := h1
        unfold wantsF at hw
        rw [if_neg (by omega)] at hw
        simp only [Bool.and_eq_true, beq_iff_eq] at hw
        exact hw.1
  obtain ⟨k1, k2, ev, hk, href, hput⟩ := key
  refine ⟨rfl, ?_, ?_⟩
  · rintro ⟨r', hr', h'⟩
    simp only [giveA] at hr' h'
    rw [hr] at hr'
    injection hr' with hr'
    subst hr'
    rcases h' with h' | ⟨_, e, he, hk, href⟩
    · omega
    · cases d
      · obtain ⟨o, ho, hk7, hwk⟩ := wants_op (k1 rfl)
        rcases hk with hk | hk
        · have a := (hJ.k3 e he hk).1
          rw [href] at a
          have := a.one (hI.ka ho)
          omega
        · have b := (hJ.k8 e he hk).2 o (by rw [href]; exact ho)
          exact b hwk
      · obtain ⟨ht, hp⟩ := k2 rfl
        rcases hk with hk | hk
        · have := (hJ.k3 e he hk).2.2 ht
          omega
        · have a := (hJ.k8 e he hk).1
          rw [href, ← hp] at a
          have := a.one (hJ.place (by omega))
          omega
  · have s1 : Seen { E with runs := up E.runs t.flow { r with f := (giveD d t E.now r.f).1 } } (giveA d t r.f).tok := by
      refine ⟨_, lk_up_same _ _ _, .inr ⟨?_, ev, ?_, hk, href⟩⟩
      · simp only [giveA]
        rw [(hl_give d t E.now r.f).run]
        exact hrun.symm
      · simp only [hput, putF_l]
        simp
    exact s1.gro (gro_outs hc2)
theorem pollL_new {d : Bool} {list : Int} : ∀ (l : List Task) (E : ES), EJ E → (pollL d list E l).1.given = true → ¬ Seen E (pollL d list E l).1.tok ∧ Seen (pollL d list E l).2 (pollL d list E l).1.tok
  | [], E, _, h => by simp [pollL, ans0] at h
  | t :: r, E, hE, h => by
    unfold pollL at h ⊢
    split
    · rename_i hw
      rw [if_pos hw] at h
      split
      · rename_i hg
        rw [hg] at h
        simp [ans0] at h
      · rename_i a E' hg
        obtain ⟨_, h2, h3⟩ := give_new hE hw hg
        exact ⟨h2, h3.gro (.same (pop_runs _ _ _))⟩
    · rename_i hw
      rw [if_neg hw] at h
      obtain ⟨h1, h2⟩ := pollL_new r (popE E d list) (hE.gro nx_pop (.same (pop_runs _ _ _))) h
      exact ⟨fun hs => h1 (hs.gro (.same (pop_runs _ _ _))), h2⟩
theorem call_new (sh : Int → Int) {E : ES} (c : Call) (hE : EJ E) (h : (callE sh E c).1.given = true) : ¬ Seen E (callE sh E c).1.tok ∧ Seen (callE sh E c).2 (callE sh E c).1.tok := by
  unfold callE at h ⊢
  split
  · rename_i hc
    rw [if_pos hc] at h
    simp [failA, ans0] at h
  rename_i hc
  rw [if_neg hc] at h
  obtain ⟨x, hx⟩ : ∃ x, doE sh E c = x := ⟨_, rfl⟩
  rw [hx] at h ⊢
  rcases x with ⟨a, E' | E'⟩
  · simp [failA, ans0] at h
  simp only at h ⊢
  unfold doE at hx
  split at hx
  · unfold startE at hx
    split at hx
    · injection hx with hx _; subst hx; simp [failA, ans0] at h
    · split at hx
      · cases hx
      · injection hx with hx _; subst hx; simp [ans0] at h
  split at hx
  · injection hx with h1 h2
    injection h2 with h2
    subst h1 h2
    exact pollL_new _ _ hE h
  split at hx
  · injection hx with hx _; subst hx; simp [failA, ans0] at h
  split at hx
  · injection hx with hx _; subst hx; simp [failA, ans0] at h
  split at hx
  · injection hx with hx _; subst hx; simp [ans0] at h
  split at hx
  · injection hx with hx _; subst hx; simp [ans0] at h
  · injection hx with hx _; subst hx; simp [failA, ans0] at h
theorem outs_any (PUT : PutAny) (k : Nat) (E : ES) (id now : Int) (l : List Out) (v : Value) (M S : Bl) (w : World) (h : EngR w M S k E) (hE : EOk E) (r : RunS) (hr : lk E.runs id = some r) (hl : RecsM outR w M v l) (hdue : E.due.length + l.length ≤ 999000) (hk : ∀ o ∈ l, 1 ≤ o.kind ∧ o.kind ≤ 8) :
    Calls Tryz.prog 77 #[.pointer (some ⟨k, 0, none⟩), .int .i64 id, .int .i64 now, v] w (RetS M S k (outsE E id r.f.run now l) (.bool true) vF w) := by
  rw [outsE_fold]
  exact outs_genQ (Has id) 999000 (by omega) k E id now l v M S w h hE r hr hl hdue ⟨r, hr⟩ (fun E o => outE E id r.f.run now o)
    (fun E E' o _ _ hq he => ⟨nx_out he, has_gro hq (fun id r hr => by obtain ⟨r', h1, _⟩ := (gro_out he).1 id r hr; exact ⟨r', h1⟩)⟩)
    (fun W M' S' E' o d ho heng hok hq hdl hd => by obtain ⟨r', hr'⟩ := hq; exact out_all PUT k E' id r.f.run now o d M' S' W heng hok hdl r' hr' hd (hk o ho))
def GoodK (act : FS → FR) : Prop := ∀ F, ∀ o ∈ (act F).2.1, 1 ≤ o.kind ∧ o.kind ≤ 8
theorem goodK_try {data : List UInt8} {now : Int} {act : FS → FR} (h : GoodK act) : GoodK (fun F => tryF F data now act) := by
  intro F
  show ∀ o ∈ (tryF F data now act).2.1, _
  unfold tryF
  repeat' split
  all_goals first | exact h F | simp
theorem goodK_one {act : FS → FR} (h : ∀ F, ∀ o ∈ (act F).2.1, o.kind = 1) : GoodK act := fun F o ho => by have := h F o ho; omega
theorem goodK_done (F : FS) (d : Dec) (now : Int) : ∀ o ∈ (doneF F d now).2, 1 ≤ o.kind ∧ o.kind ≤ 8 := by
  unfold doneF closeF
  intro o
  repeat' split
  all_goals first | (simp; done) | (simp only [List.mem_singleton]; rintro rfl; exact ⟨by dsimp only; omega, by dsimp only; omega⟩)
theorem goodK_dones (now : Int) : ∀ (l : List Dec) (x : FS × List Out), (∀ o ∈ x.2, 1 ≤ o.kind ∧ o.kind ≤ 8) → ∀ o ∈ (donesF now x l).2, 1 ≤ o.kind ∧ o.kind ≤ 8
  | [], _, h => h
  | d :: r, x, h => goodK_dones now r _ fun o ho => by
    rcases List.mem_append.1 ho with ho | ho
    · exact h o ho
    · exact goodK_done _ _ _ o ho
theorem sched_kind (F : FS) (now : Int) : ∀ o ∈ (scheduleF F now).2, 1 ≤ o.kind ∧ o.kind ≤ 8 := by
  intro o
  simp only [scheduleF, List.mem_singleton]
  rintro rfl
  exact ⟨by dsimp only; omega, by dsimp only; omega⟩
theorem goodK_decide (ref turn : Int) (l : List Dec) (now : Int) : GoodK (fun F => decideF F ref turn l now) := goodK_try fun F => by
  have hd := goodK_dones now l (putF F ⟨4, now, F.begun, 0, 0, 0, []⟩, []) (by simp)
  unfold decideD faultyF
  split
  · simp
  split
  · exact sched_kind (putF F ⟨6, now, F.begun, 0, 0, 1, []⟩) now
  split
  · exact sched_kind (putF F ⟨6, now, F.begun, 0, 0, 2, []⟩) now
  split
  · intro o ho
    rcases List.mem_append.1 ho with ho | ho
    · exact hd o ho
    · exact sched_kind _ now o ho
  · exact hd
theorem goodK_signal (data : List UInt8) (now : Int) : GoodK (fun F => signalF F data now) := goodK_try (goodK_one fun _ => ok_wake_kind _ _)
theorem goodK_cancel (now : Int) : GoodK (fun F => cancelF F now) := goodK_try (goodK_one fun F => by
  unfold cancelD
  split
  · simp
  · exact ok_wake_kind _ _)
theorem goodK_terminate (data : List UInt8) (now : Int) : GoodK (fun F => terminateF F data now) := goodK_try fun F => by
  simp [terminateD, closeF, ok]
theorem goodK_worked (ref : Int) (data : List UInt8) (good : Bool) (now : Int) : GoodK (fun F => workedF F ref data good now) := goodK_try (goodK_one fun _ => ends_kind _ _ _ _ _)
theorem goodK_give (d : Bool) (t : Task) (now : Int) : GoodK (giveD d t now) := by
  cases d
  · have h : GoodK (fun F => worksF F t.ref now) := goodK_try fun F => by
      unfold worksD
      repeat' split
      all_goals simp
    exact h
  · have h : GoodK (fun F => decidesF F t.ref t.turn now) := goodK_try fun F => by
      unfold decidesD
      repeat' split
      all_goals simp
    exact h
theorem goodK_ask (sh : Int → Int) (E : ES) (c : Call) : GoodK (askE sh E c) := fun F => by
  unfold askE
  split
  · exact goodK_signal _ _ F
  split
  · exact goodK_cancel _ F
  split
  · exact goodK_terminate _ _ F
  split
  · exact goodK_decide _ _ _ _ F
  · exact goodK_worked _ _ _ _ F
def RetC (M S X : Bl) (k : Nat) (R : Option ES) (vok : Value) (vfull : Value → Prop) (Q : World → Prop) (w : World) (en : Ending) (w2 : World) : Prop :=
  ∃ w4, Q w4 ∧ Mod X w w4 ∧ RetS M S k R vok vfull w4 en w2
def vC : Value → Prop := fun v => ∃ x, v = .tuple #[.int .i64 x, .bool true]
def RetQ (M : Bl) (k : Nat) (X : Bl) (x : FR) (Q : World → Prop) (w : World) (e : Ending) (w' : World) : Prop :=
  ∃ A c, e = .returned (.tuple #[.slice A x.2.1.length c, .int .i64 x.2.2]) ∧ FlowF w' M k x.1 ∧ RecsM outR w' M (.slice A x.2.1.length c) x.2.1 ∧ Mod (fun b => b = k ∨ X b) w w' ∧ Q w'
theorem modX {a w w' : World} {k : Nat} {X : Bl} (g : Gr a w) (m : Mod (fun b => b = k ∨ X b) w w') (hk : a.heap.size ≤ k) : Mod X a w' :=
  ⟨m.os.trans g.os, m.tape.trans g.tape, m.output.trans g.output, Nat.le_trans g.size m.size, fun b hb hx => (m.block b (Nat.lt_of_lt_of_le hb g.size) (fun e => by rcases e with e | e; omega; exact hx e)).trans (g.block b hb)⟩
end Go.Proofs.YtniknicnnaiilaaGreat
end
