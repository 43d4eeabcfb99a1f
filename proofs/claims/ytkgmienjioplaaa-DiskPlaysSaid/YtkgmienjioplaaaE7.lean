import Derived.Test.YtkgmienjioplaaaE6
namespace Go.Proofs.Ytkgmienjioplaaa
open Go.RowKit Go.Ext Go.BigFrame
attribute [local go_sem] Ext.cell Ext.frozen Ext.lt Ext.le s1 s2 s3 s4 s5 s6 t1 t2 t3 t4 t5 t6
attribute [local go_sem ↓] Go.wp_at_zero Go.wp_at_succ

/-- What can be told of a disk. -/
structure St where
  off : Bool
  armed : Int
  ks : List Bool
  K : List UInt8
  P : List Ent
  writes : Int

def stBad (S sz : Nat) (i : Int) (bs : List UInt8) : Prop := i < 0 ∨ (S : Int) ≤ i ∨ bs.length ≠ sz
instance (S sz : Nat) (i : Int) (bs : List UInt8) : Decidable (stBad S sz i bs) := by unfold stBad; infer_instance
def codeW (S sz : Nat) (s : St) (i : Int) (bs : List UInt8) : Int := if s.off = true then 5 else if stBad S sz i bs then 1 else if s.armed = 1 then 5 else 0
def stCut (sz : Nat) (s : St) (kt : List Bool) : St := ⟨true, 0, [], layF sz (fun j => kt.getD j false) s.K s.P s.P.length, [], s.writes⟩
def stW (S sz : Nat) (s : St) (i : Int) (bs : List UInt8) : St :=
  if s.off = true then s else if stBad S sz i bs then s else if s.armed = 1 then stCut sz s s.ks else ⟨false, less s.armed, s.ks, s.K, s.P ++ [(i, bs)], s.writes + 1⟩
def stS (sz : Nat) (s : St) : St := if s.off = true then s else ⟨false, s.armed, s.ks, layF sz (fun _ => true) s.K s.P s.P.length, [], s.writes⟩
def stA (s : St) (m : Int) (kt : List Bool) : St := ⟨s.off, if m < 1 then 1 else m, kt, s.K, s.P, s.writes⟩
def stO (s : St) : St := ⟨false, s.armed, s.ks, s.K, s.P, s.writes⟩

/-- The entries' bytes do not lie there. -/
def Av (ys : List Value) (q : Nat) : Prop := ∀ (j b off m c : Nat), ys[j]? = some (Value.slice (some ⟨b, off, none⟩) m c) → b ≠ q
/-- Our disk, beside another one whose sectors lie in rkb. -/
def Ours (base : Nat) (w : World) (g kb rkb S sz : Nat) (s : St) : Prop :=
  ∃ keep pend ys, DkAt base w g kb s.off s.armed keep S sz s.K s.P pend s.writes ∧ KeepAt base w keep s.ks ∧ w.ownsRow base 67 2 pend s.P.length ys ∧ Ents kb base w ys s.P ∧ Av ys rkb
/-- The document's disk, beside ours. -/
def Theirs (base : Nat) (w : World) (rg rkb kb S sz : Nat) (s : St) : Prop :=
  ∃ keep pend rks, RkAt base w rg rkb kb s.off s.armed keep S sz s.K s.P pend s.writes ∧ KeepAt base w keep rks ∧ (s.armed ≠ 0 → rks = s.ks)

/-- What our disk's calls turn; what the document's do. -/
def MO (base g kb : Nat) (w w' : World) : Prop := Mod (fun b => b = g ∨ b = kb ∨ (base ≤ b ∧ ∃ cs fz, w.heap[b]? = some (.cells cs 67 fz))) w w'
def MR (base rg rkb : Nat) (w w' : World) : Prop := Mod (fun b => b = rg ∨ b = rkb ∨ (base ≤ b ∧ ∃ cs fz, w.heap[b]? = some (.cells cs 77 fz))) w w'

section
variable {base : Nat} {w w' : World} {g kb rg rkb S sz : Nat} {s : St} {n : Nat}

theorem Byt.modT {T : Nat → TypeId → Bool} {R : Nat → Prop} {d : Value} {bs : List UInt8} (h : Byt T base w d bs) (m : Mod R w w') (hR : ∀ q, R q → ¬ Imm T base w q ∨ ∀ b off n c, d = .slice (some ⟨b, off, none⟩) n c → b ≠ q) : Byt T base w' d bs := by
  obtain ⟨A, c, rfl, hl, hr, hi, hn⟩ := h
  have keep : ∀ b off, A = some ⟨b, off, none⟩ → bs ≠ [] → w'.heap[b]? = w.heap[b]? := fun b off e hne => by
    obtain ⟨b', o', e', him⟩ := hi hne
    have hbb : b' = b := by rw [e] at e'; injection e' with e'; injection e' with e'; exact e'.symm
    subst hbb
    refine m.block b' him.1 (fun hq => ?_)
    rcases hR b' hq with h1 | h1
    · exact h1 him
    · exact h1 b' off _ _ (by rw [e]) rfl
  refine ⟨A, c, rfl, hl, fun hne => ?_, fun hb => ?_, hn⟩
  · have hbs : bs ≠ [] := by intro e; subst e; exact hne rfl
    exact Rd.keep hr (fun b ⟨o, e⟩ _ => keep b o e hbs) hne
  · obtain ⟨b, o, rfl, him⟩ := hi hb
    refine ⟨b, o, rfl, Nat.lt_of_lt_of_le him.1 m.size, ?_⟩
    rcases him.2 with h1 | ⟨cs, t, fz, h1, h2⟩
    · exact .inl h1
    · exact .inr ⟨cs, t, fz, (keep b o rfl hb).trans h1, h2⟩

theorem Theirs.gr (h : Theirs base w rg rkb kb S sz s) (k : Gr w w') : Theirs base w' rg rkb kb S sz s := by
  obtain ⟨keep, pend, rks, h1, h2, h3⟩ := h
  exact ⟨keep, pend, rks, h1.gr k, h2.gr k, h3⟩
theorem Ours.gr (h : Ours base w g kb rkb S sz s) (k : Gr w w') : Ours base w' g kb rkb S sz s := by
  obtain ⟨keep, pend, ys, h1, h2, h3, h4, h5⟩ := h
  exact ⟨keep, pend, ys, h1.gr k, h2.gr k, own_gr h3 k, h4.kp k.kp, h5⟩
theorem Ours.dsk (h : Ours base w g kb rkb S sz s) : Dsk base w g kb s.off s.armed s.ks S sz s.K s.P s.writes := by
  obtain ⟨keep, pend, ys, h1, h2, _⟩ := h
  exact ⟨keep, pend, h1, h2⟩
theorem Ours.db (h : Ours base w g kb rkb S sz s) : ∃ cs, w.heap[g]? = some (.cells cs 35 (0, 0)) := by
  obtain ⟨keep, pend, ys, h1, _⟩ := h
  exact ⟨_, h1.db⟩
theorem Ours.kb5 (h : Ours base w g kb rkb S sz s) : ∃ cs, w.heap[kb]? = some (.cells cs 5 (0, 0)) := by
  obtain ⟨keep, pend, ys, h1, _⟩ := h
  exact ⟨_, h1.kept⟩
theorem Theirs.rb (h : Theirs base w rg rkb kb S sz s) : ∃ cs, w.heap[rg]? = some (.cells cs 59 (0, 0)) := by
  obtain ⟨keep, pend, ys, h1, _⟩ := h
  exact ⟨_, h1.rb⟩
theorem Theirs.kb5 (h : Theirs base w rg rkb kb S sz s) : ∃ cs, w.heap[rkb]? = some (.cells cs 5 (0, 0)) := by
  obtain ⟨keep, pend, ys, h1, _⟩ := h
  exact ⟨_, h1.kept⟩
theorem type_ne {a b t u : Nat} {cs ds : Array Value} {fz gz : Nat × Nat} (h1 : w.heap[a]? = some (.cells cs t fz)) (h2 : w.heap[b]? = some (.cells ds u gz)) (h : t ≠ u) : a ≠ b := by
  rintro rfl
  rw [h1] at h2
  injection h2 with h2
  injection h2 with _ e _
  exact h e
theorem tnot_imm {T : Nat → TypeId → Bool} {q t : Nat} {cs : Array Value} {fz : Nat × Nat} (hq : w.heap[q]? = some (.cells cs t fz)) (hlo : base ≤ q) (hT : T q t = false) : ¬ Imm T base w q := rnot_imm hq hlo hT

/-- The document's disk is as it was behind a call of ours. -/
theorem Theirs.frame {s' : St} (h : Theirs base w rg rkb kb S sz s) (o : Ours base w g kb rkb S sz s') (hne : kb ≠ rkb) (m : MO base g kb w w') : Theirs base w' rg rkb kb S sz s := by
  obtain ⟨keep, pend, rks, h1, h2, h3⟩ := h
  obtain ⟨cg, hg⟩ := o.db
  obtain ⟨ck, hk⟩ := o.kb5
  obtain ⟨_, _, _, od, _⟩ := o
  obtain ⟨ys, r1, r2⟩ := h1.row
  have hrow : ∀ {e : TypeId} {size n : Nat} {v : Value} {xs : List Value}, w.ownsRow base e size v n xs → e ≠ 35 → e ≠ 5 → e ≠ 67 → w'.ownsRow base e size v n xs := fun hr e1 e2 e3 => own_mod hr m (fun k hk' hs => by
    rcases hs with rfl | rfl | ⟨_, cs, fz, hq⟩
    · exact own_ne hr hg (Ne.symm e1) hk'.symm
    · exact own_ne hr hk (Ne.symm e2) hk'.symm
    · exact own_ne hr hq (Ne.symm e3) hk'.symm)
  have hent : EntsT (TR kb rkb) base w' ys s.P := ⟨r2.1, fun i hi => ⟨(r2.2 i hi).1, by
    obtain ⟨d, e1, e2⟩ := (r2.2 i hi).2
    refine ⟨d, e1, Byt.modT e2 m (fun q hq => .inl ?_)⟩
    rcases hq with rfl | rfl | ⟨hlo, cs, fz, hq⟩
    · exact tnot_imm hg od.lg (by simp [TR])
    · exact tnot_imm hk od.lk (by simp [TR])
    · exact tnot_imm hq hlo (by simp [TR])⟩⟩
  have hrg : w'.heap[rg]? = w.heap[rg]? := m.block rg h1.rb.lt (by
    rintro (e | e | ⟨_, cs, fz, hq⟩)
    · exact type_ne h1.rb hg (by decide) e
    · exact type_ne h1.rb hk (by decide) e
    · exact type_ne h1.rb hq (by decide) rfl)
  have hrk : w'.heap[rkb]? = w.heap[rkb]? := m.block rkb h1.klt (by
    rintro (e | e | ⟨_, cs, fz, hq⟩)
    · exact type_ne h1.kept hg (by decide) e
    · exact hne e.symm
    · exact type_ne h1.kept hq (by decide) rfl)
  exact ⟨keep, pend, rks, ⟨hrg.trans h1.rb, hrk.trans h1.kept, h1.size, h1.s1, h1.s2, h1.z1, h1.z2, ⟨ys, hrow r1 (by decide) (by decide) (by decide), hent⟩, h1.len, h1.sect, h1.lg, h1.lk⟩, hrow h2 (by decide) (by decide) (by decide), h3⟩
/-- Ours is as it was behind a call of the document's. -/
theorem Ours.frame {s' : St} (h : Ours base w g kb rkb S sz s) (o : Theirs base w rg rkb kb S sz s') (hne : kb ≠ rkb) (m : MR base rg rkb w w') : Ours base w' g kb rkb S sz s := by
  obtain ⟨keep, pend, ys, h1, h2, r1, r2, r3⟩ := h
  obtain ⟨cg, hg⟩ := o.rb
  obtain ⟨ck, hk⟩ := o.kb5
  obtain ⟨_, _, _, od, _⟩ := o
  have hrow : ∀ {e : TypeId} {size n : Nat} {v : Value} {xs : List Value}, w.ownsRow base e size v n xs → e ≠ 59 → e ≠ 5 → e ≠ 77 → w'.ownsRow base e size v n xs := fun hr e1 e2 e3 => own_mod hr m (fun k hk' hs => by
    rcases hs with rfl | rfl | ⟨_, cs, fz, hq⟩
    · exact own_ne hr hg (Ne.symm e1) hk'.symm
    · exact own_ne hr hk (Ne.symm e2) hk'.symm
    · exact own_ne hr hq (Ne.symm e3) hk'.symm)
  have hent : Ents kb base w' ys s.P := ⟨r2.1, fun i hi => ⟨(r2.2 i hi).1, by
    obtain ⟨d, e1, e2⟩ := (r2.2 i hi).2
    refine ⟨d, e1, Byt.modT e2 m (fun q hq => ?_)⟩
    rcases hq with rfl | rfl | ⟨hlo, cs, fz, hq⟩
    · exact .inl (tnot_imm hg od.lg (by simp [TK]))
    · exact .inr (fun b off n c e => r3 _ b off n c (by rw [e1, e]))
    · exact .inl (tnot_imm hq hlo (by simp [TK]))⟩⟩
  have hrg : w'.heap[g]? = w.heap[g]? := m.block g h1.db.lt (by
    rintro (e | e | ⟨_, cs, fz, hq⟩)
    · exact type_ne h1.db hg (by decide) e
    · exact type_ne h1.db hk (by decide) e
    · exact type_ne h1.db hq (by decide) rfl)
  have hrk : w'.heap[kb]? = w.heap[kb]? := m.block kb (Array.getElem?_eq_some_iff.1 h1.kept).1 (by
    rintro (e | e | ⟨_, cs, fz, hq⟩)
    · exact type_ne h1.kept hg (by decide) e
    · exact hne e
    · exact type_ne h1.kept hq (by decide) rfl)
  have hp := hrow r1 (by decide) (by decide) (by decide)
  exact ⟨keep, pend, ys, ⟨hrg.trans h1.db, hrk.trans h1.kept, h1.size, h1.s1, h1.s2, h1.z1, h1.z2, ⟨ys, hp, hent⟩, h1.len, h1.sect, h1.ne, h1.lg, h1.lk⟩, hrow h2 (by decide) (by decide) (by decide), hp, hent, r3⟩
theorem MO.old (m : MO base g kb w w') (h1 : base ≤ g) (h2 : base ≤ kb) : Kp (fun _ _ => false) base w w' := m.kp (fun k hk him => by
  rcases him.2 with h | ⟨_, _, _, _, h⟩
  · rcases hk with rfl | rfl | ⟨h3, _⟩ <;> omega
  · cases h)
theorem MR.old (m : MR base rg rkb w w') (h1 : base ≤ rg) (h2 : base ≤ rkb) : Kp (fun _ _ => false) base w w' := m.kp (fun k hk him => by
  rcases him.2 with h | ⟨_, _, _, _, h⟩
  · rcases hk with rfl | rfl | ⟨h3, _⟩ <;> omega
  · cases h)
end
end Go.Proofs.Ytkgmienjioplaaa
