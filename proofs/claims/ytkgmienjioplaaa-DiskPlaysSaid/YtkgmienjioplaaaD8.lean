import Derived.Test.YtkgmienjioplaaaD6
import Derived.Test.YtkgmienjioplaaaD7
import Derived.Laws.BytesString
import Derived.Laws.BytesArg
namespace Go.Proofs.Ytkgmienjioplaaa
open Go.RowKit Go.Ext Go.BigFrame
attribute [local go_sem] Ext.cell Ext.frozen Ext.lt Ext.le s1 s2 s3 s4 s5 s6 t1 t2 t3 t4 t5 t6
attribute [local go_sem ↓] Go.wp_at_zero Go.wp_at_succ

/-- The string of bytes. -/
def sb (bs : List UInt8) : ByteArray := if bs = [] then ByteArray.empty else strOfNums (bs.map fun b => (b.toNat : Int))
theorem conv_bts {w : World} {d : Value} {bs : List UInt8} (h : Bts w d bs) : (convert 22 9 d).run Try.prog w = .ok (.string (sb bs)) w := by
  obtain ⟨A, c, rfl, hl, hr, hn⟩ := h
  by_cases hb : bs = []
  · subst hb
    rw [run_convert_bytes_string w 22 9 5 A _ c Try.underlying22 Try.underlying5 Try.underlying9]
    cases A with
    | none => simp [Conv.bytesToString, sb]
    | some a =>
      have := run_bytesToString (P := Try.prog) w a 0 c [] (by have := run_loadCells_list (P := Try.prog) w a [] (by simp); simpa using this)
      simpa [sb] using this
  · obtain ⟨b, off, rfl, hc⟩ := hr (by simpa [bc] using hb)
    unfold sb
    rw [if_neg hb]
    refine run_convert_bytes_arg w 22 5 Try.underlying22 Try.underlying5 b off bs.length c _ (by simp) (fun i hi => ?_) 9 Try.underlying9
    rw [hc i (.int .u8 (bs[i]'hi).toNat) (by simp [bc, hi])]
    simp [List.getD, hi]

section
variable {base : Nat} {w w' : World} {g kb : Nat} {off : Bool} {armed : Int} {ks : List Bool} {S sz : Nat} {K : List UInt8} {P : List Ent} {writes : Int} {n : Nat}
/-- What a write lays that is taken, or not. -/
def entOf (S sz : Nat) (i : Int) (bs : List UInt8) : List Ent := if 0 ≤ i ∧ i < S ∧ bs.length = sz then [(i, bs)] else []
theorem entOf_len (S sz : Nat) (i : Int) (bs : List UInt8) : (entOf S sz i bs).length ≤ 1 := by unfold entOf; split <;> simp
/-- A write of a disk that is on and not armed. -/
theorem write_any0 (i : Int) (A : Option Addr) (c m : Nat) (bs : List UInt8) (h : Dsk base w g kb false 0 ks S sz K P writes) (hb : Bts w (.slice A m c) bs) (hl : P.length < 4398046511000) (hw0 : 0 ≤ writes) (hw : writes ≤ 4611686018427387904) :
    Calls Try.prog 10 #[.pointer (some ⟨g, 0, none⟩), .int .i64 i, .slice A m c] w (fun e w' => (∃ r : Int, e = .returned (.int .i64 r)) ∧
      Dsk base w' g kb false 0 ks S sz K (P ++ entOf S sz i bs) (writes + (entOf S sz i bs).length) ∧ Kp (TK kb) base w w') := by
  have hm : bs.length = m := by obtain ⟨_, _, e, _⟩ := hb; injection e with _ e _; exact e.symm
  by_cases hok : 0 ≤ i ∧ i < S ∧ bs.length = sz
  · have e1 : entOf S sz i bs = [(i, bs)] := if_pos hok
    rw [e1]
    exact (write_dsk i A c m bs h hok.1 hok.2.1 hb hm (hm ▸ hok.2.2) (by omega) (by omega) hl hw0 hw).mono fun e w' ⟨he, hd, hk⟩ => ⟨⟨_, he⟩, hd, hk⟩
  · have e1 : entOf S sz i bs = [] := if_neg hok
    rw [e1, List.append_nil]
    obtain ⟨keep, pend, d1, d2⟩ := h
    refine (write_bad i A m c d1 ?_).mono fun e w' ⟨he, y, hy⟩ => ?_
    · rcases Int.lt_or_le i 0 with h1 | h1
      · exact .inr (.inl h1)
      · rcases Int.lt_or_le i S with h2 | h2
        · exact .inr (.inr (.inr (fun e => hok ⟨h1, h2, hm.trans e⟩)))
        · exact .inr (.inr (.inl h2))
    · subst hy
      refine ⟨⟨_, he⟩, ?_, y.gr.kp⟩
      have e2 : writes + (([] : List Ent).length : Int) = writes := by simp
      rw [e2]
      exact ⟨_, _, d1.gr y.gr, d2.gr y.gr⟩
end
/-- What pends behind the first j writes. -/
def PW (S sz : Nat) (L : List ActM) (j : Nat) : List Ent := (L.take j).flatMap fun a => entOf S sz a.sector (dataF a sz)
theorem PW_succ (S sz : Nat) (L : List ActM) (j : Nat) (h : j < L.length) : PW S sz L (j + 1) = PW S sz L j ++ entOf S sz L[j].sector (dataF L[j] sz) := by
  unfold PW
  rw [List.take_succ_eq_append_getElem h, List.flatMap_append]
  simp
theorem PW_len (S sz : Nat) (L : List ActM) : ∀ j, j ≤ L.length → (PW S sz L j).length ≤ j
  | 0, _ => by simp [PW]
  | j + 1, h => by
    rw [PW_succ S sz L j (by omega), List.length_append]
    have := PW_len S sz L j (by omega)
    have := entOf_len S sz L[j].sector (dataF L[j] sz)
    omega
theorem PW_mem {S sz : Nat} {L : List ActM} {j : Nat} {e : Ent} (h : e ∈ PW S sz L j) : (0 ≤ e.1 ∧ e.1 < S ∧ e.2.length = sz) ∧ ∃ i, ∃ hi : i < L.length, i < j ∧ L[i].sector = e.1 ∧ dataF L[i] sz = e.2 := by
  unfold PW at h
  rw [List.mem_flatMap] at h
  obtain ⟨a, ha, he⟩ := h
  unfold entOf at he
  split at he
  · rename_i hok
    rw [List.mem_singleton] at he
    subst he
    refine ⟨hok, ?_⟩
    obtain ⟨i, hi, hia⟩ := List.mem_iff_getElem.1 ha
    rw [List.length_take] at hi
    rw [List.getElem_take] at hia
    exact ⟨i, by omega, by omega, by rw [hia], by rw [hia]⟩
  · cases he
/-- What stands behind the cut in a sector: what was kept, or one of the writes. -/
theorem outlasts_law (L : List ActM) (kp : Nat → Bool) (K : List UInt8) (s : Nat) (hK : K.length = 8 * 64) :
    sec 64 (layF 64 kp K (PW 8 64 L L.length) (PW 8 64 L L.length).length) s = sec 64 K s ∨ ∃ i, ∃ hi : i < L.length, L[i].sector = s ∧ dataF L[i] 64 = sec 64 (layF 64 kp K (PW 8 64 L L.length) (PW 8 64 L L.length).length) s := by
  have hP : ∀ j, j < (PW 8 64 L L.length).length → 0 ≤ ((PW 8 64 L L.length).getD j (0, [])).1 ∧ ((PW 8 64 L L.length).getD j (0, [])).1 < (8 : Nat) ∧ ((PW 8 64 L L.length).getD j (0, [])).2.length = 64 := fun j hj => by
    have hm : (PW 8 64 L L.length).getD j (0, []) ∈ PW 8 64 L L.length := by
      rw [show (PW 8 64 L L.length).getD j (0, []) = (PW 8 64 L L.length)[j] by simp [List.getD, hj]]
      exact List.getElem_mem hj
    exact (PW_mem hm).1
  rw [sec_layF 64 8 kp K _ s hK hP _ (Nat.le_refl _)]
  cases hs : seekK kp (PW 8 64 L L.length) s (PW 8 64 L L.length).length with
  | none => exact .inl rfl
  | some bs =>
    right
    obtain ⟨j, hj, h1, h2⟩ := seekK_some _ _ _ _ _ hs
    have hm : (PW 8 64 L L.length).getD j (0, []) ∈ PW 8 64 L L.length := by
      rw [show (PW 8 64 L L.length).getD j (0, []) = (PW 8 64 L L.length)[j] by simp [List.getD, hj]]
      exact List.getElem_mem hj
    obtain ⟨_, i, hi, _, h3, h4⟩ := PW_mem hm
    exact ⟨i, hi, by rw [h3, h1], by rw [h4, h2]; rfl⟩
/-- A sector of all bytes. -/
theorem Bts.sec {w : World} {b n c m c' s sz : Nat} {K : List UInt8} (h : Bts w (.slice (some ⟨b, 0, none⟩) n c) K) (hs : s * sz + sz ≤ K.length) (hm : m = sz) (hz : sz ≤ 1024) : Bts w (.slice (some ⟨b, s * sz, none⟩) m c') (sec sz K s) := by
  obtain ⟨A, c0, e, _, hr, _⟩ := h
  injection e with e _ _
  subst e hm
  have hl : (Go.Proofs.Ytkgmienjioplaaa.sec m K s).length = m := by simp [Go.Proofs.Ytkgmienjioplaaa.sec]; omega
  refine ⟨_, c', by rw [hl], by omega, fun hne => ⟨b, s * m, rfl, fun j u hu => ?_⟩, fun e => by cases e⟩
  have hK : bc K ≠ [] := by
    intro e
    have h2 : K.length = 0 := by rw [← bc_length, e]; rfl
    have h3 : K = [] := List.eq_nil_of_length_eq_zero h2
    subst h3
    simp [Go.Proofs.Ytkgmienjioplaaa.sec, bc] at hne
  obtain ⟨b', o', e, hc⟩ := hr hK
  injection e with e
  injection e with e1 e2
  subst e1 e2
  have hj : j < m := by
    have := (List.getElem?_eq_some_iff.1 hu).1
    rw [bc_length, hl] at this
    exact this
  have := hc (s * m + j) u (by
    rw [← hu]
    unfold bc
    rw [List.getElem?_map, List.getElem?_map, sec_at, if_pos hj])
  rwa [Nat.zero_add] at this
end Go.Proofs.Ytkgmienjioplaaa
