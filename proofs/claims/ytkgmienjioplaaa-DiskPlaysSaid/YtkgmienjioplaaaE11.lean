import Derived.Test.YtkgmienjioplaaaE10
namespace Go.Proofs.Ytkgmienjioplaaa
open Go.RowKit Go.Ext Go.BigFrame
attribute [local go_sem] Ext.cell Ext.frozen Ext.lt Ext.le s1 s2 s3 s4 s5 s6 t1 t2 t3 t4 t5 t6
attribute [local go_sem ↓] Go.wp_at_zero Go.wp_at_succ

/-- Bounds behind j acts. -/
def Bd (j : Nat) (s : St) : Prop := s.P.length ≤ j ∧ 0 ≤ s.writes ∧ s.writes ≤ j ∧ 0 ≤ s.armed ∧ s.armed ≤ 9223372036854775807
theorem Bd.up {j : Nat} {s : St} (h : Bd j s) : Bd (j + 1) s := by unfold Bd at *; omega
theorem bd_cut {j : Nat} {s : St} (h : Bd j s) (sz : Nat) (kt : List Bool) : Bd (j + 1) (stCut sz s kt) := by
  obtain ⟨h1, h2, h3, h4, h5⟩ := h
  refine ⟨by simp [stCut], h2, ?_, by simp [stCut], by simp [stCut]⟩
  show s.writes ≤ _
  omega
theorem bd_w {j : Nat} {s : St} (h : Bd j s) (S sz : Nat) (i : Int) (bs : List UInt8) : Bd (j + 1) (stW S sz s i bs) := by
  unfold stW
  split
  · exact h.up
  · split
    · exact h.up
    · split
      · exact bd_cut h sz s.ks
      · rename_i h9
        obtain ⟨h1, h2, h3, h4, h5⟩ := h
        refine ⟨by simp; omega, by show 0 ≤ s.writes + 1; omega, by show s.writes + 1 ≤ _; omega, ?_, ?_⟩
        · show 0 ≤ less s.armed
          unfold less
          split <;> omega
        · show less s.armed ≤ _
          unfold less
          split <;> omega
theorem bd_s {j : Nat} {s : St} (h : Bd j s) (sz : Nat) : Bd (j + 1) (stS sz s) := by
  unfold stS
  split
  · exact h.up
  · obtain ⟨h1, h2, h3, h4, h5⟩ := h
    exact ⟨by simp, h2, by show s.writes ≤ _; omega, h4, h5⟩
theorem bd_a {j : Nat} {s : St} (h : Bd j s) (m : Int) (kt : List Bool) (hm : m ≤ 9223372036854775807) : Bd (j + 1) (stA s m kt) := by
  obtain ⟨h1, h2, h3, h4, h5⟩ := h
  refine ⟨by show s.P.length ≤ _; omega, h2, by show s.writes ≤ _; omega, ?_, ?_⟩
  · show 0 ≤ (if m < 1 then 1 else m)
    split <;> omega
  · show (if m < 1 then 1 else m) ≤ _
    split <;> omega
theorem bd_o {j : Nat} {s : St} (h : Bd j s) : Bd (j + 1) (stO s) := h.up

section
variable {base : Nat} {w w' : World} {g kb rg rkb S sz : Nat} {s : St} {n : Nat}
/-- A block that neither turns. -/
theorem MO.keep {q t : Nat} {cs : Array Value} {fz : Nat × Nat} (m : MO base g kb w w') (o : Ours base w g kb rkb S sz s) (hq : w.heap[q]? = some (.cells cs t fz)) (h1 : t ≠ 35) (h2 : t ≠ 5) (h3 : t ≠ 67) : w'.heap[q]? = some (.cells cs t fz) := by
  obtain ⟨cg, hg⟩ := o.db
  obtain ⟨ck, hk⟩ := o.kb5
  refine (m.block q (Array.getElem?_eq_some_iff.1 hq).1 ?_).trans hq
  rintro (e | e | ⟨_, cs', fz', hq'⟩)
  · exact type_ne hq hg h1 e
  · exact type_ne hq hk h2 e
  · exact type_ne hq hq' h3 rfl
theorem MR.keep {q t : Nat} {cs : Array Value} {fz : Nat × Nat} (m : MR base rg rkb w w') (o : Theirs base w rg rkb kb S sz s) (hq : w.heap[q]? = some (.cells cs t fz)) (h1 : t ≠ 59) (h2 : t ≠ 5) (h3 : t ≠ 77) : w'.heap[q]? = some (.cells cs t fz) := by
  obtain ⟨cg, hg⟩ := o.rb
  obtain ⟨ck, hk⟩ := o.kb5
  refine (m.block q (Array.getElem?_eq_some_iff.1 hq).1 ?_).trans hq
  rintro (e | e | ⟨_, cs', fz', hq'⟩)
  · exact type_ne hq hg h1 e
  · exact type_ne hq hk h2 e
  · exact type_ne hq hq' h3 rfl
theorem Ours.lo (h : Ours base w g kb rkb S sz s) : base ≤ g ∧ base ≤ kb ∧ g < w.heap.size ∧ kb < w.heap.size := by
  obtain ⟨keep, pend, ys, h1, _⟩ := h
  exact ⟨h1.lg, h1.lk, h1.db.lt, (Array.getElem?_eq_some_iff.1 h1.kept).1⟩
theorem Theirs.lo (h : Theirs base w rg rkb kb S sz s) : base ≤ rg ∧ base ≤ rkb ∧ rg < w.heap.size ∧ rkb < w.heap.size := by
  obtain ⟨keep, pend, rks, h1, _⟩ := h
  exact ⟨h1.lg, h1.lk, h1.rb.lt, h1.klt⟩
/-- Bytes that stay do not lie in the document's disk's block. -/
theorem Byt.rg_ne {d : Option Addr} {m c : Nat} {bs : List UInt8} (h : Byt (TK kb) base w (.slice d m c) bs) (hb : bs ≠ []) (t : Theirs base w rg rkb kb S sz s) : ∀ b o, d = some ⟨b, o, none⟩ → b ≠ rg := by
  obtain ⟨A, c', e, _, _, hi, _⟩ := h
  injection e with e _ _
  subst e
  obtain ⟨b, o, rfl, him⟩ := hi hb
  obtain ⟨cg, hg⟩ := t.rb
  have hlo := t.lo.1
  rintro b' o' e rfl
  injection e with e
  injection e with e _
  subst e
  exact tnot_imm hg hlo (by simp [TK]) him
end
theorem dataF_ne (a : ActM) (sz : Nat) (h : 0 < sz) : dataF a sz ≠ [] := by
  unfold dataF
  split
  · intro e
    have := congrArg List.length e
    simp at this
    omega
  · rename_i h1
    exact h1
/-- Acts whose numbers are numbers of the machine. -/
def Acts2 (w : World) (A : Option Addr) (L : List ActM) : Prop := Acts w A L ∧ ∀ i, (h : i < L.length) → L[i].n ≤ 9223372036854775807

set_option maxRecDepth 100000 in
set_option maxHeartbeats 16000000 in
theorem plays_any (se si : Int) (A : Option Addr) (c : Nat) (L : List ActM) (w : World) (hA2 : Acts2 w A L) (hLl : L.length ≤ 4398046511000) :
    Calls Try.prog 7 #[.int .i64 se, .int .i64 si, .slice A L.length c] w (RetE (.bool true) w) := by
  refine retE ?_
  have hA := hA2.1
  have HNB := hid hA2.2
  have KN := hid (known_any w)
  have HA := hid hA
  have F1 := hid (fun (y : Ext w) => few_any A c L y.val (hA.gr y.gr) hLl)
  clear hA hA2
  obtain ⟨n, hn⟩ : ∃ n, L.length = n := ⟨_, rfl⟩
  have HN := hid hn
  rw [hn] at hLl F1 ⊢
  clear hn
  by_cases c1 : 100 < se ∧ se ≤ 16384
  · obtain ⟨c1a, c1b⟩ := c1
    go_enter Try.func7, Try.ntmps7
    go_wp2_with (go_at_call 8; (with_reducible refine KN.out.mono ?_); rintro e _ ⟨rfl, y0, rfl⟩)
    go_at_call 17
    refine (F1.out y0).mono ?_
    rintro e w1 ⟨b1, rfl, -, hg1⟩
    have G1 := hid (y0.gr.trans hg1)
    clear hg1
    cases b1
    · go_wp2_with fail
      go_ret
      exact ⟨rfl, G1.out⟩
    · go_wp2_with fail
      go_ret
      exact ⟨rfl, G1.out⟩
  by_cases c2 : 512 < si ∧ si ≤ 1024
  · obtain ⟨c2a, c2b⟩ := c2
    by_cases c1a : 100 < se
    · have c1b : 16384 < se := by omega
      clear c1
      go_enter Try.func7, Try.ntmps7
      go_wp2_with (go_at_call 8; (with_reducible refine KN.out.mono ?_); rintro e _ ⟨rfl, y0, rfl⟩)
      go_at_call 17
      refine (F1.out y0).mono ?_
      rintro e w1 ⟨b1, rfl, -, hg1⟩
      have G1 := hid (y0.gr.trans hg1)
      clear hg1
      cases b1
      · go_wp2_with fail
        go_ret
        exact ⟨rfl, G1.out⟩
      · go_wp2_with fail
        go_ret
        exact ⟨rfl, G1.out⟩
    · clear c1
      go_enter Try.func7, Try.ntmps7
      go_wp2_with (go_at_call 8; (with_reducible refine KN.out.mono ?_); rintro e _ ⟨rfl, y0, rfl⟩)
      go_at_call 17
      refine (F1.out y0).mono ?_
      rintro e w1 ⟨b1, rfl, -, hg1⟩
      have G1 := hid (y0.gr.trans hg1)
      clear hg1
      cases b1
      · go_wp2_with fail
        go_ret
        exact ⟨rfl, G1.out⟩
      · go_wp2_with fail
        go_ret
        exact ⟨rfl, G1.out⟩
  by_cases hbad : se < 1 ∨ 16384 < se ∨ si < 64 ∨ 1024 < si
  · have NB := hid (fun (W : World) => new_bad se si W hbad)
    have RB' := hid (fun (W : World) => rnew_bad se si W hbad)
    by_cases h100 : 100 < se
    · have h1 : 16384 < se := by omega
      by_cases h512 : 512 < si
      · have h2 : 1024 < si := by omega
        clear c1 c2 hbad
        go_enter Try.func7, Try.ntmps7
        go_wp2_with (go_at_call 8; (with_reducible refine KN.out.mono ?_); rintro e _ ⟨rfl, y0, rfl⟩)
        go_at_call 17
        refine (F1.out y0).mono ?_
        rintro e w1 ⟨b1, rfl, -, hg1⟩
        have G1 := hid (y0.gr.trans hg1)
        clear hg1
        cases b1
        · go_wp2_with fail
          go_ret
          exact ⟨rfl, G1.out⟩
        · go_wp2_with (first | (go_at_call 9; refine (NB.out w1).mono ?_; rintro e _ ⟨rfl, y2, rfl⟩) | (go_at_call 22; refine (RB'.out y2.val).mono ?_; rintro e _ ⟨rfl, y3, rfl⟩))
          go_ret
          exact ⟨rfl, (G1.out.trans y2.gr).trans y3.gr⟩
      · clear c1 c2 hbad
        go_enter Try.func7, Try.ntmps7
        go_wp2_with (go_at_call 8; (with_reducible refine KN.out.mono ?_); rintro e _ ⟨rfl, y0, rfl⟩)
        go_at_call 17
        refine (F1.out y0).mono ?_
        rintro e w1 ⟨b1, rfl, -, hg1⟩
        have G1 := hid (y0.gr.trans hg1)
        clear hg1
        cases b1
        · go_wp2_with fail
          go_ret
          exact ⟨rfl, G1.out⟩
        · go_wp2_with (first | (go_at_call 9; refine (NB.out w1).mono ?_; rintro e _ ⟨rfl, y2, rfl⟩) | (go_at_call 22; refine (RB'.out y2.val).mono ?_; rintro e _ ⟨rfl, y3, rfl⟩))
          go_ret
          exact ⟨rfl, (G1.out.trans y2.gr).trans y3.gr⟩
    · by_cases h512 : 512 < si
      · have h2 : 1024 < si := by omega
        clear c1 c2 hbad
        go_enter Try.func7, Try.ntmps7
        go_wp2_with (go_at_call 8; (with_reducible refine KN.out.mono ?_); rintro e _ ⟨rfl, y0, rfl⟩)
        go_at_call 17
        refine (F1.out y0).mono ?_
        rintro e w1 ⟨b1, rfl, -, hg1⟩
        have G1 := hid (y0.gr.trans hg1)
        clear hg1
        cases b1
        · go_wp2_with fail
          go_ret
          exact ⟨rfl, G1.out⟩
        · go_wp2_with (first | (go_at_call 9; refine (NB.out w1).mono ?_; rintro e _ ⟨rfl, y2, rfl⟩) | (go_at_call 22; refine (RB'.out y2.val).mono ?_; rintro e _ ⟨rfl, y3, rfl⟩))
          go_ret
          exact ⟨rfl, (G1.out.trans y2.gr).trans y3.gr⟩
      · clear c1 c2 hbad
        go_enter Try.func7, Try.ntmps7
        go_wp2_with (go_at_call 8; (with_reducible refine KN.out.mono ?_); rintro e _ ⟨rfl, y0, rfl⟩)
        go_at_call 17
        refine (F1.out y0).mono ?_
        rintro e w1 ⟨b1, rfl, -, hg1⟩
        have G1 := hid (y0.gr.trans hg1)
        clear hg1
        cases b1
        · go_wp2_with fail
          go_ret
          exact ⟨rfl, G1.out⟩
        · go_wp2_with (first | (go_at_call 9; refine (NB.out w1).mono ?_; rintro e _ ⟨rfl, y2, rfl⟩) | (go_at_call 22; refine (RB'.out y2.val).mono ?_; rintro e _ ⟨rfl, y3, rfl⟩))
          go_ret
          exact ⟨rfl, (G1.out.trans y2.gr).trans y3.gr⟩
  obtain ⟨S, rfl⟩ : ∃ S : Nat, se = S := ⟨se.toNat, by omega⟩
  obtain ⟨sz, rfl⟩ : ∃ sz : Nat, si = sz := ⟨si.toNat, by omega⟩
  have hS1 : 1 ≤ S := by omega
  have hS2 : S ≤ 100 := by omega
  have hz1 : 64 ≤ sz := by omega
  have hz2 : sz ≤ 512 := by omega
  clear c1 c2 hbad
  have hS3 : ¬ (100 : Int) < (S : Int) := by omega
  have hz3 : ¬ (512 : Int) < (sz : Int) := by omega
  have NB := hid (fun (W : World) (hb : w.heap.size ≤ W.heap.size) => new_dsk w.heap.size S sz W hb hS1 (by omega) hz1 (by omega))
  have RB' := hid (fun (kb : Nat) (W : World) (hb : w.heap.size ≤ W.heap.size) => rnew_ok w.heap.size kb S sz W hb hS1 (by omega) hz1 (by omega))
  go_enter Try.func7, Try.ntmps7
  go_wp2_with (go_at_call 8; (with_reducible refine KN.out.mono ?_); rintro e _ ⟨rfl, y0, rfl⟩)
  go_at_call 17
  refine (F1.out y0).mono ?_
  rintro e w1 ⟨b1, rfl, hb1, hg1⟩
  have G1 := hid (y0.gr.trans hg1)
  clear hg1
  cases b1
  · go_wp2_with fail
    go_ret
    exact ⟨rfl, G1.out⟩
  have hn200 : n ≤ 200 := hb1 rfl
  clear hb1
  go_wp2_with (first | (go_at_call 9; refine (NB.out w1 G1.out.size).mono ?_; rintro e w2 ⟨g, kb, rfl, hd2, hg2⟩; have HD2 := hid hd2; have G2 := hid (G1.out.trans hg2); clear hd2 hg2) | (go_at_call 22; refine (RB'.out kb w2 G2.out.size).mono ?_; rintro e w3 ⟨rg, rkb, rfl, hd3, hg3, hlo3⟩; have HD3 := hid hd3; have G3 := hid hg3; have HLO3 := hid hlo3; clear hd3 hg3 hlo3))
  have hkr : kb ≠ rkb := by have := HD2.out.klt; have := HLO3.out; omega
  have HO3 := hid (show Ours w.heap.size w3 g kb rkb S sz ⟨false, 0, [], List.replicate (S * sz) 0, [], 0⟩ from by
    obtain ⟨keep, pend, d1, d2⟩ := HD2.out
    obtain ⟨ys, hy1, hy2⟩ := d1.row
    have : ys = [] := List.eq_nil_of_length_eq_zero (by have := hy1.1; simpa using this)
    subst this
    exact Ours.gr ⟨keep, pend, [], d1, d2, hy1, hy2, fun j _ _ _ _ h => by simp at h⟩ G3.out)
  have HT3 := hid (show Theirs w.heap.size w3 rg rkb kb S sz ⟨false, 0, [], List.replicate (S * sz) 0, [], 0⟩ from ⟨_, _, [], HD3.out, keep_nil, fun _ => rfl⟩)
  have HG3 := hid (G2.out.trans G3.out)
  clear NB RB' HD2 HD3 HLO3 F1
  go_loopw [11] (fun i wr => ∃ j : Nat, j ≤ n ∧ i = .int .i64 j ∧ (∃ s : St, Ours w.heap.size wr g kb rkb S sz s ∧ Theirs w.heap.size wr rg rkb kb S sz s ∧ Bd j s) ∧ Gr w wr) (fun i _ => n - (intOf i).toNat)
  case atStart => exact ⟨0, Nat.zero_le _, rfl, ⟨_, HO3.out, HT3.out, by unfold Bd; simp⟩, HG3.out⟩
  case round =>
    obtain ⟨j, hj, rfl, ⟨s, hos, hts, hbd⟩, hg⟩ := hrel
    have HO := hid hos
    have HT := hid hts
    have HBD := hid hbd
    have HG := hid hg
    clear hos hts hbd hg
    by_cases hlt : j < n
    · have hjL : j < L.length := by rw [HN.out]; exact hlt
      have hNB := HNB.out j hjL
      obtain ⟨bA, oA, D, vb, vc, K', vk, vkc, rfl, hbA0, k0, k1, k2, k3, k4, k5, hby, hbl⟩ := HA.out j hjL
      obtain ⟨a, ha⟩ : ∃ a, L[j] = a := ⟨_, rfl⟩
      rw [ha] at k0 k1 k2 k4 hby hbl hNB
      have hbA : bA < wr.heap.size := Nat.lt_of_lt_of_le hbA0 HG.out.size
      have hcw := fun o => HG.out.cell (p := ⟨bA, o, none⟩) hbA0
      have h0 := (hcw _).trans k0
      have h1 := (hcw _).trans k1
      have h2 := (hcw _).trans k2
      have h3 := (hcw _).trans k3
      have h4 := (hcw _).trans k4
      have h5 := (hcw _).trans k5
      clear hcw k0 k1 k2 k3 k4 k5
      have HBY := hid hby
      have HBL := hid hbl
      have HNM := hid hNB
      clear hby hbl ha hNB
      obtain ⟨op, hop⟩ : ∃ op, a.op = op := ⟨_, rfl⟩
      have HOP := hid hop
      rw [hop] at h0
      clear hop
      by_cases o1 : op = 1
      · subst o1
        go_wp2_with fail
        have hbx := heap_alloc_new wr (Obj.cells #[Value.int IntKind.i64 1, Value.int IntKind.i64 a.sector, Value.int IntKind.u8 ↑a.fill.toNat, Value.slice D vb vc, Value.int IntKind.i64 a.n, Value.slice K' vk vkc] 46)
        have HO1 := hid (HO.out.gr ((Gr.refl wr).alloc (Obj.cells #[Value.int IntKind.i64 1, Value.int IntKind.i64 a.sector, Value.int IntKind.u8 ↑a.fill.toNat, Value.slice D vb vc, Value.int IntKind.i64 a.n, Value.slice K' vk vkc] 46)))
        have HT1 := hid (HT.out.gr ((Gr.refl wr).alloc (Obj.cells #[Value.int IntKind.i64 1, Value.int IntKind.i64 a.sector, Value.int IntKind.u8 ↑a.fill.toNat, Value.slice D vb vc, Value.int IntKind.i64 a.n, Value.slice K' vk vkc] 46)))
        have HG1 := hid (HG.out.alloc (Obj.cells #[Value.int IntKind.i64 1, Value.int IntKind.i64 a.sector, Value.int IntKind.u8 ↑a.fill.toNat, Value.slice D vb vc, Value.int IntKind.i64 a.n, Value.slice K' vk vkc] 46))
        have hsz1 : wr.heap.size < (wr.alloc (Obj.cells #[Value.int IntKind.i64 1, Value.int IntKind.i64 a.sector, Value.int IntKind.u8 ↑a.fill.toNat, Value.slice D vb vc, Value.int IntKind.i64 a.n, Value.slice K' vk vkc] 46)).heap.size := by simp
        obtain ⟨bx, hbxe⟩ : ∃ bx, wr.heap.size = bx := ⟨_, rfl⟩
        obtain ⟨W1, hW1⟩ : ∃ W1, wr.alloc (Obj.cells #[Value.int IntKind.i64 1, Value.int IntKind.i64 a.sector, Value.int IntKind.u8 ↑a.fill.toNat, Value.slice D vb vc, Value.int IntKind.i64 a.n, Value.slice K' vk vkc] 46) = W1 := ⟨_, rfl⟩
        rw [hW1] at hbx HO1 HT1 HG1 hsz1
        try rw [hW1]
        rw [hbxe] at hbx hsz1
        try rw [hbxe]
        clear hW1 hbxe HO HT HG h0 h1 h2 h3 h4 h5 hbA
        have b0 := cell_of_row W1 bx 0 _ 46 (0, 0) hbx
        have b1 := cell_of_row W1 bx 1 _ 46 (0, 0) hbx
        have b2 := cell_of_row W1 bx 2 _ 46 (0, 0) hbx
        have b3 := cell_of_row W1 bx 3 _ 46 (0, 0) hbx
        have b4 := cell_of_row W1 bx 4 _ 46 (0, 0) hbx
        have b5 := cell_of_row W1 bx 5 _ 46 (0, 0) hbx
        simp only [List.getElem?_toArray, List.getElem?_cons_zero, List.getElem?_cons_succ] at b0 b1 b2 b3 b4 b5
        have HBX := hid hbx
        clear hbx
        obtain ⟨hlg, hlk, hltg, hltk⟩ := HO1.out.lo
        obtain ⟨hlrg, hlrk, hltrg, hltrk⟩ := HT1.out.lo
        obtain ⟨hvk, hkl, hkb, hkn⟩ : a.keep.length = vk ∧ vk ≤ 140737488351232 ∧ Bls w K' a.keep ∧ (K' = none → vkc = 0) := by
          obtain ⟨KA, KC, eK, e1, e2, e3⟩ := HBL.out
          injection eK with f1 f2 f3
          subst f1 f2 f3
          exact ⟨rfl, e1, e2, e3⟩
        have HVK := hid hvk
        have HKB := hid hkb
        clear hvk hkb
        obtain ⟨hB1, hB2, hB3, hB4, hB5⟩ := HBD.out
        have hdl : (dataF a sz).length ≠ 0 := fun e => dataF_ne a sz (by omega) (List.eq_nil_of_length_eq_zero e)
        obtain ⟨r, hr⟩ : ∃ r, codeW S sz s a.sector (dataF a sz) = r := ⟨_, rfl⟩
        have HR := hid hr
        clear hr
        have DA := hid (fun (W : World) (hg : Gr w W) (hk : kb < W.heap.size) => data_any w W kb sz a D K' vb vc vk vkc hg HBY.out hk (by omega) (by omega))
        rw [HOP.out] at DA
        go_region_held3 (fun w' => w'.cell? ⟨bx, 0, none⟩ = some (.int .i64 1) ∧ w'.cell? ⟨bx, 1, none⟩ = some (.int .i64 a.sector) ∧ w'.cell? ⟨bx, 2, none⟩ = some (.int .u8 (a.fill.toNat : Int)) ∧ w'.cell? ⟨bx, 3, none⟩ = some (.slice D vb vc) ∧ w'.cell? ⟨bx, 4, none⟩ = some (.int .i64 a.n) ∧ w'.cell? ⟨bx, 5, none⟩ = some (.slice K' vk vkc)) (first | exact hS9 | exact hS7 | go_keep | (refine ⟨?_, ?_, ?_, ?_, ?_, ?_⟩ <;> go_simp; done))
          (first
            | (go_at_call 18
               refine (DA.out w7 HK7.out.gr HO7.out.lo.2.2.2).mono ?_
               rintro e _ ⟨v8, y8, rfl, rfl, hv8⟩
               obtain ⟨D8, n8, rfl⟩ : ∃ D8 n8, v8 = .slice D8 (dataF a sz).length n8 := by obtain ⟨A', c'', e, _⟩ := hv8; exact ⟨A', c'', e⟩)
            | (go_at_call 18
               refine (calls_grC (w0 := W1) (Gr.refl _).drew (DA.out W1.drew HG1.out.drew hltk)).mono ?_
               rintro e _ ⟨v6, y6, rfl, rfl, hv6⟩
               obtain ⟨D6, n6, rfl⟩ : ∃ D6 n6, v6 = .slice D6 (dataF a sz).length n6 := by obtain ⟨A', c'', e, _⟩ := hv6; exact ⟨A', c'', e⟩)
            | (go_at_call 10
               refine (ours_write a.sector _ _ _ _ (HO1.out.gr y6.gr) (Byt.bts hv6) (Nat.lt_of_lt_of_le hltrk y6.gr.size) hB4 hB5 (by omega) hB2 (by omega)).mono ?_
               rw [HR.out]
               rintro e w7 ⟨rfl, ho7, hm7⟩
               have HO7 := hid ho7
               have HM7 := hid hm7
               have HT7 := hid ((HT1.out.gr y6.gr).frame (HO1.out.gr y6.gr) hkr hm7)
               have HBX7 := hid (hm7.keep (HO1.out.gr y6.gr) ((y6.gr.block bx hsz1).trans HBX.out) (by decide) (by decide) (by decide))
               have HK7 := hid ((HG1.out.trans y6.gr).kp.trans (hm7.old hlg hlk))
               have hS7 : w7.cell? ⟨bx, 0, none⟩ = some (.int .i64 1) ∧ w7.cell? ⟨bx, 1, none⟩ = some (.int .i64 a.sector) ∧ w7.cell? ⟨bx, 2, none⟩ = some (.int .u8 (a.fill.toNat : Int)) ∧ w7.cell? ⟨bx, 3, none⟩ = some (.slice D vb vc) ∧ w7.cell? ⟨bx, 4, none⟩ = some (.int .i64 a.n) ∧ w7.cell? ⟨bx, 5, none⟩ = some (.slice K' vk vkc) := (by have z0 := cell_of_row w7 bx 0 _ 46 (0, 0) HBX7.out; have z1 := cell_of_row w7 bx 1 _ 46 (0, 0) HBX7.out; have z2 := cell_of_row w7 bx 2 _ 46 (0, 0) HBX7.out; have z3 := cell_of_row w7 bx 3 _ 46 (0, 0) HBX7.out; have z4 := cell_of_row w7 bx 4 _ 46 (0, 0) HBX7.out; have z5 := cell_of_row w7 bx 5 _ 46 (0, 0) HBX7.out; exact ⟨z0, z1, z2, z3, z4, z5⟩)
               have hlt7 : bx < w7.heap.size := (Array.getElem?_eq_some_iff.1 HBX7.out).1
               have hltg7 : g < w7.heap.size := HO7.out.lo.2.2.1
               clear ho7 hm7)
            | (go_at_call 23
               refine (theirs_write a.sector _ _ _ _ (HT7.out.gr y8.gr) (Byt.bts hv8) (Nat.lt_of_lt_of_le HO7.out.lo.2.2.2 y8.gr.size) hB4 hB5 (by omega) hB2 (by omega) (Byt.rg_ne hv8 (dataF_ne a sz (by omega)) (HT7.out.gr y8.gr)) (by have := HK7.out.size; have := y8.gr.size; omega)).mono ?_
               rw [HR.out]
               rintro e w5 ⟨rfl, ht9, hm9⟩
               have HT5 := hid ht9
               have HO5 := hid ((HO7.out.gr y8.gr).frame (HT7.out.gr y8.gr) hkr hm9)
               have HBX5 := hid (hm9.keep (HT7.out.gr y8.gr) ((y8.gr.block bx hlt7).trans HBX7.out) (by decide) (by decide) (by decide))
               have HG5 := hid (((HK7.out.trans y8.gr.kp).trans (hm9.old hlrg hlrk)).gr)
               have hS9 : w5.cell? ⟨bx, 0, none⟩ = some (.int .i64 1) ∧ w5.cell? ⟨bx, 1, none⟩ = some (.int .i64 a.sector) ∧ w5.cell? ⟨bx, 2, none⟩ = some (.int .u8 (a.fill.toNat : Int)) ∧ w5.cell? ⟨bx, 3, none⟩ = some (.slice D vb vc) ∧ w5.cell? ⟨bx, 4, none⟩ = some (.int .i64 a.n) ∧ w5.cell? ⟨bx, 5, none⟩ = some (.slice K' vk vkc) := (by have z0 := cell_of_row w5 bx 0 _ 46 (0, 0) HBX5.out; have z1 := cell_of_row w5 bx 1 _ 46 (0, 0) HBX5.out; have z2 := cell_of_row w5 bx 2 _ 46 (0, 0) HBX5.out; have z3 := cell_of_row w5 bx 3 _ 46 (0, 0) HBX5.out; have z4 := cell_of_row w5 bx 4 _ 46 (0, 0) HBX5.out; have z5 := cell_of_row w5 bx 5 _ 46 (0, 0) HBX5.out; exact ⟨z0, z1, z2, z3, z4, z5⟩)
               clear ht9 hm9))
        have HBD5 := hid (bd_w HBD.out S sz a.sector (dataF a sz))
        clear b0 b1 b2 b3 b4 b5
        have SM := hid (same_any a.sector HO5.out HT5.out (HG5.out.size))
        have c1 := cell_of_row w5 bx 1 _ 46 (0, 0) HBX5.out
        simp only [List.getElem?_toArray, List.getElem?_cons_zero, List.getElem?_cons_succ] at c1
        have hb5 : bx < w5.heap.size := (Array.getElem?_eq_some_iff.1 HBX5.out).1
        go_wp2_with (go_at_call 27; refine SM.out.mono ?_; rintro e _ ⟨rfl, y6, rfl⟩)
        go_roundw
        case rel => exact ⟨j + 1, by omega, by go_num, ⟨_, HO5.out.gr y6.gr, HT5.out.gr y6.gr, HBD5.out⟩, HG5.out.trans y6.gr⟩
        case measure => simp [intOf]; omega
      by_cases o2 : op = 2
      · subst o2
        go_wp2_with fail
        have hbx := heap_alloc_new wr (Obj.cells #[Value.int IntKind.i64 2, Value.int IntKind.i64 a.sector, Value.int IntKind.u8 ↑a.fill.toNat, Value.slice D vb vc, Value.int IntKind.i64 a.n, Value.slice K' vk vkc] 46)
        have HO1 := hid (HO.out.gr ((Gr.refl wr).alloc (Obj.cells #[Value.int IntKind.i64 2, Value.int IntKind.i64 a.sector, Value.int IntKind.u8 ↑a.fill.toNat, Value.slice D vb vc, Value.int IntKind.i64 a.n, Value.slice K' vk vkc] 46)))
        have HT1 := hid (HT.out.gr ((Gr.refl wr).alloc (Obj.cells #[Value.int IntKind.i64 2, Value.int IntKind.i64 a.sector, Value.int IntKind.u8 ↑a.fill.toNat, Value.slice D vb vc, Value.int IntKind.i64 a.n, Value.slice K' vk vkc] 46)))
        have HG1 := hid (HG.out.alloc (Obj.cells #[Value.int IntKind.i64 2, Value.int IntKind.i64 a.sector, Value.int IntKind.u8 ↑a.fill.toNat, Value.slice D vb vc, Value.int IntKind.i64 a.n, Value.slice K' vk vkc] 46))
        have hsz1 : wr.heap.size < (wr.alloc (Obj.cells #[Value.int IntKind.i64 2, Value.int IntKind.i64 a.sector, Value.int IntKind.u8 ↑a.fill.toNat, Value.slice D vb vc, Value.int IntKind.i64 a.n, Value.slice K' vk vkc] 46)).heap.size := by simp
        obtain ⟨bx, hbxe⟩ : ∃ bx, wr.heap.size = bx := ⟨_, rfl⟩
        obtain ⟨W1, hW1⟩ : ∃ W1, wr.alloc (Obj.cells #[Value.int IntKind.i64 2, Value.int IntKind.i64 a.sector, Value.int IntKind.u8 ↑a.fill.toNat, Value.slice D vb vc, Value.int IntKind.i64 a.n, Value.slice K' vk vkc] 46) = W1 := ⟨_, rfl⟩
        rw [hW1] at hbx HO1 HT1 HG1 hsz1
        try rw [hW1]
        rw [hbxe] at hbx hsz1
        try rw [hbxe]
        clear hW1 hbxe HO HT HG h0 h1 h2 h3 h4 h5 hbA
        have b0 := cell_of_row W1 bx 0 _ 46 (0, 0) hbx
        have b1 := cell_of_row W1 bx 1 _ 46 (0, 0) hbx
        have b2 := cell_of_row W1 bx 2 _ 46 (0, 0) hbx
        have b3 := cell_of_row W1 bx 3 _ 46 (0, 0) hbx
        have b4 := cell_of_row W1 bx 4 _ 46 (0, 0) hbx
        have b5 := cell_of_row W1 bx 5 _ 46 (0, 0) hbx
        simp only [List.getElem?_toArray, List.getElem?_cons_zero, List.getElem?_cons_succ] at b0 b1 b2 b3 b4 b5
        have HBX := hid hbx
        clear hbx
        obtain ⟨hlg, hlk, hltg, hltk⟩ := HO1.out.lo
        obtain ⟨hlrg, hlrk, hltrg, hltrk⟩ := HT1.out.lo
        obtain ⟨hvk, hkl, hkb, hkn⟩ : a.keep.length = vk ∧ vk ≤ 140737488351232 ∧ Bls w K' a.keep ∧ (K' = none → vkc = 0) := by
          obtain ⟨KA, KC, eK, e1, e2, e3⟩ := HBL.out
          injection eK with f1 f2 f3
          subst f1 f2 f3
          exact ⟨rfl, e1, e2, e3⟩
        have HVK := hid hvk
        have HKB := hid hkb
        clear hvk hkb
        obtain ⟨r, hr⟩ : ∃ r : Int, (if s.off = true then 5 else 0) = r := ⟨_, rfl⟩
        have OS := hid (ours_sync HO1.out)
        rw [hr] at OS
        have TS := hid (fun (W : World) (t : Theirs w.heap.size W rg rkb kb S sz s) => theirs_sync t)
        rw [hr] at TS
        clear hr
        go_wp2_with (first | (go_at_call 15; refine OS.out.mono ?_; rintro e w7 ⟨rfl, ho7, hm7⟩; have HO7 := hid ho7; have HT7 := hid (HT1.out.frame HO1.out hkr hm7); have HBX7 := hid (hm7.keep HO1.out HBX.out (by decide) (by decide) (by decide)); have HK7 := hid (HG1.out.kp.trans (hm7.old hlg hlk)); have hlt7 : bx < w7.heap.size := (Array.getElem?_eq_some_iff.1 HBX7.out).1; have z4 : w7.cell? ⟨bx, 4, none⟩ = some (.int .i64 a.n) := cell_of_row w7 bx 4 _ 46 (0, 0) HBX7.out; have z5 : w7.cell? ⟨bx, 5, none⟩ = some (.slice K' vk vkc) := cell_of_row w7 bx 5 _ 46 (0, 0) HBX7.out; have hrg7 : rg < w7.heap.size := HT7.out.lo.2.2.1; have z1 : w7.cell? ⟨bx, 1, none⟩ = some (.int .i64 a.sector) := cell_of_row w7 bx 1 _ 46 (0, 0) HBX7.out; have hbr : bx ≠ rg := (by obtain ⟨_, hh⟩ := HT7.out.rb; exact type_ne HBX7.out hh (by decide)); have hrb := Ne.symm hbr; clear ho7 hm7) | (go_at_call 24; refine (TS.out w7 HT7.out).mono ?_; rintro e w5 ⟨rfl, ht9, hm9⟩; have HT5 := hid ht9; have HO5 := hid (HO7.out.frame HT7.out hkr hm9); have HBX5 := hid (hm9.keep HT7.out HBX7.out (by decide) (by decide) (by decide)); have HG5 := hid ((HK7.out.trans (hm9.old hlrg hlrk)).gr); have c1 : w5.cell? ⟨bx, 1, none⟩ = some (.int .i64 a.sector) := cell_of_row w5 bx 1 _ 46 (0, 0) HBX5.out; have hb5 : bx < w5.heap.size := (Array.getElem?_eq_some_iff.1 HBX5.out).1; clear ht9 hm9))
        have HBD5 := hid (bd_s HBD.out sz)
        clear b0 b1 b2 b3 b4 b5
        have SM := hid (same_any a.sector HO5.out HT5.out (HG5.out.size))
        have c1 := cell_of_row w5 bx 1 _ 46 (0, 0) HBX5.out
        simp only [List.getElem?_toArray, List.getElem?_cons_zero, List.getElem?_cons_succ] at c1
        have hb5 : bx < w5.heap.size := (Array.getElem?_eq_some_iff.1 HBX5.out).1
        go_wp2_with (go_at_call 27; refine SM.out.mono ?_; rintro e _ ⟨rfl, y6, rfl⟩)
        go_roundw
        case rel => exact ⟨j + 1, by omega, by go_num, ⟨_, HO5.out.gr y6.gr, HT5.out.gr y6.gr, HBD5.out⟩, HG5.out.trans y6.gr⟩
        case measure => simp [intOf]; omega
      by_cases o3 : op = 3
      · subst o3
        go_wp2_with fail
        have hbx := heap_alloc_new wr (Obj.cells #[Value.int IntKind.i64 3, Value.int IntKind.i64 a.sector, Value.int IntKind.u8 ↑a.fill.toNat, Value.slice D vb vc, Value.int IntKind.i64 a.n, Value.slice K' vk vkc] 46)
        have HO1 := hid (HO.out.gr ((Gr.refl wr).alloc (Obj.cells #[Value.int IntKind.i64 3, Value.int IntKind.i64 a.sector, Value.int IntKind.u8 ↑a.fill.toNat, Value.slice D vb vc, Value.int IntKind.i64 a.n, Value.slice K' vk vkc] 46)))
        have HT1 := hid (HT.out.gr ((Gr.refl wr).alloc (Obj.cells #[Value.int IntKind.i64 3, Value.int IntKind.i64 a.sector, Value.int IntKind.u8 ↑a.fill.toNat, Value.slice D vb vc, Value.int IntKind.i64 a.n, Value.slice K' vk vkc] 46)))
        have HG1 := hid (HG.out.alloc (Obj.cells #[Value.int IntKind.i64 3, Value.int IntKind.i64 a.sector, Value.int IntKind.u8 ↑a.fill.toNat, Value.slice D vb vc, Value.int IntKind.i64 a.n, Value.slice K' vk vkc] 46))
        have hsz1 : wr.heap.size < (wr.alloc (Obj.cells #[Value.int IntKind.i64 3, Value.int IntKind.i64 a.sector, Value.int IntKind.u8 ↑a.fill.toNat, Value.slice D vb vc, Value.int IntKind.i64 a.n, Value.slice K' vk vkc] 46)).heap.size := by simp
        obtain ⟨bx, hbxe⟩ : ∃ bx, wr.heap.size = bx := ⟨_, rfl⟩
        obtain ⟨W1, hW1⟩ : ∃ W1, wr.alloc (Obj.cells #[Value.int IntKind.i64 3, Value.int IntKind.i64 a.sector, Value.int IntKind.u8 ↑a.fill.toNat, Value.slice D vb vc, Value.int IntKind.i64 a.n, Value.slice K' vk vkc] 46) = W1 := ⟨_, rfl⟩
        rw [hW1] at hbx HO1 HT1 HG1 hsz1
        try rw [hW1]
        rw [hbxe] at hbx hsz1
        try rw [hbxe]
        clear hW1 hbxe HO HT HG h0 h1 h2 h3 h4 h5 hbA
        have b0 := cell_of_row W1 bx 0 _ 46 (0, 0) hbx
        have b1 := cell_of_row W1 bx 1 _ 46 (0, 0) hbx
        have b2 := cell_of_row W1 bx 2 _ 46 (0, 0) hbx
        have b3 := cell_of_row W1 bx 3 _ 46 (0, 0) hbx
        have b4 := cell_of_row W1 bx 4 _ 46 (0, 0) hbx
        have b5 := cell_of_row W1 bx 5 _ 46 (0, 0) hbx
        simp only [List.getElem?_toArray, List.getElem?_cons_zero, List.getElem?_cons_succ] at b0 b1 b2 b3 b4 b5
        have HBX := hid hbx
        clear hbx
        obtain ⟨hlg, hlk, hltg, hltk⟩ := HO1.out.lo
        obtain ⟨hlrg, hlrk, hltrg, hltrk⟩ := HT1.out.lo
        obtain ⟨hvk, hkl, hkb, hkn⟩ : a.keep.length = vk ∧ vk ≤ 140737488351232 ∧ Bls w K' a.keep ∧ (K' = none → vkc = 0) := by
          obtain ⟨KA, KC, eK, e1, e2, e3⟩ := HBL.out
          injection eK with f1 f2 f3
          subst f1 f2 f3
          exact ⟨rfl, e1, e2, e3⟩
        have HVK := hid hvk
        have HKB := hid hkb
        clear hvk hkb
        go_region_held3 (fun w' => w'.cell? ⟨bx, 0, none⟩ = some (.int .i64 3) ∧ w'.cell? ⟨bx, 1, none⟩ = some (.int .i64 a.sector) ∧ w'.cell? ⟨bx, 2, none⟩ = some (.int .u8 (a.fill.toNat : Int)) ∧ w'.cell? ⟨bx, 3, none⟩ = some (.slice D vb vc) ∧ w'.cell? ⟨bx, 4, none⟩ = some (.int .i64 a.n) ∧ w'.cell? ⟨bx, 5, none⟩ = some (.slice K' vk vkc)) (first | exact hS7 | go_keep | (refine ⟨?_, ?_, ?_, ?_, ?_, ?_⟩ <;> go_simp; done))
          (first
            | (go_at_call 20
               refine (ours_arm a.n K' vkc vk a.keep (HO1.out.gr (Gr.refl W1).drew) (Rd.gr HKB.out HG1.out.drew) HVK.out hkl hkn HG1.out.size).mono ?_
               rintro e w7 ⟨rfl, ho7, hm7⟩
               have HO7 := hid ho7
               have HT7 := hid ((HT1.out.gr (Gr.refl W1).drew).frame (HO1.out.gr (Gr.refl W1).drew) hkr hm7)
               have HBX7 := hid (hm7.keep (HO1.out.gr (Gr.refl W1).drew) HBX.out (by decide) (by decide) (by decide))
               have HK7 := hid (HG1.out.drew.kp.trans (hm7.old hlg hlk))
               have hS7 : w7.cell? ⟨bx, 0, none⟩ = some (.int .i64 3) ∧ w7.cell? ⟨bx, 1, none⟩ = some (.int .i64 a.sector) ∧ w7.cell? ⟨bx, 2, none⟩ = some (.int .u8 (a.fill.toNat : Int)) ∧ w7.cell? ⟨bx, 3, none⟩ = some (.slice D vb vc) ∧ w7.cell? ⟨bx, 4, none⟩ = some (.int .i64 a.n) ∧ w7.cell? ⟨bx, 5, none⟩ = some (.slice K' vk vkc) := (by have z0 := cell_of_row w7 bx 0 _ 46 (0, 0) HBX7.out; have z1 := cell_of_row w7 bx 1 _ 46 (0, 0) HBX7.out; have z2 := cell_of_row w7 bx 2 _ 46 (0, 0) HBX7.out; have z3 := cell_of_row w7 bx 3 _ 46 (0, 0) HBX7.out; have z4 := cell_of_row w7 bx 4 _ 46 (0, 0) HBX7.out; have z5 := cell_of_row w7 bx 5 _ 46 (0, 0) HBX7.out; exact ⟨z0, z1, z2, z3, z4, z5⟩)
               have hlt7 : bx < w7.heap.size := (Array.getElem?_eq_some_iff.1 HBX7.out).1
               clear ho7 hm7))
        obtain ⟨z0, z1, z2, z3, z4, z5⟩ := hS7
        go_wp2_with (go_at_call 25; refine (theirs_arm a.n K' vkc vk a.keep HT7.out (Rd.gr HKB.out HK7.out.gr) HVK.out hkl hkn HK7.out.size (fun hne b o e => by have := Bls.lt HKB.out hne b o e; omega)).mono ?_; rintro e w5 ⟨rfl, ht9, hm9⟩; have HT5 := hid ht9; have HO5 := hid (HO7.out.frame HT7.out hkr hm9); have HBX5 := hid (hm9.keep HT7.out HBX7.out (by decide) (by decide) (by decide)); have HG5 := hid ((HK7.out.trans (hm9.old hlrg hlrk)).gr); have c1 : w5.cell? ⟨bx, 1, none⟩ = some (.int .i64 a.sector) := cell_of_row w5 bx 1 _ 46 (0, 0) HBX5.out; have hb5 : bx < w5.heap.size := (Array.getElem?_eq_some_iff.1 HBX5.out).1; clear ht9 hm9)
        have HBD5 := hid (bd_a HBD.out a.n a.keep HNM.out)
        clear b0 b1 b2 b3 b4 b5 z0 z1 z2 z3 z4 z5
        have SM := hid (same_any a.sector HO5.out HT5.out (HG5.out.size))
        have c1 := cell_of_row w5 bx 1 _ 46 (0, 0) HBX5.out
        simp only [List.getElem?_toArray, List.getElem?_cons_zero, List.getElem?_cons_succ] at c1
        have hb5 : bx < w5.heap.size := (Array.getElem?_eq_some_iff.1 HBX5.out).1
        go_wp2_with (go_at_call 27; refine SM.out.mono ?_; rintro e _ ⟨rfl, y6, rfl⟩)
        go_roundw
        case rel => exact ⟨j + 1, by omega, by go_num, ⟨_, HO5.out.gr y6.gr, HT5.out.gr y6.gr, HBD5.out⟩, HG5.out.trans y6.gr⟩
        case measure => simp [intOf]; omega
      by_cases o4 : op = 4
      · subst o4
        go_wp2_with fail
        have hbx := heap_alloc_new wr (Obj.cells #[Value.int IntKind.i64 4, Value.int IntKind.i64 a.sector, Value.int IntKind.u8 ↑a.fill.toNat, Value.slice D vb vc, Value.int IntKind.i64 a.n, Value.slice K' vk vkc] 46)
        have HO1 := hid (HO.out.gr ((Gr.refl wr).alloc (Obj.cells #[Value.int IntKind.i64 4, Value.int IntKind.i64 a.sector, Value.int IntKind.u8 ↑a.fill.toNat, Value.slice D vb vc, Value.int IntKind.i64 a.n, Value.slice K' vk vkc] 46)))
        have HT1 := hid (HT.out.gr ((Gr.refl wr).alloc (Obj.cells #[Value.int IntKind.i64 4, Value.int IntKind.i64 a.sector, Value.int IntKind.u8 ↑a.fill.toNat, Value.slice D vb vc, Value.int IntKind.i64 a.n, Value.slice K' vk vkc] 46)))
        have HG1 := hid (HG.out.alloc (Obj.cells #[Value.int IntKind.i64 4, Value.int IntKind.i64 a.sector, Value.int IntKind.u8 ↑a.fill.toNat, Value.slice D vb vc, Value.int IntKind.i64 a.n, Value.slice K' vk vkc] 46))
        have hsz1 : wr.heap.size < (wr.alloc (Obj.cells #[Value.int IntKind.i64 4, Value.int IntKind.i64 a.sector, Value.int IntKind.u8 ↑a.fill.toNat, Value.slice D vb vc, Value.int IntKind.i64 a.n, Value.slice K' vk vkc] 46)).heap.size := by simp
        obtain ⟨bx, hbxe⟩ : ∃ bx, wr.heap.size = bx := ⟨_, rfl⟩
        obtain ⟨W1, hW1⟩ : ∃ W1, wr.alloc (Obj.cells #[Value.int IntKind.i64 4, Value.int IntKind.i64 a.sector, Value.int IntKind.u8 ↑a.fill.toNat, Value.slice D vb vc, Value.int IntKind.i64 a.n, Value.slice K' vk vkc] 46) = W1 := ⟨_, rfl⟩
        rw [hW1] at hbx HO1 HT1 HG1 hsz1
        try rw [hW1]
        rw [hbxe] at hbx hsz1
        try rw [hbxe]
        clear hW1 hbxe HO HT HG h0 h1 h2 h3 h4 h5 hbA
        have b0 := cell_of_row W1 bx 0 _ 46 (0, 0) hbx
        have b1 := cell_of_row W1 bx 1 _ 46 (0, 0) hbx
        have b2 := cell_of_row W1 bx 2 _ 46 (0, 0) hbx
        have b3 := cell_of_row W1 bx 3 _ 46 (0, 0) hbx
        have b4 := cell_of_row W1 bx 4 _ 46 (0, 0) hbx
        have b5 := cell_of_row W1 bx 5 _ 46 (0, 0) hbx
        simp only [List.getElem?_toArray, List.getElem?_cons_zero, List.getElem?_cons_succ] at b0 b1 b2 b3 b4 b5
        have HBX := hid hbx
        clear hbx
        obtain ⟨hlg, hlk, hltg, hltk⟩ := HO1.out.lo
        obtain ⟨hlrg, hlrk, hltrg, hltrk⟩ := HT1.out.lo
        obtain ⟨hvk, hkl, hkb, hkn⟩ : a.keep.length = vk ∧ vk ≤ 140737488351232 ∧ Bls w K' a.keep ∧ (K' = none → vkc = 0) := by
          obtain ⟨KA, KC, eK, e1, e2, e3⟩ := HBL.out
          injection eK with f1 f2 f3
          subst f1 f2 f3
          exact ⟨rfl, e1, e2, e3⟩
        have HVK := hid hvk
        have HKB := hid hkb
        clear hvk hkb
        go_wp2_with (first | (go_at_call 11; refine (ours_cut K' vkc vk a.keep HO1.out (Rd.gr HKB.out HG1.out) HVK.out (fun hne b o e => by have := Bls.lt HKB.out hne b o e; omega)).mono ?_; rintro e w7 ⟨rfl, ho7, hm7⟩; have HO7 := hid ho7; have HT7 := hid (HT1.out.frame HO1.out hkr hm7); have HBX7 := hid (hm7.keep HO1.out HBX.out (by decide) (by decide) (by decide)); have HK7 := hid (HG1.out.kp.trans (hm7.old hlg hlk)); have hlt7 : bx < w7.heap.size := (Array.getElem?_eq_some_iff.1 HBX7.out).1; have z4 : w7.cell? ⟨bx, 4, none⟩ = some (.int .i64 a.n) := cell_of_row w7 bx 4 _ 46 (0, 0) HBX7.out; have z5 : w7.cell? ⟨bx, 5, none⟩ = some (.slice K' vk vkc) := cell_of_row w7 bx 5 _ 46 (0, 0) HBX7.out; have hrg7 : rg < w7.heap.size := HT7.out.lo.2.2.1; have z1 : w7.cell? ⟨bx, 1, none⟩ = some (.int .i64 a.sector) := cell_of_row w7 bx 1 _ 46 (0, 0) HBX7.out; have hbr : bx ≠ rg := (by obtain ⟨_, hh⟩ := HT7.out.rb; exact type_ne HBX7.out hh (by decide)); have hrb := Ne.symm hbr; clear ho7 hm7) | (go_at_call 26; refine (theirs_cut K' vkc vk a.keep HT7.out (Rd.gr HKB.out HK7.out.gr) HVK.out (fun hne b o e => by have := Bls.lt HKB.out hne b o e; omega)).mono ?_; rintro e w5 ⟨rfl, ht9, hm9⟩; have HT5 := hid ht9; have HO5 := hid (HO7.out.frame HT7.out hkr hm9); have HBX5 := hid (hm9.keep HT7.out HBX7.out (by decide) (by decide) (by decide)); have HG5 := hid ((HK7.out.trans (hm9.old hlrg hlrk)).gr); have c1 : w5.cell? ⟨bx, 1, none⟩ = some (.int .i64 a.sector) := cell_of_row w5 bx 1 _ 46 (0, 0) HBX5.out; have hb5 : bx < w5.heap.size := (Array.getElem?_eq_some_iff.1 HBX5.out).1; clear ht9 hm9))
        have HBD5 := hid (bd_cut HBD.out sz a.keep)
        clear b0 b1 b2 b3 b4 b5
        have SM := hid (same_any a.sector HO5.out HT5.out (HG5.out.size))
        have c1 := cell_of_row w5 bx 1 _ 46 (0, 0) HBX5.out
        simp only [List.getElem?_toArray, List.getElem?_cons_zero, List.getElem?_cons_succ] at c1
        have hb5 : bx < w5.heap.size := (Array.getElem?_eq_some_iff.1 HBX5.out).1
        go_wp2_with (go_at_call 27; refine SM.out.mono ?_; rintro e _ ⟨rfl, y6, rfl⟩)
        go_roundw
        case rel => exact ⟨j + 1, by omega, by go_num, ⟨_, HO5.out.gr y6.gr, HT5.out.gr y6.gr, HBD5.out⟩, HG5.out.trans y6.gr⟩
        case measure => simp [intOf]; omega
      by_cases o5 : op = 5
      · subst o5
        go_wp2_with fail
        have hbx := heap_alloc_new wr (Obj.cells #[Value.int IntKind.i64 5, Value.int IntKind.i64 a.sector, Value.int IntKind.u8 ↑a.fill.toNat, Value.slice D vb vc, Value.int IntKind.i64 a.n, Value.slice K' vk vkc] 46)
        have HO1 := hid (HO.out.gr ((Gr.refl wr).alloc (Obj.cells #[Value.int IntKind.i64 5, Value.int IntKind.i64 a.sector, Value.int IntKind.u8 ↑a.fill.toNat, Value.slice D vb vc, Value.int IntKind.i64 a.n, Value.slice K' vk vkc] 46)))
        have HT1 := hid (HT.out.gr ((Gr.refl wr).alloc (Obj.cells #[Value.int IntKind.i64 5, Value.int IntKind.i64 a.sector, Value.int IntKind.u8 ↑a.fill.toNat, Value.slice D vb vc, Value.int IntKind.i64 a.n, Value.slice K' vk vkc] 46)))
        have HG1 := hid (HG.out.alloc (Obj.cells #[Value.int IntKind.i64 5, Value.int IntKind.i64 a.sector, Value.int IntKind.u8 ↑a.fill.toNat, Value.slice D vb vc, Value.int IntKind.i64 a.n, Value.slice K' vk vkc] 46))
        have hsz1 : wr.heap.size < (wr.alloc (Obj.cells #[Value.int IntKind.i64 5, Value.int IntKind.i64 a.sector, Value.int IntKind.u8 ↑a.fill.toNat, Value.slice D vb vc, Value.int IntKind.i64 a.n, Value.slice K' vk vkc] 46)).heap.size := by simp
        obtain ⟨bx, hbxe⟩ : ∃ bx, wr.heap.size = bx := ⟨_, rfl⟩
        obtain ⟨W1, hW1⟩ : ∃ W1, wr.alloc (Obj.cells #[Value.int IntKind.i64 5, Value.int IntKind.i64 a.sector, Value.int IntKind.u8 ↑a.fill.toNat, Value.slice D vb vc, Value.int IntKind.i64 a.n, Value.slice K' vk vkc] 46) = W1 := ⟨_, rfl⟩
        rw [hW1] at hbx HO1 HT1 HG1 hsz1
        try rw [hW1]
        rw [hbxe] at hbx hsz1
        try rw [hbxe]
        clear hW1 hbxe HO HT HG h0 h1 h2 h3 h4 h5 hbA
        have b0 := cell_of_row W1 bx 0 _ 46 (0, 0) hbx
        have b1 := cell_of_row W1 bx 1 _ 46 (0, 0) hbx
        have b2 := cell_of_row W1 bx 2 _ 46 (0, 0) hbx
        have b3 := cell_of_row W1 bx 3 _ 46 (0, 0) hbx
        have b4 := cell_of_row W1 bx 4 _ 46 (0, 0) hbx
        have b5 := cell_of_row W1 bx 5 _ 46 (0, 0) hbx
        simp only [List.getElem?_toArray, List.getElem?_cons_zero, List.getElem?_cons_succ] at b0 b1 b2 b3 b4 b5
        have HBX := hid hbx
        clear hbx
        obtain ⟨hlg, hlk, hltg, hltk⟩ := HO1.out.lo
        obtain ⟨hlrg, hlrk, hltrg, hltrk⟩ := HT1.out.lo
        obtain ⟨hvk, hkl, hkb, hkn⟩ : a.keep.length = vk ∧ vk ≤ 140737488351232 ∧ Bls w K' a.keep ∧ (K' = none → vkc = 0) := by
          obtain ⟨KA, KC, eK, e1, e2, e3⟩ := HBL.out
          injection eK with f1 f2 f3
          subst f1 f2 f3
          exact ⟨rfl, e1, e2, e3⟩
        have HVK := hid hvk
        have HKB := hid hkb
        clear hvk hkb
        go_wp2_with (go_at_call 12; refine (ours_on HO1.out).mono ?_; rintro e w7 ⟨rfl, ho7, hm7⟩; have HO7 := hid ho7; have HT7 := hid (HT1.out.frame HO1.out hkr hm7); have HBX7 := hid (hm7.keep HO1.out HBX.out (by decide) (by decide) (by decide)); have HK7 := hid (HG1.out.kp.trans (hm7.old hlg hlk)); have hlt7 : bx < w7.heap.size := (Array.getElem?_eq_some_iff.1 HBX7.out).1; have z4 : w7.cell? ⟨bx, 4, none⟩ = some (.int .i64 a.n) := cell_of_row w7 bx 4 _ 46 (0, 0) HBX7.out; have z5 : w7.cell? ⟨bx, 5, none⟩ = some (.slice K' vk vkc) := cell_of_row w7 bx 5 _ 46 (0, 0) HBX7.out; have hrg7 : rg < w7.heap.size := HT7.out.lo.2.2.1; have z1 : w7.cell? ⟨bx, 1, none⟩ = some (.int .i64 a.sector) := cell_of_row w7 bx 1 _ 46 (0, 0) HBX7.out; have hbr : bx ≠ rg := (by obtain ⟨_, hh⟩ := HT7.out.rb; exact type_ne HBX7.out hh (by decide)); have hrb := Ne.symm hbr; clear ho7 hm7; obtain ⟨rq, rfq, hfq⟩ : ∃ rq : Bool, w7.cell? ⟨rg, 4, none⟩ = some (.bool rq) ∧ w7.frozen? ⟨rg, 4, none⟩ = false := (by obtain ⟨_, _, _, tt, _⟩ := HT7.out; exact ⟨_, tt.rb.cell 4, tt.rb.frozen 4⟩))
        have HTO := hid (theirs_on HT7.out)
        have HT5 := hid HTO.out.1
        have HO5 := hid (HO7.out.frame HT7.out hkr HTO.out.2)
        have HBX5 := hid (HTO.out.2.keep HT7.out HBX7.out (by decide) (by decide) (by decide))
        have HG5 := hid ((HK7.out.trans (HTO.out.2.old hlrg hlrk)).gr)
        have HBD5 := hid (bd_o HBD.out)
        obtain ⟨w5, hw5⟩ : ∃ w5, w7.setCell ⟨rg, 4, none⟩ (.bool false) = w5 := ⟨_, rfl⟩
        rw [hw5] at HT5 HO5 HBX5 HG5
        try rw [hw5]
        clear b0 b1 b2 b3 b4 b5 HTO
        have hEq5 := hid hw5
        clear hw5
        have SM := hid (same_any a.sector HO5.out HT5.out (HG5.out.size))
        have c1 := cell_of_row w5 bx 1 _ 46 (0, 0) HBX5.out
        simp only [List.getElem?_toArray, List.getElem?_cons_zero, List.getElem?_cons_succ] at c1
        have hb5 : bx < w5.heap.size := (Array.getElem?_eq_some_iff.1 HBX5.out).1
        go_wp2_with (go_at_call 27; refine SM.out.mono ?_; rintro e _ ⟨rfl, y6, rfl⟩)
        go_roundw
        case rel => exact ⟨j + 1, by omega, by go_num, ⟨_, HO5.out.gr y6.gr, HT5.out.gr y6.gr, HBD5.out⟩, HG5.out.trans y6.gr⟩
        case measure => simp [intOf]; omega
      have p1 : (op == 1) = false := by simpa using o1
      have p2 : (op == 2) = false := by simpa using o2
      have p3 : (op == 3) = false := by simpa using o3
      have p4 : (op == 4) = false := by simpa using o4
      have p5 : (op == 5) = false := by simpa using o5
      go_wp2_with fail
      have hbx := heap_alloc_new wr (Obj.cells #[Value.int IntKind.i64 op, Value.int IntKind.i64 a.sector, Value.int IntKind.u8 ↑a.fill.toNat, Value.slice D vb vc, Value.int IntKind.i64 a.n, Value.slice K' vk vkc] 46)
      have HO1 := hid (HO.out.gr ((Gr.refl wr).alloc (Obj.cells #[Value.int IntKind.i64 op, Value.int IntKind.i64 a.sector, Value.int IntKind.u8 ↑a.fill.toNat, Value.slice D vb vc, Value.int IntKind.i64 a.n, Value.slice K' vk vkc] 46)))
      have HT1 := hid (HT.out.gr ((Gr.refl wr).alloc (Obj.cells #[Value.int IntKind.i64 op, Value.int IntKind.i64 a.sector, Value.int IntKind.u8 ↑a.fill.toNat, Value.slice D vb vc, Value.int IntKind.i64 a.n, Value.slice K' vk vkc] 46)))
      have HG1 := hid (HG.out.alloc (Obj.cells #[Value.int IntKind.i64 op, Value.int IntKind.i64 a.sector, Value.int IntKind.u8 ↑a.fill.toNat, Value.slice D vb vc, Value.int IntKind.i64 a.n, Value.slice K' vk vkc] 46))
      have hsz1 : wr.heap.size < (wr.alloc (Obj.cells #[Value.int IntKind.i64 op, Value.int IntKind.i64 a.sector, Value.int IntKind.u8 ↑a.fill.toNat, Value.slice D vb vc, Value.int IntKind.i64 a.n, Value.slice K' vk vkc] 46)).heap.size := by simp
      obtain ⟨bx, hbxe⟩ : ∃ bx, wr.heap.size = bx := ⟨_, rfl⟩
      obtain ⟨W1, hW1⟩ : ∃ W1, wr.alloc (Obj.cells #[Value.int IntKind.i64 op, Value.int IntKind.i64 a.sector, Value.int IntKind.u8 ↑a.fill.toNat, Value.slice D vb vc, Value.int IntKind.i64 a.n, Value.slice K' vk vkc] 46) = W1 := ⟨_, rfl⟩
      rw [hW1] at hbx HO1 HT1 HG1 hsz1
      try rw [hW1]
      rw [hbxe] at hbx hsz1
      try rw [hbxe]
      clear hW1 hbxe HO HT HG h0 h1 h2 h3 h4 h5 hbA
      have b0 := cell_of_row W1 bx 0 _ 46 (0, 0) hbx
      have b1 := cell_of_row W1 bx 1 _ 46 (0, 0) hbx
      have b2 := cell_of_row W1 bx 2 _ 46 (0, 0) hbx
      have b3 := cell_of_row W1 bx 3 _ 46 (0, 0) hbx
      have b4 := cell_of_row W1 bx 4 _ 46 (0, 0) hbx
      have b5 := cell_of_row W1 bx 5 _ 46 (0, 0) hbx
      simp only [List.getElem?_toArray, List.getElem?_cons_zero, List.getElem?_cons_succ] at b0 b1 b2 b3 b4 b5
      have HBX := hid hbx
      clear hbx
      obtain ⟨hlg, hlk, hltg, hltk⟩ := HO1.out.lo
      obtain ⟨hlrg, hlrk, hltrg, hltrk⟩ := HT1.out.lo
      obtain ⟨hvk, hkl, hkb, hkn⟩ : a.keep.length = vk ∧ vk ≤ 140737488351232 ∧ Bls w K' a.keep ∧ (K' = none → vkc = 0) := by
        obtain ⟨KA, KC, eK, e1, e2, e3⟩ := HBL.out
        injection eK with f1 f2 f3
        subst f1 f2 f3
        exact ⟨rfl, e1, e2, e3⟩
      have HVK := hid hvk
      have HKB := hid hkb
      clear hvk hkb
      have HT5 := HT1
      have HO5 := HO1
      have HBX5 := HBX
      have HG5 := HG1
      have HBD5 := hid HBD.out.up
      obtain ⟨w5, hw5⟩ : ∃ w5, W1 = w5 := ⟨_, rfl⟩
      rw [hw5] at HT5 HO5 HBX5 HG5
      rw [hw5]
      clear hw5 b0 b1 b2 b3 b4 b5
      have SM := hid (same_any a.sector HO5.out HT5.out (HG5.out.size))
      have c1 := cell_of_row w5 bx 1 _ 46 (0, 0) HBX5.out
      simp only [List.getElem?_toArray, List.getElem?_cons_zero, List.getElem?_cons_succ] at c1
      have hb5 : bx < w5.heap.size := (Array.getElem?_eq_some_iff.1 HBX5.out).1
      go_wp2_with (go_at_call 27; refine SM.out.mono ?_; rintro e _ ⟨rfl, y6, rfl⟩)
      go_roundw
      case rel => exact ⟨j + 1, by omega, by go_num, ⟨_, HO5.out.gr y6.gr, HT5.out.gr y6.gr, HBD5.out⟩, HG5.out.trans y6.gr⟩
      case measure => simp [intOf]; omega
    · have hje : n = j := by omega
      subst hje
      have SH := hid (shape_dsk HO.out.dsk)
      go_wp2_with (go_at_call 28; refine SH.out.mono ?_; rintro e _ ⟨rfl, y6, rfl⟩)
      go_ret
      exact ⟨rfl, HG.out.trans y6.gr⟩
end Go.Proofs.Ytkgmienjioplaaa
