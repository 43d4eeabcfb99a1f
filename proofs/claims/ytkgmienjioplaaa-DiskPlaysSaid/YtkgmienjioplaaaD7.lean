import Derived.Test.YtkgmienjioplaaaD5
import Derived.Test.YtkgmienjioplaaaRead
namespace Go.Proofs.Ytkgmienjioplaaa
open Go.RowKit Go.Ext Go.BigFrame
attribute [local go_sem] Ext.cell Ext.frozen Ext.lt Ext.le s1 s2 s3 s4 s5 s6 t1 t2 t3 t4 t5 t6
attribute [local go_sem ↓] Go.wp_at_zero Go.wp_at_succ

/-- An act of a play. -/
structure ActM where
  op : Int
  sector : Int
  fill : UInt8
  bytes : List UInt8
  n : Int
  keep : List Bool
/-- Bools that were there. -/
def BlsR (w : World) (v : Value) (ks : List Bool) : Prop := ∃ A c, v = .slice A ks.length c ∧ ks.length ≤ 140737488351232 ∧ Bls w A ks ∧ (A = none → c = 0)
theorem BlsR.gr {w w' : World} {v : Value} {ks : List Bool} (h : BlsR w v ks) (g : Gr w w') : BlsR w' v ks := by
  obtain ⟨A, c, h1, h2, h3, h4⟩ := h
  exact ⟨A, c, h1, h2, Rd.gr h3 g, h4⟩
/-- A slice that reads as acts. -/
def Acts (w : World) (A : Option Addr) (L : List ActM) : Prop :=
  ∀ i, (h : i < L.length) → ∃ b off B vb bc' K vk kc, A = some ⟨b, off, none⟩ ∧ b < w.heap.size ∧
    w.cell? ⟨b, off + i * 6, none⟩ = some (.int .i64 L[i].op) ∧ w.cell? ⟨b, off + i * 6 + 1, none⟩ = some (.int .i64 L[i].sector) ∧ w.cell? ⟨b, off + i * 6 + 2, none⟩ = some (.int .u8 (L[i].fill.toNat : Int)) ∧
    w.cell? ⟨b, off + i * 6 + 3, none⟩ = some (.slice B vb bc') ∧ w.cell? ⟨b, off + i * 6 + 4, none⟩ = some (.int .i64 L[i].n) ∧ w.cell? ⟨b, off + i * 6 + 5, none⟩ = some (.slice K vk kc) ∧
    BytR w (.slice B vb bc') L[i].bytes ∧ BlsR w (.slice K vk kc) L[i].keep
theorem BytR.gr {w w' : World} {v : Value} {bs : List UInt8} (h : BytR w v bs) (g : Gr w w') : BytR w' v bs := by
  obtain ⟨A, c, h1, h2, h3, h4⟩ := h
  exact ⟨A, c, h1, h2, Rd.gr h3 g, h4⟩
theorem Acts.gr {w w' : World} {A : Option Addr} {L : List ActM} (h : Acts w A L) (g : Gr w w') : Acts w' A L := fun i hi => by
  obtain ⟨b, off, B, vb, bc', K, vk, kc, e, hb, h0, h1, h2, h3, h4, h5, h6, h7⟩ := h i hi
  have k : ∀ o, w'.cell? ⟨b, o, none⟩ = w.cell? ⟨b, o, none⟩ := fun o => g.cell (p := ⟨b, o, none⟩) hb
  exact ⟨b, off, B, vb, bc', K, vk, kc, e, Nat.lt_of_lt_of_le hb g.size, (k _).trans h0, (k _).trans h1, (k _).trans h2, (k _).trans h3, (k _).trans h4, (k _).trans h5, h6.gr g, h7.gr g⟩

set_option maxRecDepth 100000 in
set_option maxHeartbeats 2000000 in
theorem few_any (A : Option Addr) (c : Nat) (L : List ActM) (w : World) (h : Acts w A L) (hl : L.length ≤ 4398046511000) :
    Calls Try.prog 17 #[.slice A L.length c] w (fun e w' => ∃ b : Bool, e = .returned (.bool b) ∧ (b = true → L.length ≤ 200) ∧ Gr w w') := by
  have HA := hid h
  clear h
  obtain ⟨n, hn⟩ : ∃ n, L.length = n := ⟨_, rfl⟩
  have HN := hid hn
  rw [hn] at hl ⊢
  clear hn
  go_enter Try.func17, Try.ntmps17
  go_wp2_with fail
  go_loopw [3, 4] (fun s i wr => ∃ j : Nat, j ≤ n ∧ i = .int .i64 j ∧ (∃ v : Int, s = .int .i64 v) ∧ Gr w wr) (fun _ i _ => n - (intOf i).toNat)
  case atStart => exact ⟨0, Nat.zero_le _, rfl, ⟨0, rfl⟩, Gr.refl _⟩
  case round =>
    obtain ⟨j, hj, rfl, ⟨v, rfl⟩, hg⟩ := hrel
    have HG := hid hg
    clear hg
    by_cases hlt : j < n
    · obtain ⟨b, off, B, vb, bc', K, vk, kc, rfl, hb, h0, h1, h2, h3, h4, h5, _, _⟩ := (HA.out.gr HG.out) j (by rw [HN.out]; exact hlt)
      clear h0 h1 h2 h4
      go_wp2_with fail
      refine wp_region_ext (by kernel_rfl) (by kernel_rfl) ?_
      repeat (go_big_quiet_step (fail))
      refine wpQuiet_nil ?_
      rintro _ ⟨x9, rfl⟩
      go_wp2_with fail
      go_roundw
      case rel => exact ⟨j + 1, by omega, by go_num, ⟨_, rfl⟩, HG.out.trans x9.gr⟩
      case measure => simp [intOf]; omega
    · by_cases h200 : n ≤ 200
      · go_wp2_with fail
        go_ret
        exact ⟨_, rfl, fun _ => h200, HG.out⟩
      · go_wp2_with fail
        go_ret
        exact ⟨rfl, HG.out⟩

/-- What an act writes. -/
def dataF (a : ActM) (sz : Nat) : List UInt8 := if a.bytes = [] then (List.range sz).map fun i => a.fill + UInt8.ofNat i else a.bytes
/-- .. its first j bytes. -/
def dataJ (f : UInt8) (sz j : Nat) : List UInt8 := (List.range sz).map fun i => if i < j then f + UInt8.ofNat i else 0
theorem dataJ_len (f : UInt8) (sz j : Nat) : (dataJ f sz j).length = sz := by simp [dataJ]
theorem dataJ_zero (f : UInt8) (sz : Nat) : dataJ f sz 0 = List.replicate sz 0 := by
  apply List.ext_getElem <;> simp [dataJ]
theorem dataJ_set (f : UInt8) (sz j : Nat) : (bc (dataJ f sz j)).set j (.int .u8 ((f + UInt8.ofNat j).toNat : Int)) = bc (dataJ f sz (j + 1)) := by
  rw [bc_set]
  congr 1
  apply List.ext_getElem
  · simp [dataJ]
  · intro k h1 h2
    rw [List.getElem_set]
    simp only [dataJ, List.getElem_map, List.getElem_range]
    by_cases e : j = k
    · subst e
      rw [if_pos rfl, if_pos (by omega)]
    · rw [if_neg e]
      by_cases h3 : k < j
      · rw [if_pos h3, if_pos (by omega)]
      · rw [if_neg h3, if_neg (by omega)]
theorem byte_sum (f : UInt8) (j : Nat) : (((f + UInt8.ofNat j).toNat : Nat) : Int) = ((f.toNat : Int) + (j : Int) % 256) % 256 := by
  rw [UInt8.toNat_add]
  simp

theorem bytR_block {w : World} {q c : Nat} {bs : List UInt8} {base kb : Nat} (h : w.heap[q]? = some (.cells (bc bs).toArray 5 (0, 0))) (hl : bs.length ≤ 140737488351232) (hq : q ≠ kb) : Byt (TK kb) base w (.slice (some ⟨q, 0, none⟩) bs.length c) bs := bts_block h hl hq

set_option maxRecDepth 100000 in
set_option maxHeartbeats 4000000 in
theorem data_any (w0 w : World) (kb sz : Nat) (a : ActM) (B K : Option Addr) (vb bc' vk kc : Nat) (hg : Gr w0 w) (hb : BytR w0 (.slice B vb bc') a.bytes) (hkb : kb < w.heap.size) (h0 : 1 ≤ sz) (h1 : sz ≤ 1024) :
    Calls Try.prog 18 #[.agg #[.int .i64 a.op, .int .i64 a.sector, .int .u8 (a.fill.toNat : Int), .slice B vb bc', .int .i64 a.n, .slice K vk kc], .int .i64 sz] w
      (RetP (fun w' v => Byt (TK kb) w0.heap.size w' v (dataF a sz)) w) := by
  have HB := hid (((hb.byt (TK kb)).kp hg.kp))
  have hvb : vb = a.bytes.length := by obtain ⟨A, c, e, _⟩ := hb; injection e
  have hlb : vb ≤ 140737488351232 := by obtain ⟨A, c, e, h, _⟩ := hb; omega
  clear hb
  have HD := hid (show dataF a sz = if a.bytes = [] then dataJ a.fill sz sz else a.bytes by
    unfold dataF dataJ
    split
    · apply List.map_congr_left
      intro i hi
      rw [if_pos (List.mem_range.1 hi)]
    · rfl)
  rw [HD.out]
  clear HD
  generalize a.sector = e1 at *
  generalize a.op = e0 at *
  generalize a.n = e4 at *
  by_cases hv : a.bytes = []
  · rw [if_pos hv]
    have hv0 : vb = 0 := by rw [hvb, hv]; rfl
    subst hv0
    have mk := fun (w : World) => mk_any w sz (by omega)
    rw [← dataJ_zero a.fill] at mk
    have HS := hid (fun j => dataJ_set a.fill sz j)
    have HL := hid (fun j => dataJ_len a.fill sz j)
    have HBS := hid (fun j => byte_sum a.fill j)
    have hfl := a.fill.toNat_lt
    clear HB hv hvb
    generalize a.fill = f at *
    obtain ⟨F, hF⟩ : ∃ F : Int, (f.toNat : Int) = F := ⟨_, rfl⟩
    have hF0 : 0 ≤ F ∧ F < 256 := by omega
    have HF := hid hF
    rw [hF] at HBS ⊢
    clear hF hfl
    go_enter Try.func18, Try.ntmps18
    go_wp2_with fail
    have hq : ((w.alloc (Obj.cells #[Value.int IntKind.i64 e0, Value.int IntKind.i64 e1, Value.int IntKind.u8 F, Value.slice B 0 bc', Value.int IntKind.i64 e4, Value.slice K vk kc] 46)).alloc (Obj.cells (bc (dataJ f sz 0)).toArray 5)).heap[w.heap.size + 1]? = some (Obj.cells (bc (dataJ f sz 0)).toArray 5 (0, 0)) := by
      have := heap_alloc_new (w.alloc (Obj.cells #[Value.int IntKind.i64 e0, Value.int IntKind.i64 e1, Value.int IntKind.u8 F, Value.slice B 0 bc', Value.int IntKind.i64 e4, Value.slice K vk kc] 46)) (Obj.cells (bc (dataJ f sz 0)).toArray 5)
      rwa [World.size_alloc] at this
    have hx : ((w.alloc (Obj.cells #[Value.int IntKind.i64 e0, Value.int IntKind.i64 e1, Value.int IntKind.u8 F, Value.slice B 0 bc', Value.int IntKind.i64 e4, Value.slice K vk kc] 46)).alloc (Obj.cells (bc (dataJ f sz 0)).toArray 5)).cell? ⟨w.heap.size, 2, none⟩ = some (.int .u8 F) := by
      have := (((Gr.refl (w.alloc _)).alloc (Obj.cells (bc (dataJ f sz 0)).toArray 5)).block w.heap.size (by simp)).trans (heap_alloc_new w (Obj.cells #[Value.int IntKind.i64 e0, Value.int IntKind.i64 e1, Value.int IntKind.u8 F, Value.slice B 0 bc', Value.int IntKind.i64 e4, Value.slice K vk kc] 46))
      rw [cell_of_row _ w.heap.size 2 _ 46 (0, 0) this]
      rfl
    have hg0 := ((Gr.refl w).alloc (Obj.cells #[Value.int IntKind.i64 e0, Value.int IntKind.i64 e1, Value.int IntKind.u8 F, Value.slice B 0 bc', Value.int IntKind.i64 e4, Value.slice K vk kc] 46)).alloc (Obj.cells (bc (dataJ f sz 0)).toArray 5)
    go_loopw [6] (fun i wr => ∃ j : Nat, j ≤ sz ∧ i = .int .i64 j ∧ wr.heap[w.heap.size + 1]? = some (Obj.cells (bc (dataJ f sz j)).toArray 5 (0, 0)) ∧ wr.cell? ⟨w.heap.size, 2, none⟩ = some (.int .u8 F) ∧ Gr w wr) (fun i _ => sz - (intOf i).toNat)
    case atStart => exact ⟨0, Nat.zero_le _, rfl, hq, hx, hg0⟩
    case round =>
      clear hq hx hg0
      obtain ⟨j, hj, rfl, hq, hx, hg⟩ := hrel
      have HG := hid hg
      clear hg
      have hlq : w.heap.size + 1 < wr.heap.size := (Array.getElem?_eq_some_iff.1 hq).1
      by_cases hlt : j < sz
      · have cq : wr.cell? ⟨w.heap.size + 1, j, none⟩ = some (.int .u8 0) := by
          rw [cell_of_row wr _ j _ 5 (0, 0) hq]
          simp [bc, dataJ, hlt]
        have fq : wr.frozen? ⟨w.heap.size + 1, j, none⟩ = false := by simp [World.frozen?, hq]
        have HQ := hid hq
        clear hq
        go_wp2_with fail
        have e : (F + (j : Int)) % 256 = ((f + UInt8.ofNat j).toNat : Int) := by rw [HBS.out]; omega
        go_roundw
        case rel =>
          refine ⟨j + 1, by omega, by go_num, ?_, ?_, HG.out.set (Nat.le_add_right _ _) _⟩
          · rw [e, ← HS.out]
            have := heap_set wr (w.heap.size + 1) j _ 5 (0, 0) (.int .u8 ((f + UInt8.ofNat j).toNat : Int)) HQ.out
            rw [this]
            simp
          · exact (World.cell?_of_block (Below.heap_setCell _ _ _ _ (by simp))).trans hx
        case measure => simp [intOf]; omega
      · have hje : sz = j := by omega
        subst hje
        have HQ := hid hq
        clear hq
        go_wp2_with fail
        go_ret
        have hb := bts_block (base := w0.heap.size) (kb := kb) (c := sz) HQ.out (by rw [HL.out]; omega) (by omega)
        rw [HL.out] at hb
        exact ⟨_, ⟨wr, HG.out⟩, rfl, rfl, hb⟩
  · rw [if_neg hv]
    rw [hvb] at HB
    have hv0 : 0 < vb := by
      have := List.length_pos_iff.2 hv
      omega
    obtain ⟨f, hf⟩ : ∃ f : Int, (a.fill.toNat : Int) = f := ⟨_, rfl⟩
    rw [hf]
    clear hf
    go_enter Try.func18, Try.ntmps18
    go_wp2_with fail
    go_ret
    exact ⟨_, ⟨_, (Gr.refl w).alloc _⟩, rfl, rfl, HB.out.kp ((Gr.refl w).alloc _).kp⟩
end Go.Proofs.Ytkgmienjioplaaa
