import Derived.Test.YtkgmienjioplaaaW4
import Derived.Laws.CopyOwn
namespace Go.Proofs.Ytkgmienjioplaaa
open Go.RowKit Go.Ext Go.BigFrame
attribute [local go_sem] Ext.cell Ext.frozen Ext.lt Ext.le s1 s2 s3 s4 s5 s6 t1 t2 t3 t4 t5 t6
attribute [local go_sem ↓] Go.wp_at_zero Go.wp_at_succ

theorem step_copy_mod {P : Program} {ops : Array Oper} {o : Oper} {a : Act} {w : World} {K : Act → World → Prop} {Q : Exit → Act → World → Prop} {E : Prop} (hgd : o.guard = none) (d s : Operand) (dT sT : TypeId)
    (ho : o.op = .call { callee := .builtin .copy, args := #[d, s], argTypes := #[dT, sT] }) (elem : TypeId) (hu : P.underlying dT = some (.slice elem)) (hsz : (P.info? elem).map (·.size) = some 1)
    (dp sp : Option Addr) (dLen dCap sLen sCap : Nat) (hd : a.eval d = .slice dp dLen dCap) (hs : a.eval s = .slice sp sLen sCap)
    (g off : Nat) (cur : List Value) (t : TypeId) (hg : w.heap[g]? = some (.cells cur.toArray t (0, 0))) (cs : List Value) (hn : cs.length = Nat.min sLen dLen)
    (hpd : dp = some ⟨g, off, none⟩) (ad : Addr) (hps : sp = some ad) (hsrc : ∀ j v, cs[j]? = some v → w.cell? (ad.add j) = some v)
    (hfit : off + cs.length ≤ cur.length) (h1 : ∀ v ∈ cs, v.oneCell' = true)
    (h : ∀ w', Hid (w'.heap[g]? = some (.cells (splice cur off cs).toArray t (0, 0))) → Mod (fun b => b = g) w w' → K (a.put o.dst (goInt cs.length)) w') :
    if Region.wanted o (yielded ops a.tmps) = true then Oper.wp P o a w K Q else E := by
  have hw : Region.wanted o (yielded ops a.tmps) = true := by simp [Region.wanted, hgd]
  rw [if_pos hw]
  subst hpd hps
  have hrun := run_copy_row (P := P) w dT sT o.type elem g off dLen dCap ad sLen sCap cur.toArray t cs hu hsz hg hn hsrc (by simpa using hfit) h1
  unfold Oper.wp
  simp [execOp, ho, resolve, invoke, builtin, hd, hs, hrun, Result.andThen]
  refine h _ (show _ = _ by simpa [splice] using setRow_heap w g _ _ t _ hg) ⟨rfl, rfl, rfl, ?_, ?_⟩
  · simp [World.setRow]
  · exact fun k _ hn => setRow_other w g k _ hn

theorem bc_splice (K : List UInt8) (o : Nat) (b : List UInt8) : splice (bc K) o (bc b) = bc (splice K o b) := by
  simp [bc, splice, List.map_take, List.map_drop]

theorem size5 : (Try.prog.info? 5).map (·.size) = some 1 := by kernel_rfl

section
variable {w w' : World} {g kb : Nat} {off : Bool} {armed : Int} {keep : Value} {sz n : Nat} {pend : Value} {writes : Int}

theorem OwnE.shape {kb base B : Nat} {w : World} {v : Value} {L : List Ent} (h : OwnE kb base B w v L) : ∃ A c, v = .slice A L.length c := by
  obtain ⟨ys, h1, _⟩ := h
  rcases h1.2 with ⟨rfl, h0⟩ | ⟨g, cap, cur, rfl, _⟩
  · exact ⟨none, 0, by rw [h0]⟩
  · exact ⟨_, _, rfl⟩

/-- A pending write laid. -/
def put1 (sz : Nat) (K : List UInt8) (e : Ent) : List UInt8 := splice K (e.1.toNat * sz) e.2
/-- Those of the pending writes that are kept, laid one behind the other. -/
def layF (sz : Nat) (kp : Nat → Bool) (K : List UInt8) (P : List Ent) : Nat → List UInt8
  | 0 => K
  | j + 1 => if kp j then put1 sz (layF sz kp K P j) (P.getD j (0, [])) else layF sz kp K P j

theorem layF_succ (kp : Nat → Bool) (K : List UInt8) (P : List Ent) (j : Nat) : layF sz kp K P (j + 1) = if kp j then put1 sz (layF sz kp K P j) (P.getD j (0, [])) else layF sz kp K P j := rfl
theorem layF_length (kp : Nat → Bool) (K : List UInt8) (P : List Ent) (S : Nat) (hK : K.length = S * sz) (hPs : ∀ j, j < P.length → 0 ≤ (P.getD j (0, [])).1 ∧ (P.getD j (0, [])).1 < S ∧ (P.getD j (0, [])).2.length = sz) : ∀ j, j ≤ P.length → (layF sz kp K P j).length = S * sz
  | 0, _ => hK
  | j + 1, hj => by
    have ih := layF_length kp K P S hK hPs j (by omega)
    unfold layF
    split
    · obtain ⟨h1, h2, h3⟩ := hPs j (by omega)
      unfold put1
      rw [length_splice _ _ _ ?_, ih]
      rw [ih, h3, ← Nat.succ_mul]
      exact Nat.mul_le_mul_right _ (by omega)
    · exact ih

theorem kb_kp {base : Nat} {w w' : World} {K : List UInt8} (m : Mod (fun b => b = kb) w w') (hK : KB w kb K) (hlk : base ≤ kb) : Kp (TK kb) base w w' := m.kp (by
  rintro k rfl ⟨_, h1 | ⟨cs', t, fz, h1, h2⟩⟩
  · omega
  · simp [TK] at h2)
theorem OwnE.mod {base B : Nat} {w w' : World} {v : Value} {P : List Ent} {K : List UInt8} (h : OwnE kb base B w v P) (m : Mod (fun b => b = kb) w w') (hK : KB w kb K) (hlk : base ≤ kb) : OwnE kb base B w' v P := by
  obtain ⟨ys, h1, h2⟩ := h
  refine ⟨ys, ⟨h1.1, ?_⟩, h2.kp (kb_kp m hK hlk)⟩
  rcases h1.2 with h3 | ⟨g', cap, cur, hv, hb, hh, r⟩
  · exact .inl h3
  · have hne' : g' ≠ kb := fun e => by subst e; unfold KB at hK; rw [hK] at hh; injection hh with hh; injection hh with _ ht _; cases ht
    exact .inr ⟨g', cap, cur, hv, hb, (m.block g' (Array.getElem?_eq_some_iff.1 hh).1 hne').trans hh, r⟩
theorem OwnE.sl {base B n c : Nat} {w : World} {A : Option Addr} {P : List Ent} (h : OwnE kb base B w (.slice A n c) P) (hn : n = P.length) : Sl kb base w A P := by
  subst hn
  obtain ⟨ys, h1, h2⟩ := h
  exact ⟨ys, Rd.of_own h1, h2⟩

set_option maxRecDepth 100000 in
set_option maxHeartbeats 2000000 in
theorem lay_any (base S : Nat) (fn : FuncId) (caps : Array Value) (kp : Nat → Bool) (K : List UInt8) (P : List Ent) (B : Nat) (h : DB w g kb off armed keep sz n pend writes) (hK : KB w kb K) (hn : n = S * sz) (hKn : K.length = n) (hz : 0 < sz) (hb : n ≤ 16777216)
    (hP : OwnE kb base B w pend P) (hPl : P.length ≤ 4398046511103) (hPs : ∀ j, j < P.length → 0 ≤ (P.getD j (0, [])).1 ∧ (P.getD j (0, [])).1 < S ∧ (P.getD j (0, [])).2.length = sz) (hkg : kb ≠ g) (hlk : base ≤ kb)
    (hfn : ∀ (args : Array Value) (W : World), Sem.run Try.prog (callFunc fn args) W = Result.ok (Next.enter fn args) W)
    (hf : ∀ (j : Nat) (W : World), j < P.length → Mod (fun b => b = kb) w W → Calls Try.prog fn (#[.int .i64 j] ++ caps) W (RetE (.bool (kp j)) W)) :
    Calls Try.prog 32 #[.pointer (some ⟨g, 0, none⟩), .func (.func fn) #[] caps] w (fun e w' => e = .returned (.tuple #[]) ∧ DB w' g kb off armed keep sz n (.slice none 0 0) writes ∧ KB w' kb (layF sz kp K P P.length) ∧ Mod (fun b => b = kb ∨ b = g) w w') := by
  obtain ⟨A, c, rfl⟩ := hP.shape
  have H := hid h
  have HK := hid hK
  have HP := hid hP
  have HS := hid hPs
  have HF := hid hf
  have c5 := h.cell 5
  have hlt := h.lt
  simp at c5
  clear h hK hP hPs hf
  go_enter Try.func32, Try.ntmps32
  go_wp2_with fail
  go_loopw [4, 5, 11] (fun _ _ i wr => ∃ j : Nat, j ≤ P.length ∧ i = .int .i64 j ∧ Mod (fun b => b = kb) w wr ∧ KB wr kb (layF sz kp K P j)) (fun _ _ i _ => P.length - (intOf i).toNat)
  case atStart => exact ⟨0, Nat.zero_le _, rfl, (Gr.refl _).mod _, HK.out⟩
  case round =>
    obtain ⟨j, hj, rfl, hm, hkj⟩ := hrel
    have HMo := hid hm
    have HKJ := hid hkj
    clear hm hkj
    have HD := hid (show DB wr g kb off armed keep sz n (.slice A P.length c) writes from (HMo.out.block g hlt (Ne.symm hkg)).trans H.out)
    by_cases hlt2 : j < P.length
    · obtain ⟨b, of, D, c', rfl, d1, d2, d3, d4⟩ := ((HP.out.mod HMo.out HK.out hlk).sl rfl).at_ hlt2
      obtain ⟨p1, p2, p3⟩ := HS.out j hlt2
      obtain ⟨⟨ei, eb⟩, he⟩ : ∃ e, P.getD j (0, []) = e := ⟨_, rfl⟩
      rw [he] at d1 d2 d3 p1 p2 p3
      simp only at d1 d2 d3 p1 p2 p3
      have HE := hid he
      have HB := hid d3
      clear d3 he
      obtain ⟨i, rfl⟩ : ∃ i : Nat, ei = i := ⟨ei.toNat, by omega⟩
      have HF2 := hid (HF.out j)
      clear HF
      have HL := hid (layF_length kp K P S (hKn.trans hn) HS.out j (by omega))
      clear HS
      go_wp2_with fail
      have G1 := hid (show Gr wr (wr.alloc (.cells #[.int .i64 i, .slice D sz c'] 67)) from (Gr.refl _).alloc _)
      refine (HF2.out _ hlt2 (HMo.out.gr G1.out)).mono ?_
      rintro e _ ⟨rfl, y1, rfl⟩
      have hy1 := y1.lt_alloc
      have HKP := hid (show kp j = kp j from rfl)
      cases hkp : kp j
      · have HN := hid (show layF sz kp K P (j + 1) = layF sz kp K P j by rw [layF_succ, if_neg (by rw [hkp]; exact Bool.false_ne_true)])
        clear hkp HKP
        go_wp2_with fail
        go_roundw
        case rel => exact ⟨j + 1, by omega, by go_num, HMo.out.gr (G1.out.trans y1.gr), by rw [HN.out]; exact ((G1.out.trans y1.gr).block kb (Array.getElem?_eq_some_iff.1 HKJ.out).1).trans HKJ.out⟩
        case measure => simp [intOf]; omega
      · have HN := hid (show layF sz kp K P (j + 1) = put1 sz (layF sz kp K P j) (P.getD j (0, [])) by rw [layF_succ, if_pos hkp])
        clear hkp HKP
        rw [HE.out] at HN
        generalize layF sz kp K P j = Kj at *
        obtain ⟨bd, od, rfl, hrd⟩ : ∃ bd od, D = some ⟨bd, od, none⟩ ∧ Rd wr (some ⟨bd, od, none⟩) (bc eb) := by
          obtain ⟨A', c'', e, _, h2, _, _⟩ := HB.out
          injection e with e1 _ _
          subst e1
          obtain ⟨bd, od, e, _⟩ := h2 (by intro h; have := congrArg List.length h; rw [bc_length] at this; simp at this; rw [this] at p3; simp at p3; omega)
          subst e
          exact ⟨bd, od, rfl, h2⟩
        have HRD := hid hrd
        clear hrd
        have hfit : i * sz + sz ≤ n := by rw [hn, ← Nat.succ_mul]; exact Nat.mul_le_mul_right _ (by omega)
        have hLb : (bc eb).length = sz := by rw [bc_length, p3]
        have hLk : (bc Kj).length = n := by rw [bc_length, HL.out, hn]
        obtain ⟨cs, hcs⟩ : ∃ cs, bc eb = cs := ⟨_, rfl⟩
        have HCS := hid hcs
        rw [hcs] at HRD hLb
        have h1c : ∀ v ∈ cs, v.oneCell' = true := by rw [← hcs]; exact bc_one eb
        clear hcs
        have HH1c := hid h1c
        clear h1c
        have HS0 := hid hn
        clear hn
        go_wp2_with fail
        have G2 := hid (G1.out.trans y1.gr)
        go_region_law (first
          | (go_simp; go_at_call 35
             refine (calls_gr (w0 := y1.val) ?_ (place_any S i (HD.out.gr ?_) HS0.out (by omega) hb hz)).mono ?_
             · repeat (first | exact Gr.refl _ | refine Gr.ext ?_ _ | refine Gr.alloc ?_ _ | refine Gr.drew ?_)
             · repeat (first | exact G2.out | refine Gr.ext ?_ _ | refine Gr.alloc ?_ _ | refine Gr.drew ?_)
             rintro e _ ⟨rfl, y2, rfl⟩)
          | (refine step_copy_mod (by rfl) (.tmp 22) (.tmp 24) 22 22 (by rfl) 5 Try.underlying22 size5 _ _ sz sz sz c' (by rfl) (by rfl) kb (i * sz) (bc Kj) 5 (((G2.out.trans y2.gr).block kb (Array.getElem?_eq_some_iff.1 HKJ.out).1).trans HKJ.out) cs (by rw [hLb]; simp) rfl ⟨bd, od, none⟩ rfl (HRD.out.gr (G2.out.trans y2.gr)).add (by rw [hLb, hLk]; exact hfit) HH1c.out ?_
             intro w8 hw8 hm8))
        all_goals (
          go_wp2_with fail
          have HKN : KB w8 kb (layF sz kp K P (j + 1)) := by
            rw [HN.out]
            unfold KB put1
            rw [← bc_splice, HCS.out]
            have e : ((i : Int).toNat) = i := Int.toNat_natCast i
            rw [e]
            exact hw8.out
          have HM8 := (HMo.out.gr (G2.out.trans y2.gr)).trans hm8 (fun _ _ h => h)
          go_roundw
          case rel => exact ⟨j + 1, by omega, by go_num, HM8, HKN⟩
          case measure => simp [intOf]; omega)
    · have hje : j = P.length := by omega
      have k5 : wr.cell? ⟨g, 5, none⟩ = some (.slice A P.length c) := by have := HD.out.cell 5; simpa using this
      have f5 : wr.frozen? ⟨g, 5, none⟩ = false := HD.out.frozen 5
      have HJ := hid hje
      clear hje
      go_wp2_with fail
      go_end0
      refine ⟨rfl, HD.out.set5 _, ?_, ((HMo.out.mono (S' := fun b => b = kb ∨ b = g) (fun _ _ h => .inl h)).set (fun _ => .inr rfl) _)⟩
      rw [← HJ.out]
      exact (Below.heap_setCell _ _ _ _ hkg).trans HKJ.out
end
end Go.Proofs.Ytkgmienjioplaaa
