import Derived.Test.YtdgkgmlnjolloaaDoorS2
namespace Go.Proofs.YtdgkgmlnjolloaaDoor
open Go.RowKit Go.Ext Go.BigFrame
attribute [local go_sem] Ext.cell Ext.frozen Ext.lt Ext.le s1 s2 s3 s4 s5 s6 t1 t2 t3 t4 t5 t6
attribute [local go_sem ↓] Go.wp_at_zero Go.wp_at_succ

/-! ### Wrap -/
def wc (ws : List ByteArray) : List Value := ws.map .string
theorem wc_len (ws : List ByteArray) : (wc ws).length = ws.length := by simp [wc]
theorem wrap_nil (x : Value) (w : World) : Calls Tryd.prog 16 #[.nilIface, x] w (fun e w' => e = .returned .nilIface ∧ w = w') := by
  go_enter Tryd.func16, Tryd.ntmps16
  go_wp2_with fail
  go_ret
  exact ⟨rfl, rfl⟩
set_option maxRecDepth 100000 in
set_option maxHeartbeats 2000000 in
theorem wrap_any (ws : List ByteArray) (A : Option Addr) (c : Nat) (r0 : List ByteArray) (b : Option Int) (v : Value) (w : World) (h : Ch w r0 b v) (hr : Rd w A (wc ws)) (hl : ws.length ≤ 1000000) :
    Calls Tryd.prog 16 #[v, .slice A ws.length c] w (fun e w' => ∃ v', e = .returned v' ∧ Gr w w' ∧ Ch w' (ws ++ r0) b v') := by
  obtain ⟨tt, xx, rfl⟩ := h.shape
  have H := hid h
  have HR := hid hr
  clear h hr
  go_enter Tryd.func16, Tryd.ntmps16
  go_wp2_with fail
  go_loopg [0, 5] ws.length (fun k v i wr => ∃ t x, v = .iface t x ∧ i = .int .i64 ((k : Int) - 1) ∧ k ≤ ws.length ∧ Gr w wr ∧ Ch wr (ws.drop k ++ r0) b v)
  case atStart => exact ⟨_, _, rfl, rfl, Nat.le_refl _, Gr.refl _, by simpa using H.out⟩
  case round =>
    obtain ⟨t, x, rfl, rfl, hk, hg, hc⟩ := hrel
    have HG := hid hg
    have HC := hid hc
    cases gk with
    | zero =>
      clear hc hg
      have e1 : (0 ≤ ((0 : Nat) : Int) - 1) = False := by simp
      go_wp2_with fail
      go_ret
      exact ⟨_, rfl, HG.out, by simpa using HC.out⟩
    | succ k =>
      obtain ⟨s, hs⟩ : ∃ s, ws[k]? = some s := ⟨ws[k]'(by omega), List.getElem?_eq_getElem (by omega)⟩
      obtain ⟨B, off, rfl, hcell⟩ := HR.out.at_ (j := k) (u := .string s) (by simp [wc, hs])
      have c0 : wr.cell? ⟨B, off + k, none⟩ = some (.string s) := (hg.cell (p := ⟨B, off + k, none⟩) (World.block_lt_of_cell? w _ hcell)).trans hcell
      have hdrop : ws.drop k = s :: ws.drop (k + 1) := by
        rw [List.drop_eq_getElem_cons (by omega)]
        congr 1
        rw [List.getElem?_eq_getElem (by omega)] at hs
        injection hs
      have HD := hid hdrop
      have e2 : ((k + 1 : Nat) : Int) - 1 = (k : Int) := by omega
      rw [e2]
      clear e2 hcell hc hg hdrop hs
      go_wp2_with fail
      go_roundg k
      case measure => omega
      case rel =>
        refine ⟨_, _, rfl, rfl, by omega, HG.out.alloc _, ?_⟩
        rw [HD.out]
        exact ⟨_, _, rfl, heap_alloc_new wr _, HC.out.gr ((Gr.refl wr).alloc _)⟩
end Go.Proofs.YtdgkgmlnjolloaaDoor
