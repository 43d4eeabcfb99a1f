/- Lemmas of the engine. -/
import Derived.Deep.AppendSrc
import Derived.Deep.CutRange
import Derived.Deep.Onto
import Derived.Test.YtniknicnnaiilaaGreatX03
import Derived.Test.YtniknicnnaiilaaGreatX05
section
namespace Go.Ext
section
variable {P:Program} {ops:Array Oper} {Q:Exit→Act→World→Prop} {md:Region.Mode} {S:World→Prop}
def z2i (P:Program) (md:Region.Mode) (ops:Array Oper) (Q:Exit→Act→World→Prop) (S:World→Prop):Nat→Array Bool→Act→World→Prop
 | 0,listed,a,w=>Region.ready md ops listed=[]∧Q .normal a w
 | fuel+1,listed,a,w =>
  (Region.ready md ops listed=[]→Q .normal a w) ∧
  ∀ i∈Region.ready md ops listed,wpOp P ops Q i (fun a' w'=>(S w'∨∀ k,k≠i→listed.getD k true=true)∧z2i P md ops Q S fuel (listed.setIfInBounds i true) a' w') a w
theorem z5Y:∀ (fuel:Nat) (listed:Array Bool) (a:Act) (w:World),z2i P md ops Q S fuel listed a w→wpAny P md ops Q fuel listed a w
 | 0,_,_,_,h=>h
 | fuel+1,_,_,_,h=>⟨h.1,fun i hi=>wpOp_mono (fun a' w' h'=>z5Y fuel _ a' w' h'.2) (h.2 i hi)⟩
def Cl (md:Region.Mode) (ops:Array Oper) (listed:Array Bool):Prop:=∀ (k:Nat) (o:Oper),ops[k]?=some o→listed.getD k true=true→∀ e∈o.after,Region.binds md e=true→listed.getD e.on true=true
def Dep (md:Region.Mode) (ops:Array Oper) (i:Nat):Prop:=∃ (k:Nat) (o:Oper),ops[k]?=some o∧∃ e∈o.after,Region.binds md e=true∧e.on=i
theorem zc0 {listed:Array Bool} {i:Nat} (h:listed.getD i false=true):listed.getD i true=true:=by
 rcases Nat.lt_or_ge i listed.size with h' | h'
 ·simp [h'] at h ⊢;exact h
 ·simp [Array.getElem?_eq_none h'] at h
theorem z4r {listed:Array Bool} {i j:Nat} (h:listed.getD j true=true):(listed.setIfInBounds i true).getD j true=true:=by
 by_cases hij:i=j
 ·subst hij
  rcases Nat.lt_or_ge i listed.size with h' | h'
  ·simp [h']
  ·simp [h']
 ·rw [getD_set_ne true hij];exact h
theorem zbZ {listed:Array Bool} {i:Nat} (h:listed.getD i true=false):listed.getD i false=false:=by
 rcases Nat.lt_or_ge i listed.size with h' | h'
 ·simp [h'] at h ⊢;exact h
 ·simp [Array.getElem?_eq_none h'] at h
theorem Cl.set {listed:Array Bool} (h:Cl md ops listed) {j:Nat} (hj:j∈Region.ready md ops listed):Cl md ops (listed.setIfInBounds j true):=by
 intro k o hk hl e he hb
 by_cases hjk:j=k
 ·subst hjk
  obtain ⟨_,o',ho',hall⟩:=mem_ready.1 hj
  rw [hk] at ho';injection ho' with ho';subst ho'
  exact z4r (zc0 (hall e he hb))
 ·rw [getD_set_ne true hjk] at hl
  exact z4r (h k o hk hl e he hb)
theorem z4W {i:Nat} {oi:Oper} {v:Value} (hi:ops[i]?=some oi) (hsel:∀ (j:Nat) (o:Oper) cs b,ops[j]?=some o→o.op≠.select cs b)
  (hQ:∀ c a w,Q (.panic c) (a.put oi.dst v) w→Q (.panic c) a w) (hdep:Dep md ops i) :
  ∀ (fuel:Nat) (listed:Array Bool) (a:Act) (w:World),Cl md ops listed →
   (∀ j oj,ops[j]?=some oj→j≠i→listed.getD j true=false→(∀ e∈oj.after,Region.binds md e=true→e.on≠i)→oi.apart ops oj=true) →
   i∈Region.ready md ops listed→YieldsIf P ops S oi v a→S w →
   z2i P md ops Q S fuel (listed.setIfInBounds i true) (a.put oi.dst v) w→z2i P md ops Q S (fuel+1) listed a w:=by
 intro fuel
 induction fuel with
 | zero =>
  intro listed a w _ _ hr hy hS H
  refine ⟨fun h=>(by rw [h] at hr;cases hr),fun j hj=>?_⟩
  by_cases hji:j=i
  ·subst hji;exact hy.wpOp hi hS ⟨.inl hS,H⟩
  ·have:=ready_mono hj hji
   rw [H.1] at this
   cases this
 | succ fuel ih =>
  intro listed a w hcl hfree hr hy hS H
  refine ⟨fun h=>(by rw [h] at hr;cases hr),fun j hj=>?_⟩
  by_cases hji:j=i
  ·subst hji;exact hy.wpOp hi hS ⟨.inl hS,H⟩
  ·have h1:=H.2 j (ready_mono hj hji)
   obtain ⟨hjun,oj,hoj,hall⟩:=mem_ready.1 hj
   have hnot:∀ e∈oj.after,Region.binds md e=true→e.on≠i:=fun e he hb heq=>by
    have h1:=hall e he hb
    have h0:=(mem_ready.1 hr).1
    rw [heq] at h1
    rcases Nat.lt_or_ge i listed.size with h' | h'
    ·simp [h'] at h0 h1;rw [h0] at h1;cases h1
    ·simp [Array.getElem?_eq_none h'] at h1
   have hno:¬ ∀ k,k≠j→(listed.setIfInBounds i true).getD k true=true:=fun hall2=>by
    obtain ⟨k,o,hk,e,he,hb,heq⟩:=hdep
    have h0:=(mem_ready.1 hr).1
    by_cases hkj:k=j
    ·subst hkj
     rw [hoj] at hk;injection hk with hk;subst hk
     exact hnot e he hb heq
    ·have h3:=hall2 k hkj
     by_cases hki:k=i
     ·subst hki
      obtain ⟨_,o',ho',hall'⟩:=mem_ready.1 hr
      rw [hk] at ho';injection ho' with ho';subst ho'
      have:=hall' e he hb
      rw [heq,zbZ h0] at this;cases this
     ·rw [getD_set_ne true (Ne.symm hki)] at h3
      have:=hcl k o hk h3 e he hb
      rw [heq,h0] at this;cases this
   have h2:=wpOp_putIf hoj (hfree j oj hoj hji hjun hnot) (fun cs b=>hsel i oi cs b hi) (fun cs b=>hsel j oj cs b hoj) hQ hy h1
   have hfree':∀ k ok,ops[k]?=some ok→k≠i→(listed.setIfInBounds j true).getD k true=false →
     (∀ e∈ok.after,Region.binds md e=true→e.on≠i)→oi.apart ops ok=true:=fun k ok hk hki hun hno=>by
    refine hfree k ok hk hki ?_ hno
    by_cases hjk:j=k
    ·subst hjk;exact hjun
    ·rw [getD_set_ne true hjk] at hun;exact hun
   refine wpOp_mono (fun a' w' h3=>?_) h2
   have hS':S w':=h3.2.1.resolve_right hno
   refine ⟨.inl hS',ih (listed.setIfInBounds j true) a' w' (hcl.set hj) hfree' (ready_mono hr (Ne.symm hji)) h3.1 hS' ?_⟩
   rw [Array.setIfInBounds_comm _ _ hji]
   exact h3.2.2
theorem z3C {S S':World→Prop} (hs:∀ W,S' W→S W):∀ (fuel:Nat) (listed:Array Bool) (a:Act) (w:World),z2i P md ops Q S' fuel listed a w→z2i P md ops Q S fuel listed a w
 | 0,_,_,_,h=>h
 | fuel+1,_,_,_,h=>⟨h.1,fun i hi=>wpOp_mono (fun a' w' h'=>⟨h'.1.imp (hs w') id,z3C hs fuel _ a' w' h'.2⟩) (h.2 i hi)⟩
def wpPm (P:Program) (ops:Array Oper) (Q:Exit→Act→World→Prop):List (Nat × Bool)→(World→Prop)→Act→World→Prop
 | [],_,a,w=>Q .normal a w
 | (i,false)::r,S,a,w=>∃ o v,ops[i]?=some o∧YieldsIf P ops S o v a∧wpPm P ops Q r S (a.put o.dst v) w
 | (i,true)::r,S,a,w=>∃ o,ops[i]?=some o∧if Region.wanted o (yielded ops a.tmps)=true then Oper.wp P o a w (fun a' w'=>(r=[]∧Q .normal a' w')∨∃ S':World→Prop,S' w'∧(∀ W,S' W→S W)∧wpPm P ops Q r S' a' w') Q else wpPm P ops Q r S (a.put o.dst undef) w
def depB (md:Region.Mode) (ops:Array Oper) (i:Nat):Bool:=(List.range ops.size).any fun k=>(ops[k]?.map fun o=>o.after.any fun e=>Region.binds md e && e.on==i).getD false
theorem z7I {i:Nat} (h:depB md ops i=true):Dep md ops i:=by
 unfold depB at h
 obtain ⟨k,_,h⟩:=List.any_eq_true.1 h
 cases ho:ops[k]? with
 | none=>rw [ho] at h;cases h
 | some o =>
  rw [ho] at h
  simp only [Option.map_some,Option.getD_some,Array.any_eq_true'] at h
  obtain ⟨e,he,h⟩:=h
  simp only [Bool.and_eq_true,beq_iff_eq] at h
  exact ⟨k,o,ho,e,he,h.1,h.2⟩
def z69 (md:Region.Mode) (ops:Array Oper):List (Nat × Bool)→Array Bool→Bool
 | [],listed=>(Region.ready md ops listed).isEmpty
 | (i,false)::r,listed=>Region.free md ops listed i && depB md ops i && (Region.ready md ops listed).contains i && z69 md ops r (listed.setIfInBounds i true)
 | (i,true)::r,listed=>Region.ready md ops listed==[i] && (!r.isEmpty || (listed.setIfInBounds i true).all id) && z69 md ops r (listed.setIfInBounds i true)
theorem z1w (hsel:Region.noSelect ops=true) (hQ:∀ c a d v w,Q (.panic c) (Act.put a d v) w→Q (.panic c) a w) :
  ∀ (plan:List (Nat × Bool)) (listed:Array Bool) (S:World→Prop) (a:Act) (w:World),Cl md ops listed→z69 md ops plan listed=true→S w→wpPm P ops Q plan S a w→z2i P md ops Q S plan.length listed a w
 | [],_,_,_,_,_,hB,_,h=>⟨by simpa [z69] using hB,h⟩
 | (i,false)::r,listed,S,a,w,hcl,hB,hS,h=>by
  simp only [z69,Bool.and_eq_true] at hB
  obtain ⟨⟨⟨hf,hd⟩,hr⟩,hB'⟩:=hB
  obtain ⟨o,v,ho,hy,h'⟩:=h
  have hr':i∈Region.ready md ops listed:=by simpa using hr
  exact z4W ho (Region.noSelect_spec hsel) (fun c a w=>hQ c a _ _ w) (z7I hd) _ listed a w hcl (Region.free_spec ho hf) hr' hy hS (z1w hsel hQ r _ S _ w (hcl.set hr') hB' hS h')
 | (i,true)::r,listed,S,a,w,hcl,hB,hS,h=>by
  simp only [z69,Bool.and_eq_true,beq_iff_eq] at hB
  obtain ⟨⟨hr,hlast⟩,hB'⟩:=hB
  obtain ⟨o,ho,h'⟩:=h
  refine ⟨fun h0=>(by rw [hr] at h0;cases h0),fun j hj=>?_⟩
  have hji:j=i:=by rw [hr] at hj;simpa using hj
  subst hji
  unfold wpOp
  simp only [ho]
  split
  ·rename_i hw
   rw [if_pos hw] at h'
   refine .inl (Oper.wp_mono (fun a' w' h9=>?_) h')
   rcases h9 with ⟨rfl,h3⟩ | ⟨S',h1,h2,h3⟩
   ·refine ⟨.inr fun k hk=>?_,⟨by simpa [z69] using hB',h3⟩⟩
    simp only [List.isEmpty_nil,Bool.not_true,Bool.false_or] at hlast
    rw [← getD_set_ne true (Ne.symm hk)]
    rcases Nat.lt_or_ge k (listed.setIfInBounds j true).size with h' | h'
    ·have:=Array.all_eq_true.1 hlast k h'
     rw [Array.getD,dif_pos h'];exact this
    ·rw [Array.getD,dif_neg (by omega)]
   ·exact ⟨.inl (h2 w' h1),z3C h2 _ _ _ _ (z1w hsel hQ r _ S' a' w' (hcl.set hj) hB' h1 h3)⟩
  ·rename_i hw
   rw [if_neg hw] at h'
   exact ⟨.inl hS,z1w hsel hQ r _ S _ w (hcl.set hj) hB' hS h'⟩
theorem z01 {id:Nat} {a:Act} {w:World} {l:List Oper} (plan:List (Nat × Bool)) (S:World→Prop) (hm:P.follows .mixedOrders=true)
  (hB:(Region.noSelect l.toArray && (plan.length==l.length) && z69 .any l.toArray plan (Array.replicate l.length false))=true)
  (hQ:∀ c a d v w,Q (.panic c) (Act.put a d v) w→Q (.panic c) a w) (hS:S w.drew) (h:S w.drew→wpPm P l.toArray Q plan S a w.drew):(Code.region id l.toArray true).wp P Q a w:=by
 simp only [Bool.and_eq_true,beq_iff_eq] at hB
 refine wp_region_any hm (z5Y (S:=S) _ _ _ _ ?_)
 have hcl:Cl .any l.toArray (Array.replicate l.length false):=fun k o hk hl=>by
  have hlt:k<l.length:=by have:=(Array.getElem?_eq_some_iff.1 hk).1;simpa using this
  simp [hlt] at hl
 have:=z1w (P:=P) (Q:=Q) hB.1.1 hQ plan _ S a w.drew hcl hB.2 hS (h hS)
 rw [hB.1.2] at this
 rw [show l.toArray.size=l.length by simp]
 exact this
theorem z03 {l:List Oper} {i:Nat} {o:Oper} {v:Value} {r:List (Nat × Bool)} {S:World→Prop} {a:Act} {w:World} (ho:l[i]?=some o) (hw:Region.wanted o (yielded l.toArray a.tmps)=true)
  (hy:∀ w,S w→(execOp a.eval o).run P w=.ok (.value v) w) (h:wpPm P l.toArray Q r S (a.put o.dst v) w):wpPm P l.toArray Q ((i,false)::r) S a w:=⟨o,v,(List.getElem?_toArray ..).trans ho,.inl ⟨hw,hy⟩,h⟩
theorem z0i {l:List Oper} {i:Nat} {o:Oper} {r:List (Nat × Bool)} {S:World→Prop} {a:Act} {w:World} (ho:l[i]?=some o) (hw:Region.wanted o (yielded l.toArray a.tmps)=false)
  (h:wpPm P l.toArray Q r S (a.put o.dst undef) w):wpPm P l.toArray Q ((i,false)::r) S a w:=⟨o,undef,(List.getElem?_toArray ..).trans ho,.inr ⟨hw,rfl⟩,h⟩
theorem z05 {l:List Oper} {i:Nat} {o:Oper} {r:List (Nat × Bool)} {S:World→Prop} {a:Act} {w:World} (ho:l[i]?=some o) (hw:Region.wanted o (yielded l.toArray a.tmps)=true)
  (h:∀ K':Act→World→Prop,Shut (∀ (S':World→Prop) a w,S' w→(∀ W,S' W→S W)→(S' w→wpPm P l.toArray Q r S' a w)→K' a w)→Oper.wp P o a w K' Q):wpPm P l.toArray Q ((i,true)::r) S a w:=by
 refine ⟨o,(List.getElem?_toArray ..).trans ho,?_⟩
 rw [if_pos hw]
 exact h _ (fun S' a w h1 h2 h3=>.inr ⟨S',h1,h2,h3 h1⟩)
theorem z3E {l:List Oper} {i:Nat} {o:Oper} {r:List (Nat × Bool)} {S:World→Prop} {a:Act} {w:World} (ho:l[i]?=some o) (hw:Region.wanted o (yielded l.toArray a.tmps)=true)
  (h:∀ K':Act→World→Prop,Shut (∀ (S':World→Prop) a w,S' w→(∀ W,S' W→S W)→(S' w→wpPm P l.toArray Q r S' a w)→K' a w)→if Region.wanted o (yielded l.toArray a.tmps)=true then Oper.wp P o a w K' Q else False):wpPm P l.toArray Q ((i,true)::r) S a w :=
 z05 ho hw (fun K' hK=>by have:=h K' hK;rwa [if_pos hw] at this)
theorem z2z {l:List Oper} {i:Nat} {o:Oper} {r:List (Nat × Bool)} {S:World→Prop} {a:Act} {w:World} (ho:l[i]?=some o) (hw:Region.wanted o (yielded l.toArray a.tmps)=false)
  (h:wpPm P l.toArray Q r S (a.put o.dst undef) w):wpPm P l.toArray Q ((i,true)::r) S a w:=by
 refine ⟨o,(List.getElem?_toArray ..).trans ho,?_⟩
 rw [if_neg (by rw [hw];exact Bool.false_ne_true)]
 exact h
theorem z06 {l:List Oper} {i:Nat} {o:Oper} {S:World→Prop} {a:Act} {w:World} (ho:l[i]?=some o) (hw:Region.wanted o (yielded l.toArray a.tmps)=true)
  (h:∀ K':Act→World→Prop,Shut (∀ a w,Q .normal a w→K' a w)→Oper.wp P o a w K' Q):wpPm P l.toArray Q [(i,true)] S a w:=by
 refine ⟨o,(List.getElem?_toArray ..).trans ho,?_⟩
 rw [if_pos hw]
 exact h _ (fun a w h=>.inl ⟨rfl,h⟩)
end
end Go.Ext
end
section
namespace Go.Proofs.YtniknicnnaiilaaGreat
set_option maxRecDepth 100000
open Go.RowKit Go.Ext Go.BigFrame Go.Maps Go.MapKept
attribute [local go_sem] Ext.cell Ext.frozen Ext.lt Ext.le s1 s2 s3 s4 s5 s6 t1 t2 t3 t4 t5 t6
attribute [local go_sem ↓] Go.wp_at_zero Go.wp_at_succ
theorem z3S {w w':World} {B e size n:Nat} {v:Value} {xs:List Value} (h:w.ownsRow B e size v n xs) (g:Gr w w'):w'.ownsRow B e size v n xs:=z2J h (g.mod fun _=>False) fun _ _ h=>h
theorem z1c {w:World} {B e s:Nat} {v:Value} {n:Nat} {xs:List Value} (h:w.ownsRow B e s v n xs):∃ A c,v=.slice A n c∧n≤c∧(A=none→c=0):=by
 rcases h.2 with ⟨rfl,h0⟩ | ⟨g,cap,cur,rfl,_,_,hc,_⟩
 ·exact ⟨none,0,by rw [h0],by omega,fun _=>rfl⟩
 ·exact ⟨_,_,rfl,hc,fun e=>by cases e⟩
theorem zfl:(Tryz.prog.info? 5).map (fun i=>(i.zero,i.size,i.bytes))=some (some (.int .u8 0),1,1):=by kernel_rfl
def RetB (bs:List UInt8) (w:World) (e:Ending) (w':World):Prop:=∃ A c,∃ y:Ext w,e=.returned (.slice A bs.length c)∧w'=y.val∧bs.length≤140737488351232∧y.val.ownsRow w.heap.size 5 1 (.slice A bs.length c) bs.length (bc bs)
set_option maxHeartbeats 1000000 in
theorem z0I (d:Value) (bs:List UInt8) (w:World) (hd:Bys w d bs):Calls Tryz.prog 91 #[d] w (RetB bs w):=by
 obtain ⟨A,c,rfl,hl,hr,hnc⟩:=hd
 obtain ⟨i0,hi0,hz0,hz1,hz2⟩:=info_parts zfl
 have he:=fun (w:World) (n c n' c':Nat) (a:Option Addr)=>Lib.run_eql_slice_nil (P:=Tryz.prog) w 22 5 a n c n' c' Tryz.underlying22
 rcases A with _ | ad
 ·have:bs=[]:=by
   by_cases hb:bs=[]
   ·exact hb
   ·obtain ⟨b,off,e,_⟩:=hr (by simpa [bc] using hb);cases e
  subst this
  have hc0:=hnc rfl
  subst hc0
  go_enter Tryz.func91,Tryz.ntmps91
  go_wp2_with fail
  go_ret
  exact ⟨none,0,⟨w,Gr.refl _⟩,rfl,rfl,by simp,World.ownsRow_nil _ _ _ _⟩
 ·have hr1:=hid (hr.gr ((Gr.refl w).alloc (.cells #[] 5)))
  clear hr hnc
  go_enter Tryz.func91,Tryz.ntmps91
  go_wp2_with (at_builtin;refine wpList_append_own _ rfl _ _ 22 rfl w.heap.size 5 i0 _ 1 1 Tryz.underlying22 hi0 hz0 hz1 hz2 rfl (by decide) (.slice (some ⟨w.heap.size,0,none⟩) 0 0) 0 [] rfl (World.ownsRow_made w #[] 0 (Nat.le_refl _) (by decide) rfl) ad bs.length c (bc bs) rfl (by simp [z7v]) hr1.o.add (zen bs) (by unfold maxLen;omega) (by omega) (by simp) ?_;intro v1 w1 hown1 hg1 _)
  go_ret
  have hgr:Gr w w1:=z39 ((Gr.refl w).alloc _) hg1 (by intro k hk;simp [Value.ownBlock] at hk;omega)
  have ho:w1.ownsRow w.heap.size 5 1 v1 bs.length (bc bs):=by simpa using hown1
  obtain ⟨A',c',rfl,_⟩:=z1c ho
  exact ⟨A',c',⟨w1,hgr⟩,rfl,rfl,hl,ho⟩
theorem RetB.m {bs:List UInt8} {w w':World} {M:Bl} {A:Option Addr} {c:Nat} (ho:w'.ownsRow w.heap.size 5 1 (.slice A bs.length c) bs.length (bc bs)) (hl:bs.length≤140737488351232) (hM:∀ b,M b→b<w.heap.size):BysM w' M (.slice A bs.length c) bs :=
 BysM.of_own ho (fun b hb e=>by have:=hM b e;omega) hl
theorem Bys.of_own {B:Nat} {w:World} {v:Value} {bs:List UInt8} (ho:w.ownsRow B 5 1 v bs.length (bc bs)) (hl:bs.length≤140737488351232):Bys w v bs:=(BysM.of_own (M:=fun _=>False) ho (fun _ _ e=>e) hl).bys
theorem zaT (k mb:Nat) (F:FS) (M:Bl) (w:World) (h:z0H w M k mb F) (hl:F.l.length≤1000000) (hne:F.l≠[]):Calls Tryz.prog 66 #[.pointer (some ⟨k,0,none⟩)] w (RetB (z4K F) w):=by
 obtain ⟨A,c,hc,hf,hr,hk⟩:=h.parts
 obtain ⟨_,_,_,_,c4,_,_,_,_,_,_,_⟩:=hf
 have HS:=hid (fun W (y:Gr w W)=>z2w k mb F M W (h.gr y) hl)
 clear h
 unfold z4K
 by_cases hst:z0B F.l=1
 ·rw [if_pos hst]
  rw [hst] at HS
  clear hr
  go_enter Tryz.func66,Tryz.ntmps66
  go_wp2_with (go_at_call 65;(with_reducible refine (HS.o _ (Gr.refl _)).mono ?_);rintro en _ ⟨rfl,y1,rfl⟩)
  go_ret
  exact ⟨none,0,y1,rfl,rfl,by simp,World.ownsRow_nil _ _ _ _⟩
 ·rw [if_neg hst]
  cases he:F.l.getLast? with
  | none =>
   have e0:F.l=[]:=List.getLast?_eq_none_iff.1 he
   exact absurd e0 hne
  | some e =>
   obtain ⟨b,off,d',rfl,hb,hM,hd',h0,hn,hnc,hcell⟩:=hr.last he
   have e6:=hcell 6 d' rfl
   obtain ⟨Ad,cd,rfl⟩:=hd'.shape
   have HC:=hid (fun W (y:Gr w W)=>z0I _ e.data W (hd'.bys.gr y))
   clear hcell hr hd' he hne
   generalize z0B F.l=st at *
   generalize F.l.length=n at *
   have k0:(0:Int)≤(n:Int)-1:=by omega
   have k1:(n:Int)-1<(n:Int):=by omega
   have k2:(1:Int)≤(n:Int):=by omega
   have kw:IntKind.i64.wrap ((n:Int)-1)=(n:Int)-1:=IntWalk.i64_in _ (by omega)
   go_enter Tryz.func66,Tryz.ntmps66
   go_wp2_with (go_at_call 65;(with_reducible refine (HS.o _ (Gr.refl _)).mono ?_);rintro en _ ⟨rfl,y1,rfl⟩)
   refine z0w ((List.range 13).map (·,false)++[(13,true),(14,false)]) (fun W=>Gr w W) (by kernel_rfl) (by kernel_rfl) (fun _ _ d _ _ h=>by cases d<;>exact h) y1.gr.drew (fun _=>?_)
   have e13:(List.range 13).map (fun i=>(i,false))=[(0,false),(1,false),(2,false),(3,false),(4,false),(5,false),(6,false),(7,false),(8,false),(9,false),(10,false),(11,false),(12,false)]:=rfl
   rw [e13]
   simp only [List.cons_append,List.nil_append]
   iterate 13 (refine z0A (v:=?_) rfl (by rfl) ?_ ?_;rotate_left;(focus (intro W9 hW9;obtain ⟨x9,rfl⟩:∃ x:Ext w,W9=x.val:=⟨⟨W9,hW9⟩,rfl⟩;go_simp;(try with_reducible rfl);done));(try simp only [AP]))
   refine z1s rfl (by rfl) (fun K hK=>?_)
   go_simp
   go_at_call 91
   refine (HC.o _ y1.gr.drew).mono ?_
   rintro en _ ⟨A',c',y',rfl,rfl,hl',ho'⟩
   have G:=hid (y1.gr.drew.ext y')
   have HO:=hid ho'
   clear ho'
   refine hK.o (fun W=>Gr y'.val W) _ _ (Gr.refl _) (fun W g=>G.o.trans g) (fun _=>?_)
   (try simp only [AP])
   iterate 1 (refine z0A (v:=?_) rfl (by rfl) ?_ ?_;rotate_left;(focus (intro W9 hW9;(try dsimp only at hW9);go_simp;(try with_reducible rfl);done));(try simp only [AP]))
   refine z2K ?_
   go_wp2_with fail
   go_ret
   exact ⟨A',c',⟨y'.val,G.o⟩,rfl,rfl,hl',HO.o.mono y1.gr.drew.size⟩
theorem z6k:(Tryz.prog.info? 41).map (fun i=>(i.zero,i.size,i.bytes))=some (some (.agg #[.int .i64 0,.int .i64 0,.int .i64 0,.int .i64 0,.int .i64 0,.int .i64 0,.slice none 0 0]),7,72):=by kernel_rfl
theorem zch:(Tryz.prog.info? 188).map (fun i=>(i.zero,i.size,i.bytes))=some (some (.agg #[.int .i64 0,.int .i64 0,.int .i64 0,.int .i64 0,.int .i64 0,.int .i64 0,.int .i64 0,.slice none 0 0]),8,80):=by kernel_rfl
theorem zgr:(Tryz.prog.info? 39).map (fun i=>(i.zero,i.size,i.bytes))=some (some (.agg #[.int .i64 0,.int .i64 0,.int .i64 0,.int .i64 0,.slice none 0 0]),5,56):=by kernel_rfl
theorem zci:(Tryz.prog.info? 84).map (fun i=>(i.zero,i.size,i.bytes))=some (some (.agg #[.int .i64 0,.int .i64 0,.int .i64 0,.int .i64 0]),4,32):=by kernel_rfl
theorem block_lt {w:World} {b:Nat} {o:Obj} (h:w.heap[b]?=some o):b<w.heap.size:=(Array.getElem?_eq_some_iff.1 h).1
theorem z34 {P:Program} {t e:TypeId} {i:TypeInfo} {z:Value} {size:Nat} (ht:P.underlying t=some (.slice e)) (hi:P.info? e=some i) (hz:i.zero=some z) (hsz:i.size=size) (hby:i.bytes≤100) (h0:0<size)
  {w:World} {M:Bl} {A:Option Addr} {n:Nat} {olds news:List Value} {B:Nat} {e':TypeId} (hold:RdM w M A olds) (hlen:olds.length=n * size) (hB:w.heap[B]?=some (.cells news.toArray e' (0,0))) (hnl:news.length=size) (h1:∀ u∈news,u.oneCell'=true)
  (hn:n≤10000000) (hM:∀ b,M b→b<w.heap.size) :
  ∃ cap w',(∀ ty,(Builtin.append_ #[t,t] ty #[.slice A n n,.slice (some ⟨B,0,none⟩) 1 1]).run P w=.ok (.slice (some ⟨w.heap.size,0,none⟩) (n+1) cap) w')∧Gr w w'∧n+1≤cap∧RdM w' M (some ⟨w.heap.size,0,none⟩) (olds++news):=by
 subst hsz
 have hcells:∀ j u,news[j]?=some u→w.cell? ((⟨B,0,none⟩:Addr).add j)=some u:=fun j u hu=>by
  rw [Addr.add_lit,Nat.zero_add,World.cell?,hB]
  simpa using hu
 have hsrc:=Src.ofSlice (P:=P) w (size:=i.size) (tx:=t) (e':=e) ht ⟨B,0,none⟩ 1 1 news (by omega) hcells h1
 have hol:(Builtin.firstCells i.size n (.slice A n n)).run P w.drew=.ok olds.toArray w.drew:=by
  by_cases ho:olds=[]
  ·subst ho
   have:n=0:=by
    rcases Nat.eq_zero_or_pos n with h | h
    ·exact h
    ·have:=Nat.mul_pos h h0
     simp at hlen
     omega
   subst this
   cases A with
   | none=>exact run_firstCells_none w.drew i.size 0 0 0
   | some a=>exact run_firstCells_some w.drew i.size 0 a 0 0 [] (by simp) (fun j v hv=>by simp at hv)
  ·obtain ⟨b,off,rfl,_,hc⟩:=hold ho
   refine run_firstCells_some w.drew i.size n _ n n olds hlen fun j v hv=>?_
   rw [Addr.add_lit]
   simpa using hc j v hv
 have hrun:=fun ty=>run_append_grow_src (P:=P) w t t ty e i z ht hi hz A n n olds hol (.slice (some ⟨B,0,none⟩) 1 1) 1 news hsrc (by omega) (by omega) (growslice_fits (by omega) (by have:=Nat.mul_le_mul (show n+1≤10000001 by omega) hby;omega))
 refine ⟨_,_,hrun,(Gr.refl w).drew.alloc _,grownCap_ge w (n+1) n e,fun _=>⟨w.heap.size,0,rfl,fun e=>by have:=hM _ e;omega,fun j u hu=>?_⟩⟩
 have hh:(w.drew.alloc (.cells ((olds++news).toArray++Builtin.zeroCells z.cells (grownCap w (n+1) n e-(n+1))) e)).heap[w.heap.size]?=some (.cells ((olds++news).toArray++Builtin.zeroCells z.cells (grownCap w (n+1) n e-(n+1))) e (0,0)):=by
  have:=heap_alloc_new w.drew (.cells ((olds++news).toArray++Builtin.zeroCells z.cells (grownCap w (n+1) n e-(n+1))) e)
  simpa using this
 have hj:j<(olds++news).length:=(List.getElem?_eq_some_iff.1 hu).1
 rw [Nat.zero_add,World.cell?,hh]
 simp only
 rw [Array.getElem?_append_left (by simpa using hj)]
 simpa using hu
theorem z1h {α:Type} {r:α→List Int × List UInt8} {m:Nat} (hm:∀ x,(r x).1.length=m) {P:Program} {t e:TypeId} {i:TypeInfo} {z:Value} (ht:P.underlying t=some (.slice e)) (hi:P.info? e=some i) (hz:i.zero=some z) (hsz:i.size=m+1) (hby:i.bytes≤100)
  {w:World} {M:Bl} {A:Option Addr} {n c:Nat} {xs:List α} {x:α} {d:Value} {B:Nat} {e':TypeId} (h:z08 r w M (.slice A n c) xs) (hd:BysM w M d (r x).2) (hB:w.heap[B]?=some (.cells (recC (r x) d).toArray e' (0,0))) (hn:n≤10000000) (hM:∀ b,M b→b<w.heap.size) :
  ∃ cap w',(∀ ty,(Builtin.append_ #[t,t] ty #[.slice A n n,.slice (some ⟨B,0,none⟩) 1 1]).run P w=.ok (.slice (some ⟨w.heap.size,0,none⟩) (n+1) cap) w')∧Gr w w'∧z08 r w' M (.slice (some ⟨w.heap.size,0,none⟩) (n+1) cap) (xs++[x]):=by
 obtain ⟨A',c',ds,e,hc,h1,h2,h3⟩:=h
 injection e with e1 e2 e3
 subst e1 e2 e3
 have hdl:ds.length=(xs.map r).length:=h1.len
 have hone:∀ u∈recC (r x) d,u.oneCell'=true:=fun u hu=>by
  simp only [recC,List.mem_append,List.mem_map,List.mem_singleton] at hu
  rcases hu with ⟨n,_,rfl⟩ | rfl
  ·rfl
  ·obtain ⟨_,_,rfl⟩:=hd.shape;rfl
 have hm':∀ y∈xs.map r,y.1.length=m:=fun y hy=>by
  obtain ⟨z,_,rfl⟩:=List.mem_map.1 hy
  exact hm z
 obtain ⟨cap,w',hrun,hg,hcap,hrd⟩:=z34 ht hi hz hsz hby (by omega) h2 (by rw [z5b _ _ hm' hdl,List.length_map]) hB (by simp [recC,hm x]) hone hn hM
 refine ⟨cap,w',hrun,hg,some ⟨w.heap.size,0,none⟩,cap,ds++[d],by simp,by simpa using hcap,?_,?_,fun e=>by cases e⟩
 ·rw [List.map_append]
  exact DatM.app (h1.up (Gr.up hg M)) ⟨hd.up (Gr.up hg M),trivial⟩
 ·rw [List.map_append,z4y _ _ _ _ hdl]
  simpa [rowC] using hrd
theorem z1R (A:Option Addr) (n c:Nat) (w:World) (hn:n≤c) (hc:A=none→c=0):Calls Tryz.prog 183 #[.slice A n c] w (RetE (.slice A n n) w):=by
 refine z31 ?_
 cases A with
 | none =>
  have h0:=hc rfl
  subst h0
  have:n=0:=by omega
  subst this
  go_enter Tryz.func183,Tryz.ntmps183
  go_wp2_with fail
  go_ret
  exact ⟨rfl,rfl⟩
 | some a =>
  go_enter Tryz.func183,Tryz.ntmps183
  go_wp2_with fail
  go_ret
  exact ⟨rfl,rfl⟩
theorem z5i (A:Option Addr) (n c:Nat) (w:World) (hn:n≤c) (hc:A=none→c=0):Calls Tryz.prog 189 #[.slice A n c] w (RetE (.slice A n n) w):=by
 refine z31 ?_
 cases A with
 | none =>
  have h0:=hc rfl
  subst h0
  have:n=0:=by omega
  subst this
  go_enter Tryz.func189,Tryz.ntmps189
  go_wp2_with fail
  go_ret
  exact ⟨rfl,rfl⟩
 | some a =>
  go_enter Tryz.func189,Tryz.ntmps189
  go_wp2_with fail
  go_ret
  exact ⟨rfl,rfl⟩
end Go.Proofs.YtniknicnnaiilaaGreat
end
section
namespace Go.Ext
section
variable {P:Program} {ops:Array Oper} {Q:Exit→Act→World→Prop} {md:Region.Mode} {S:World→Prop}
def zd8 (P:Program) (ops:Array Oper) (S:World→Prop) (T:Act→World→Prop):List Nat→Act→World→Prop
 | [],a,w=>T a w
 | i::r,a,w=>∃ o v,ops[i]?=some o∧YieldsIf P ops S o v a∧zd8 P ops S T r (a.put o.dst v) w
def za7 (md:Region.Mode) (ops:Array Oper):List Nat→Array Bool→Bool
 | [],_=>true
 | i::r,listed=>Region.free md ops listed i && depB md ops i && (Region.ready md ops listed).contains i && za7 md ops r (listed.setIfInBounds i true)
def z8p:List Nat→Array Bool→Array Bool
 | [],listed=>listed
 | i::r,listed=>z8p r (listed.setIfInBounds i true)
theorem z6A (hsel:Region.noSelect ops=true) (hQ:∀ c a d v w,Q (.panic c) (Act.put a d v) w→Q (.panic c) a w) (n:Nat) :
  ∀ (plan:List Nat) (listed:Array Bool) (a:Act) (w:World),Cl md ops listed→za7 md ops plan listed=true→S w→zd8 P ops S (fun a w=>Cl md ops (z8p plan listed)→z2i P md ops Q S n (z8p plan listed) a w) plan a w→z2i P md ops Q S (plan.length+n) listed a w
 | [],_,_,_,hcl,_,_,h=>by simp only [List.length_nil,Nat.zero_add];exact h hcl
 | i::r,listed,a,w,hcl,hB,hS,h=>by
  simp only [za7,Bool.and_eq_true] at hB
  obtain ⟨⟨⟨hf,hd⟩,hr⟩,hB'⟩:=hB
  obtain ⟨o,v,ho,hy,h'⟩:=h
  have hr':i∈Region.ready md ops listed:=by simpa using hr
  rw [show (i::r).length+n=(r.length+n)+1 by simp;omega]
  exact z4W ho (Region.noSelect_spec hsel) (fun c a w=>hQ c a _ _ w) (z7I hd) _ listed a w hcl (Region.free_spec ho hf) hr' hy hS (z6A hsel hQ n r _ _ w (hcl.set hr') hB' hS h')
theorem z3x {l:List Oper} {i:Nat} {o:Oper} {v:Value} {r:List Nat} {T:Act→World→Prop} {a:Act} {w:World} (ho:l[i]?=some o) (hw:Region.wanted o (yielded l.toArray a.tmps)=true)
  (hy:∀ w,S w→(execOp a.eval o).run P w=.ok (.value v) w) (h:zd8 P l.toArray S T r (a.put o.dst v) w):zd8 P l.toArray S T (i::r) a w:=⟨o,v,(List.getElem?_toArray ..).trans ho,.inl ⟨hw,hy⟩,h⟩
theorem z1i {id:Nat} {a:Act} {w:World} {l:List Oper} (plan:List Nat) (n:Nat) (S:World→Prop) (hm:P.follows .mixedOrders=true)
  (hB:(Region.noSelect l.toArray && (plan.length+n==l.length) && za7 .any l.toArray plan (Array.replicate l.length false))=true)
  (hQ:∀ c a d v w,Q (.panic c) (Act.put a d v) w→Q (.panic c) a w) (hS:S w.drew)
  (h:S w.drew→zd8 P l.toArray S (fun a w=>Cl .any l.toArray (z8p plan (Array.replicate l.length false))→z2i P .any l.toArray Q S n (z8p plan (Array.replicate l.length false)) a w) plan a w.drew):(Code.region id l.toArray true).wp P Q a w:=by
 simp only [Bool.and_eq_true,beq_iff_eq] at hB
 refine wp_region_any hm (z5Y (S:=S) _ _ _ _ ?_)
 have hcl:Cl .any l.toArray (Array.replicate l.length false):=fun k o hk hl=>by
  have hlt:k<l.length:=by have:=(Array.getElem?_eq_some_iff.1 hk).1;simpa using this
  simp [hlt] at hl
 have:=z6A (P:=P) (Q:=Q) hB.1.1 hQ n plan _ a w.drew hcl hB.2 hS (h hS)
 rw [hB.1.2] at this
 rw [show l.toArray.size=l.length by simp]
 exact this
theorem z1X {l:List Oper} {i j:Nat} {n:Nat} {listed:Array Bool} {a:Act} {w:World} (hcl:Cl .any l.toArray listed) (hr:Region.ready .any l.toArray listed=[i,j])
  (h1:(Cl .any l.toArray (listed.setIfInBounds i true)→wpOp P l.toArray Q i (fun a' w'=>(S w'∨∀ k,k≠i→listed.getD k true=true)∧z2i P .any l.toArray Q S n (listed.setIfInBounds i true) a' w') a w))
  (h2:(Cl .any l.toArray (listed.setIfInBounds j true)→wpOp P l.toArray Q j (fun a' w'=>(S w'∨∀ k,k≠j→listed.getD k true=true)∧z2i P .any l.toArray Q S n (listed.setIfInBounds j true) a' w') a w)):z2i P .any l.toArray Q S (n+1) listed a w:=by
 refine ⟨fun h0=>(by rw [hr] at h0;cases h0),fun k hk=>?_⟩
 rw [hr] at hk
 simp only [List.mem_cons,List.not_mem_nil,or_false] at hk
 rcases hk with rfl | rfl
 ·exact h1 (hcl.set (by rw [hr];simp))
 ·exact h2 (hcl.set (by rw [hr];simp))
theorem z0N {l:List Oper} {i:Nat} {o:Oper} {n:Nat} {listed listed':Array Bool} {a:Act} {w:World} (ho:l[i]?=some o) (hw:Region.wanted o (yielded l.toArray a.tmps)=true)
  (h:∀ K':Act→World→Prop,Shut (∀ (S':World→Prop) a w,S' w→(∀ W,S' W→S W)→(S' w→z2i P .any l.toArray Q S' n listed' a w)→K' a w)→Oper.wp P o a w K' Q) :
  wpOp P l.toArray Q i (fun a' w'=>(S w'∨∀ k,k≠i→listed.getD k true=true)∧z2i P .any l.toArray Q S n listed' a' w') a w:=by
 unfold wpOp
 rw [show l.toArray[i]?=some o from (List.getElem?_toArray ..).trans ho]
 simp only [hw,if_true]
 exact .inl (h _ (fun S' a w h1 h2 h3=>⟨.inl (h2 w h1),z3C h2 _ _ _ _ (h3 h1)⟩))
theorem z1d {l:List Oper} {n:Nat} {listed:Array Bool} {a:Act} {w:World} (plan:List (Nat × Bool)) (hcl:Cl .any l.toArray listed) (hB:(Region.noSelect l.toArray && (plan.length==n) && z69 .any l.toArray plan listed)=true)
  (hQ:∀ c a d v w,Q (.panic c) (Act.put a d v) w→Q (.panic c) a w) (hS:S w) (h:wpPm P l.toArray Q plan S a w):z2i P .any l.toArray Q S n listed a w:=by
 simp only [Bool.and_eq_true,beq_iff_eq] at hB
 obtain ⟨⟨h1,rfl⟩,h2⟩:=hB
 exact z1w h1 hQ plan listed S a w hcl h2 hS h
end
end Go.Ext
end
section
namespace Go.Proofs.YtniknicnnaiilaaGreat
set_option maxRecDepth 100000
open Go.RowKit Go.Ext Go.BigFrame Go.Maps Go.MapKept
attribute [local go_sem] Ext.cell Ext.frozen Ext.lt Ext.le s1 s2 s3 s4 s5 s6 t1 t2 t3 t4 t5 t6
attribute [local go_sem ↓] Go.wp_at_zero Go.wp_at_succ
theorem z02 {w:World} {B j:Nat} {t:TypeId} {cs:Array Value} (h:w.heap[B]?=some (.cells cs t (0,0))) (v:Value):(w.setCell ⟨B,j,none⟩ v).heap[B]?=some (.cells (cs.setIfInBounds j v) t (0,0)):=by
 rw [setCell_eq_setRow w B j cs t (0,0) v h]
 exact setRow_heap w B _ _ t _ h
theorem z0m {S:Nat→Prop} {a w:World} (h:Mod S a w) {b j:Nat} (hb:b<a.heap.size→S b) (u:Value):Mod S a (w.setCell ⟨b,j,none⟩ u):=h.set (p:=⟨b,j,none⟩) hb u
def z47 (w:World) (M:Bl) (k mb:Nat) (F:FS) (e:Ev) (B:Nat) (wx:World):Prop :=
 ∃ A c dv,wx.heap[k]?=some (.cells (z2C F (.slice A (F.l.length+1) c) mb) 157 (0,0))∧z08 evR wx M (.slice A (F.l.length+1) c) (F.l++[e]) ∧
  wx.heap[B]?=some (.cells (recC (evR e) dv).toArray 41 (0,0))∧Mod (fun b=>b=k) w wx
theorem z0c {a w:World} {k j:Nat} {u:Value} (h:Mod (fun b=>b=k) a w):Mod (fun b=>b=k) a (w.setCell ⟨k,j,none⟩ u):=z0m h (fun _=>rfl) u
theorem Mod.drew_ {S:Nat→Prop} {a w:World} (h:Mod S a w):Mod S a w.drew:=h.gr (Gr.refl w).drew
section
variable {P:Program} {o:Oper} {a:Act} {K:Act→World→Prop} {Q:Exit→Act→World→Prop}
theorem z0f (w:World) (m x v:Operand) (t:TypeId) (hop:o.op=Op.mapUpdate t m x v) (K' E:TypeId) (hT:P.underlying t=some (.map K' E)) (hK:P.underlying K'=some (.int .i64))
  (b:Nat) (kv:List (Int × Value)) (k:Int) (val:Value) (hm:a.eval m=.map (some b)) (hown:MI w b kv) (hx:a.eval x=.int .i64 k) (hv:a.eval v=val)
  (hK2:∀ w',MI w' b (up kv k val)→Mod (·=b) w w'→K (a.put o.dst undef) w'):Oper.wp P o a w K Q:=by
 obtain ⟨w',hrun,r1,r2⟩:=hown.update hT hK k val
 unfold Oper.wp
 simp [execOp,hop,hm,hx,hv,hrun,Result.andThen]
 exact hK2 w' r1 r2
theorem z3w (w:World) (m x:Operand) (t u:TypeId) (hop:o.op=Op.call { callee:=Callee.builtin Builtin.delete,args:=#[m,x],argTypes:=#[t,u] }) (K' E:TypeId) (hT:P.underlying t=some (.map K' E)) (hK:P.underlying K'=some (.int .i64))
  (b:Nat) (kv:List (Int × Value)) (k:Int) (hm:a.eval m=.map (some b)) (hown:MI w b kv) (hx:a.eval x=.int .i64 k)
  (hK2:∀ w',MI w' b (rm kv k)→Mod (·=b) w w'→K (a.put o.dst (.tuple #[])) w'):Oper.wp P o a w K Q:=by
 obtain ⟨w',hrun,r1,r2⟩:=hown.delete hT hK k o.type u
 unfold Oper.wp
 simp [execOp,hop,resolve,invoke,builtin,hm,hx,hrun,Result.andThen]
 exact hK2 w' r1 r2
end
end Go.Proofs.YtniknicnnaiilaaGreat
end
section
namespace Go.Proofs.YtniknicnnaiilaaGreat
set_option maxRecDepth 100000
open Go.RowKit Go.Ext Go.BigFrame Go.Maps Go.MapKept
attribute [local go_sem] Ext.cell Ext.frozen Ext.lt Ext.le s1 s2 s3 s4 s5 s6 t1 t2 t3 t4 t5 t6
attribute [local go_sem ↓] Go.wp_at_zero Go.wp_at_succ
def z0e:Prop:=∀ (k mb:Nat) (F:FS) (e:Ev) (d:Value) (M:Bl) (w:World),z0H w M k mb F→M k→M mb→k≠mb→(∀ b,M b→b<w.heap.size)→Bys w d e.data→F.l.length≤1000000→FI F→1≤e.kind→(e.kind=9∨e.kind=10∨e.kind=11→e.ref≠0) →
  Calls Tryz.prog 143 #[.pointer (some ⟨k,0,none⟩),evV e d] w (fun en w'=>en=.returned (.int .i64 (atF F))∧z0H w' M k mb (putF F e)∧Mod (fun b=>b=k∨b=mb) w w')
structure FW (w:World) (M:Bl) (k mb:Nat) (F:FS):Prop where
 r:z0H w M k mb F
 hk:M k
 hmb:M mb
 ne:k≠mb
 hM:∀ b,M b→b<w.heap.size
 l:F.l.length≤100000
 i:FI F
theorem FW.gr {w w':World} {M:Bl} {k mb:Nat} {F:FS} (h:FW w M k mb F) (g:Gr w w'):FW w' M k mb F:=⟨h.r.gr g,h.hk,h.hmb,h.ne,fun b e=>Nat.lt_of_lt_of_le (h.hM b e) g.size,h.l,h.i⟩
def RetO (M:Bl) (k mb:Nat) (x:FS × List Out) (w:World) (e:Ending) (w':World):Prop :=
 ∃ A c,e=.returned (.slice A x.2.length c)∧z0H w' M k mb x.1∧z08 outR w' M (.slice A x.2.length c) x.2∧Mod (fun b=>b=k∨b=mb) w w'
theorem z3y {w:World} {M:Bl} {o:Out} {d:Value} {B:Nat} (hB:w.heap[B]?=some (.cells (recC (outR o) d).toArray 188 (0,0))) (hM:¬ M B) (hd:BysM w M d o.data):z08 outR w M (.slice (some ⟨B,0,.none⟩) 1 1) [o] :=
 ⟨some ⟨B,0,.none⟩,1,[d],rfl,by simp,⟨hd,trivial⟩,fun _=>⟨B,0,rfl,hM,fun j u hu=>by
  rw [Nat.zero_add,World.cell?,hB]
  simpa [rowC] using hu⟩,fun e=>by cases e⟩
set_option maxHeartbeats 1000000 in
theorem z0W (PUT:z0e) (k mb:Nat) (F:FS) (now:Int) (M:Bl) (w:World) (h:FW w M k mb F):Calls Tryz.prog 152 #[.pointer (some ⟨k,0,none⟩),.int .i64 now] w (RetO M k mb (z07 F now) w):=by
 obtain ⟨A,c,hc,hf,hr,hk⟩:=h.r.parts
 obtain ⟨c0,c1,c2,c3,c4,c5,c6,c7,c8,c9,c10,c11⟩:=hf
 have H:=hid h
 have HP:=hid (fun (W:World) (y:Gr w W)=>(show Calls Tryz.prog 143 #[.pointer (some ⟨k,0,none⟩),.agg #[.int .i64 2,.int .i64 now,.int .i64 0,.int .i64 0,.int .i64 F.list,.int .i64 F.turn,.slice none 0 0]] W _ from
  PUT k mb F ⟨2,now,0,0,F.list,F.turn,[]⟩ (.slice none 0 0) M W (h.r.gr y) h.hk h.hmb h.ne (h.gr y).hM (BysM.none W M).bys (by have:=h.l;omega) h.i (by dsimp only;omega) (by dsimp only;omega)))
 clear h hr hc
 unfold z07
 go_enter Tryz.func152,Tryz.ntmps152
 go_wp2_with fail
 refine z01 [(0,false),(1,false),(2,false),(3,false),(4,false),(5,false),(6,false),(7,false),(8,false),(9,false),(10,false),(11,true),(12,true)] (fun W=>W.cell? ⟨k,2,none⟩=some (.int .i64 F.list)∧W.cell? ⟨k,8,none⟩=some (.int .i64 F.turn)) (by kernel_rfl) (by kernel_rfl) (fun _ _ d _ _ h=>by cases d<;>exact h) ⟨by go_simp;done,by go_simp;done⟩ (fun _=>?_)
 iterate 11 (refine z03 (v:=?_) rfl (by rfl) ?_ ?_;rotate_left;(focus (intro W9 hW9;(try dsimp only at hW9);go_simp;(try with_reducible rfl);done));(try simp only [AP]))
 refine z05 rfl (by rfl) (fun K hK=>?_)
 go_simp
 go_at_call 143
 refine (HP.o _ (Gr.refl w).drew).mono ?_
 rintro en w2 ⟨rfl,hr2,hm2⟩
 obtain ⟨A2,cc2,hc2,⟨d0,d1,d2,d3,d4,d5,d6,d7,d8,d9,d10,d11⟩,hrr2,hk2⟩:=hr2.parts
 have HR2:=hid hr2
 have M2:=hid (((Gr.refl w).drew.mod (fun b=>b=k∨b=mb)).trans hm2 (fun _ _ e=>e))
 have hp2:(putF F ⟨2,now,0,0,F.list,F.turn,[]⟩).list=F.list:=rfl
 have hp8:(putF F ⟨2,now,0,0,F.list,F.turn,[]⟩).turn=F.turn:=rfl
 rw [hp2] at d2
 rw [hp8] at d8
 refine hK.o (fun W=>W=w2) _ _ rfl (fun W e=>by subst e;exact ⟨d2,d8⟩) (fun _=>?_)
 clear hK K hr2 hm2 hrr2 hc2 hp2 hp8 d0 d1 d3 d4 d5 d6 d7 d9 d10 d11
 (try simp only [AP])
 refine z06 rfl (by rfl) (fun K hK=>?_)
 go_simp
 refine hK.o _ _ ?_
 clear hK K
 go_wp2_with fail
 refine z01 [(0,false),(1,false),(2,false),(3,false),(4,false),(5,false),(6,false),(7,false),(8,false),(9,false),(10,true),(11,true)] (fun W=>Gr w2 W) (by kernel_rfl) (by kernel_rfl) (fun _ _ d _ _ h=>by cases d<;>exact h) (Gr.refl w2).drew (fun _=>?_)
 iterate 10 (refine z03 (v:=?_) rfl (by rfl) ?_ ?_;rotate_left;(focus (intro W9 hW9;obtain ⟨x9,rfl⟩:∃ x:Ext w2,W9=x.val:=⟨⟨W9,hW9⟩,rfl⟩;go_simp;(try with_reducible rfl);done));(try simp only [AP]))
 refine z05 rfl (by rfl) (fun K hK=>?_)
 go_simp
 refine hK.o (fun W=>Gr w2 W) _ _ ((Gr.refl w2).alloc _).drew (fun _ g=>g) (fun _=>?_)
 clear hK K
 (try simp only [AP])
 refine z06 rfl (by rfl) (fun K hK=>?_)
 go_simp
 refine hK.o _ _ ?_
 clear hK K
 go_wp2_with fail
 go_ret
 refine ⟨some ⟨w2.heap.size,0,none⟩,1,rfl,HR2.o.gr ((Gr.refl w2).alloc _).drew,?_,M2.o.gr ((Gr.refl w2).alloc _).drew⟩
 refine z3y (d:=.slice none 0 0) ?_ (fun e=>by have:=H.o.hM _ e;have:=M2.o.size;omega) (BysM.none _ _)
 exact heap_alloc_new w2 _
theorem z4B (PUT:z0e) (k mb:Nat) (F:FS) (now:Int) (M:Bl) (w:World) (h:FW w M k mb F):Calls Tryz.prog 144 #[.pointer (some ⟨k,0,none⟩),.int .i64 now] w (RetO M k mb (z0T F now) w):=by
 obtain ⟨A,c,hc,hf,hr,hk⟩:=h.r.parts
 obtain ⟨c0,c1,c2,c3,c4,c5,c6,c7,c8,c9,c10,c11⟩:=hf
 have H:=hid h
 have HP:=hid (z0W PUT k mb F now M w h)
 clear h hr hc
 unfold z0T
 by_cases ht:F.task=0
 ·rw [if_pos ht]
  go_enter Tryz.func144,Tryz.ntmps144
  go_wp2_with (go_at_call 152;refine HP.o.mono ?_;rintro en w2 ⟨A2,cc2,rfl,hr2,ho2,hm2⟩)
  go_ret
  exact ⟨A2,cc2,rfl,hr2,ho2,hm2⟩
 ·rw [if_neg ht]
  go_enter Tryz.func144,Tryz.ntmps144
  go_wp2_with fail
  go_ret
  exact ⟨none,0,rfl,H.o.r,z08.none _ _ _,(Gr.refl w).mod _⟩
theorem z4i (l:List Ev) (e:Ev):z0B (l++[e])=z1P e.kind:=by
 unfold z0B
 rw [List.getLast?_concat]
set_option maxHeartbeats 1000000 in
theorem z3J (PUT:z0e) (k mb:Nat) (F:FS) (kind now:Int) (d:Value) (data:List UInt8) (M:Bl) (w:World) (h:FW w M k mb F) (hkind:19≤kind) (hd:BysM w M d data) :
    Calls Tryz.prog 147 #[.pointer (some ⟨k,0,none⟩),.int .i64 kind,d,.int .i64 now] w (RetO M k mb (z0J F kind data now) w):=by
  have H:=hid h
  have HD:=hid hd
  obtain ⟨Ad,cd,rfl⟩:=hd.shape
  have HP:=hid (show Calls Tryz.prog 143 #[.pointer (some ⟨k,0,none⟩),.agg #[.int .i64 kind,.int .i64 now,.int .i64 0,.int .i64 0,.int .i64 0,.int .i64 0,.slice Ad data.length cd]] w _ from
    PUT k mb F ⟨kind,now,0,0,0,0,data⟩ (.slice Ad data.length cd) M w h.r h.hk h.hmb h.ne h.hM hd.bys (by have:=h.l;omega) h.i (by dsimp only;omega) (by dsimp only;omega))
  have HL:=hid h.l
  clear h hd
  unfold z0J
  by_cases h19:kind=19
  · subst h19
    rw [if_pos rfl]
    go_enter Tryz.func147,Tryz.ntmps147
    go_wp2_with (first
      | (go_at_call 143
         refine HP.o.mono ?_
         rintro en w2 ⟨rfl,hr2,hm2⟩
         have HR2:=hid hr2
         have HM2:=hid hm2
         have HU2:=hid (Mod.up (M:=M) hm2 (fun b _ e=>by rcases e with rfl | rfl;exact H.o.hk;exact H.o.hmb))
         clear hr2 hm2)
      | (go_at_call 91
         refine (z0I _ data _ (HD.o.up HU2.o).bys).mono ?_
         rintro en _ ⟨A3,c3,y3,rfl,rfl,hl3,ho3⟩
         have HO3:=hid ho3
         clear ho3))
    go_ret
    have hM3:∀ b,M b→b<w2.heap.size:=fun b e=>Nat.lt_of_lt_of_le (H.o.hM b e) HM2.o.size
    have g:Gr w2 (y3.val.alloc (.cells (recC (outR ⟨8,0,0,0,0,0,0,data⟩) (.slice A3 data.length c3)).toArray 188)):=y3.gr.alloc _
    refine ⟨some ⟨y3.val.heap.size,0,none⟩,1,rfl,HR2.o.gr g,z3y (d:=.slice A3 data.length c3) (heap_alloc_new y3.val _) (fun e=>?_) ?_,HM2.o.gr g⟩
    · have:=hM3 _ e;have:=y3.gr.size;omega
    · exact (RetB.m HO3.o hl3 hM3).up (Gr.up ((Gr.refl _).alloc _) M)
  · rw [if_neg h19]
    go_enter Tryz.func147,Tryz.ntmps147
    go_wp2_with (first
      | (go_at_call 143
         refine HP.o.mono ?_
         rintro en w2 ⟨rfl,hr2,hm2⟩
         have HR2:=hid hr2
         have HM2:=hid hm2
         have HU2:=hid (Mod.up (M:=M) hm2 (fun b _ e=>by rcases e with rfl | rfl;exact H.o.hk;exact H.o.hmb))
         have HS:=hid (z2w k mb _ M w2 hr2 (by rw [z0r];have:=HL.o;omega))
         rw [z4a,z4i] at HS
         clear hr2 hm2)
      | (go_at_call 65
         refine HS.o.mono ?_
         rintro en _ ⟨rfl,y2,rfl⟩)
      | (go_at_call 91
         refine (z0I _ data _ ((HD.o.up HU2.o).bys.gr y2.gr)).mono ?_
         rintro en _ ⟨A3,c3,y3,rfl,rfl,hl3,ho3⟩
         have HO3:=hid ho3
         clear ho3))
    go_ret
    have hM3:∀ b,M b→b<w2.heap.size:=fun b e=>Nat.lt_of_lt_of_le (H.o.hM b e) HM2.o.size
    have hM4:∀ b,M b→b<y2.val.heap.size:=fun b e=>Nat.lt_of_lt_of_le (hM3 b e) y2.gr.size
    have g:Gr w2 (y3.val.alloc (.cells (recC (outR ⟨7,0,0,0,0,0,z1P kind,data⟩) (.slice A3 data.length c3)).toArray 188)):=(y2.gr.ext y3).alloc _
    refine ⟨some ⟨y3.val.heap.size,0,none⟩,1,rfl,HR2.o.gr g,z3y (d:=.slice A3 data.length c3) (heap_alloc_new y3.val _) (fun e=>?_) ?_,HM2.o.gr g⟩
    · have:=hM4 _ e;have:=y3.gr.size;omega
    · exact (RetB.m HO3.o hl3 hM4).up (Gr.up ((Gr.refl _).alloc _) M)
theorem zgh (b:Nat) (w:World):(binOp .eql 155 (.map (some b)) (.map none)).run Tryz.prog w=.ok (.bool false) w:=by kernel_rfl
theorem zar (mb:Nat) (op:List (Int × Opn)) (w:World) (h:MI w mb (mp opV op)):Calls Tryz.prog 113 #[.map (some mb)] w (fun e w'=>∃ b',e=.returned (.map (some b'))∧w.heap.size≤b'∧Gr w w'∧MI w' b' (mp opV op)):=by
 obtain ⟨o,hcl,hmi⟩:=h.clone (P:=Tryz.prog) 155
 have HMI:=hid hmi
 have he:=zgh mb w
 have hcf:(callFunc 84 #[.iface 155 (.map (some mb))]).run Tryz.prog w=.ok (.value (.iface 155 (.map (some w.heap.size)))) (w.alloc o):=by
  rw [run_callFunc_extern Tryz.func84 (by kernel_rfl) (by kernel_rfl) (by kernel_rfl) (e:=Extern.MapsClone.clone) (by kernel_rfl),hcl]
  rfl
 have hta:(Instr.typeAssert (.iface 155 (.map (some w.heap.size))) 20 155 false).run Tryz.prog (w.alloc o)=.ok (.map (some w.heap.size)) (w.alloc o):=by
  simp [Instr.typeAssert,run_underlying Tryz.underlying155,Result.andThen]
 clear h hmi hcl
 go_enter Tryz.func113,Tryz.ntmps113
 go_wp2_with fail
 go_ret
 exact ⟨_,rfl,Nat.le_refl _,(Gr.refl w).alloc _,HMI.o⟩
def plus (M:Bl) (k mb:Nat):Bl:=fun b=>M b∨b=k∨b=mb
theorem Gr.plus {w w':World} {M:Bl} {k mb:Nat} (g:Gr w w') (hk:w.heap.size≤k) (hmb:w.heap.size≤mb):Up M w (plus M k mb) w' :=
 ⟨g.mod M,fun b hb h=>by rcases h with h | h | h;exact h;omega;omega⟩
set_option maxHeartbeats 1000000 in
theorem z4A (k mb:Nat) (F:FS) (M:Bl) (w:World) (h:z0H w M k mb F) (hM:∀ b,M b→b<w.heap.size):Calls Tryz.prog 75 #[.pointer (some ⟨k,0,none⟩)] w
    (fun e w'=>∃ k' mb',e=.returned (.pointer (some ⟨k',0,none⟩))∧w.heap.size≤k'∧w.heap.size≤mb'∧k'≠mb'∧Gr w w'∧z0H w' (plus M k' mb') k' mb' F∧∀ b,plus M k' mb' b→b<w'.heap.size):=by
  obtain ⟨A,c,hc,hf,hr,hk⟩:=h.parts
  obtain ⟨c0,c1,c2,c3,c4,c5,c6,c7,c8,c9,c10,c11⟩:=hf
  have H:=hid h
  have HR:=hid hr
  have HC:=hid (fun (W:World) (y:Gr w W)=>zar mb F.op W (h.map.gr y))
  clear h hr hc
  go_enter Tryz.func75,Tryz.ntmps75
  go_wp2_with (go_at_call 113
               refine (HC.o _ ((Gr.refl w).alloc _)).mono ?_
               rintro en w2 ⟨mb',rfl,hmb',g2,hm2⟩
               have HB2:=hid ((g2.block w.heap.size (by simp)).trans (heap_alloc_new w _))
               have G2:=hid g2
               have HM2:=hid hm2
               have hfz:=z00 (j:=11) HB2.o
               have hcc:(w2.cell? ⟨w.heap.size,11,none⟩)=some (.map (some mb)):=by simp [World.cell?,HB2.o]
               have hkk:=block_lt HB2.o
               clear g2 hm2)
  go_ret
  have hmb2:w.heap.size+1≤mb':=by simpa using hmb'
  have G3:Gr w (w2.setCell ⟨w.heap.size,11,none⟩ (.map (some mb'))):=(((Gr.refl w).alloc _).trans G2.o).set (p:=⟨w.heap.size,11,none⟩) (Nat.le_refl _) _
  refine ⟨w.heap.size,mb',rfl,Nat.le_refl _,by omega,by omega,G3,⟨⟨_,?_,HR.o.up (Gr.plus G3 (Nat.le_refl _) (by omega))⟩,?_⟩,?_⟩
  · rw [z02 HB2.o];rfl
  · exact HM2.o.keep (Below.heap_setCell w2 _ _ _ (by show mb'≠w.heap.size;omega))
  · intro b hb
    have e1:=HM2.o.lt
    have e2:=G3.size
    have e3:(w2.setCell ⟨w.heap.size,11,none⟩ (.map (some mb'))).heap.size=w2.heap.size:=by simp [World.setCell]
    rcases hb with hb | hb | hb
    · have:=hM b hb;omega
    · omega
    · omega
end Go.Proofs.YtniknicnnaiilaaGreat
end
