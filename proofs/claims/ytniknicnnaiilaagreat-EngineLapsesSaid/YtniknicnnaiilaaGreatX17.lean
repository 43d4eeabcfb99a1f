/- Lemmas of the engine. -/
import Derived.Test.YtniknicnnaiilaaGreatX07
import Derived.Test.YtniknicnnaiilaaGreatX11
import Derived.Test.YtniknicnnaiilaaGreatX12
import Derived.Test.YtniknicnnaiilaaGreatX13
import Derived.Test.YtniknicnnaiilaaGreatX16
section
namespace Go.Proofs.YtniknicnnaiilaaGreat
set_option maxRecDepth 100000
open Go.RowKit Go.Ext Go.BigFrame Go.Maps Go.MapKept
attribute [local go_sem] Ext.cell Ext.frozen Ext.lt Ext.le s1 s2 s3 s4 s5 s6 t1 t2 t3 t4 t5 t6
attribute [local go_sem ↓] Go.wp_at_zero Go.wp_at_succ
structure Hl (F G:FS):Prop where
 id:G.id=F.id
 run:G.run=F.run
 l:F.l <+: G.l
theorem Hl.refl (F:FS):Hl F F:=⟨rfl,rfl,List.prefix_refl _⟩
theorem Hl.trans {F G H:FS} (h:Hl F G) (k:Hl G H):Hl F H:=⟨k.id.trans h.id,k.run.trans h.run,h.l.trans k.l⟩
theorem z6j (F:FS) (e:Ev):Hl F (putF F e):=⟨(z1g F e).1,(z1g F e).2,by rw [z4a];exact List.prefix_append _ _⟩
theorem z86 {F G:FS} (e:Ev) (h:G=putF F e):Hl F G:=h▸z6j F e
theorem z55 (F:FS) (now:Int):Hl F (z07 F now).1:=z86 ⟨2,now,0,0,F.list,F.turn,[]⟩ rfl
theorem zfk (F:FS) (now:Int):Hl F (z0T F now).1:=by
 unfold z0T
 split
 ·exact z55 F now
 ·exact Hl.refl _
theorem zcd (F:FS) (e:Ev) (now:Int):Hl F (ok (z0T (putF F e) now)).1:=(z6j F e).trans (zfk _ now)
theorem z9O (F:FS) (k:Int) (data:List UInt8) (now:Int):Hl F (z0J F k data now).1:=z86 ⟨k,now,0,0,0,0,data⟩ rfl
theorem zfi (F:FS) (d:Dec) (now:Int):Hl F (z0d F d now).1:=by
 unfold z0d
 split
 ·exact z86 ⟨7,now,0,d.id,d.list,d.n,d.data⟩ rfl
 split
 ·exact z86 ⟨12,now,0,d.id,d.list,d.n,d.data⟩ rfl
 split
 ·exact z86 ⟨17,now,0,d.id,d.list,d.n,d.data⟩ rfl
 split
 ·exact z86 ⟨14,now,z2r F.op 12 d.id,d.id,d.list,d.n,d.data⟩ rfl
 ·exact z9O _ _ _ _
theorem z85 (F:FS) (n now:Int):Hl F (z0y F n now).1:=(z6j F ⟨6,now,F.begun,0,0,n,[]⟩).trans (z55 _ now)
theorem z6Y (now:Int):∀ (l:List Dec) (x:FS × List Out),Hl x.1 (z0n now x l).1
 | [],_=>Hl.refl _
 | d::r,x=>(zfi x.1 d now).trans (z6Y now r ((z0d x.1 d now).1,x.2++(z0d x.1 d now).2))
theorem z3P {data:List UInt8} {now:Int} {act:FS→FR} {F:FS} (h:Hl F (act F).1):Hl F (tryF F data now act).1:=by
 unfold tryF
 repeat' split
 all_goals first | exact Hl.refl _ | exact h
theorem zcb (kind ref:Int) (data:List UInt8) (now:Int) (F:FS):Hl F (z2q kind ref data now F).1:=by
 unfold z2q
 repeat' split
 all_goals first | exact Hl.refl _ | exact zcd _ _ _
theorem zca (ref turn:Int) (l:List Dec) (now:Int) (F:FS):Hl F (z1p ref turn l now F).1:=by
 unfold z1p
 split
 ·exact Hl.refl _
 split
 ·exact z85 _ _ _
 split
 ·exact z85 _ _ _
 split
 ·exact ((z6j F ⟨4,now,F.begun,0,0,0,[]⟩).trans (z6Y now l (putF F ⟨4,now,F.begun,0,0,0,[]⟩,[]))).trans (z55 _ now)
 ·exact (z6j F ⟨4,now,F.begun,0,0,0,[]⟩).trans (z6Y now l (putF F ⟨4,now,F.begun,0,0,0,[]⟩,[]))
theorem zfj (F:FS) (kind ref turn now:Int):Hl F (z1F F kind ref turn now).1:=by
 unfold z1F
 split
 ·refine z3P ?_
  unfold z1r
  split
  ·exact Hl.refl _
  ·exact (z6j F ⟨5,now,F.begun,0,0,0,[]⟩).trans (z55 _ now)
 split
 ·refine z3P ?_
  unfold z1x
  split
  ·exact Hl.refl _
  ·exact zcb _ _ _ _ _
 split
 ·refine z3P ?_
  unfold z29
  repeat' split
  all_goals first | exact Hl.refl _ | exact zcd _ _ _
 ·exact Hl.refl _
theorem z84 (F:FS) (id status:Int) (data:List UInt8) (now:Int):Hl F (z0h F id status data now).1:=by
 unfold z0h
 split
 ·exact Hl.refl _
 refine z3P ?_
 unfold z0x
 repeat' split
 all_goals first | exact Hl.refl _ | exact zcd _ _ _
theorem zcc (d:Bool) (t:Task) (now:Int) (F:FS):Hl F (z2s d t now F).1:=by
 unfold z2s z1z z3F
 cases d
 ·refine z3P ?_
  unfold z2H
  split
  ·exact Hl.refl _
  split
  ·exact Hl.refl _
  ·rename_i a _
   exact z86 ⟨8,now,t.ref,a.id,0,0,[]⟩ rfl
 ·refine z3P ?_
  unfold z0Q
  split
  ·exact Hl.refl _
  ·exact z86 ⟨3,now,t.ref,0,0,0,[]⟩ rfl
theorem zgq (sh:Int→Int) (E:ES) (c:Call) (F:FS):Hl F (askE sh E c F).1:=by
 unfold askE z3B z3q z1a z2p z2N
 split
 ·exact z3P (zcd _ _ _)
 split
 ·refine z3P ?_
  unfold z21
  split
  ·exact Hl.refl _
  ·exact zcd _ _ _
 split
 ·exact z3P (z9O F 23 c.data E.now)
 split
 ·exact z3P (zca _ _ _ _ _)
 ·exact z3P (zcb _ _ _ _ _)
def KA (l:List Ev) (i k:Int):Prop:=1≤i∧i≤l.length∧∃ e,l[(i-1).toNat]?=some e∧e.kind=k
theorem KA.app {l:List Ev} {i k:Int} (h:KA l i k) (m:List Ev):KA (l++m) i k:=by
 obtain ⟨h1,h2,e,h3,h4⟩:=h
 refine ⟨h1,by rw [List.length_append];omega,e,?_,h4⟩
 rw [List.getElem?_append_left (by omega)]
 exact h3
theorem KA.last (l:List Ev) (e:Ev):KA (l++[e]) ((l.length:Int)+1) e.kind:=by
 refine ⟨by omega,by simp,e,?_,rfl⟩
 rw [show ((l.length:Int)+1-1).toNat=l.length by omega]
 simp
structure FJ (F:FS):Prop where
 place:F.task≠0→KA F.l F.place 2
 k3:∀ e∈F.l,e.kind=3→KA F.l e.ref 2∧e.ref≤F.place∧(F.task=1→e.ref<F.place)
 k8:∀ e∈F.l,e.kind=8→KA F.l e.ref 7∧∀ o,(e.ref,o)∈F.op→o.works≠0
theorem FJ.sub {F F':FS} {e:Ev} (h:FJ F) (hl:F'.l=F.l++[e]) (ho:F'.op.Sublist F.op) (hp:F'.place=F.place) (ht:F'.task=F.task∨F'.task=0) (h3:e.kind≠3) (h8:e.kind≠8):FJ F':=by
 refine ⟨fun hk=>?_,fun x hx hk=>?_,fun x hx hk=>?_⟩
 ·rcases ht with ht | ht
  ·rw [hl,hp];exact (h.place (by rw [← ht];exact hk)).app _
  ·exact absurd ht hk
 ·rw [hl] at hx
  rcases List.mem_append.1 hx with hx | hx
  ·obtain ⟨a,b,c⟩:=h.k3 x hx hk
   rw [hl,hp]
   refine ⟨a.app _,b,fun e1=>?_⟩
   rcases ht with ht | ht
   ·exact c (ht▸e1)
   ·omega
  ·simp only [List.mem_singleton] at hx
   subst hx
   exact absurd hk h3
 ·rw [hl] at hx
  rcases List.mem_append.1 hx with hx | hx
  ·obtain ⟨a,b⟩:=h.k8 x hx hk
   rw [hl]
   exact ⟨a.app _,fun o ho'=>b o (ho.subset ho')⟩
  ·simp only [List.mem_singleton] at hx
   subst hx
   exact absurd hk h8
theorem FJ.put {F:FS} {e:Ev} (h:FJ F) (h3:e.kind=3→F.task=1∧e.ref=F.place) (h8:e.kind=8→KA F.l e.ref 7∧(F.op.map (·.1)).Nodup):FJ (putF F e):=by
 unfold putF
 refine iteInduction (motive:=FJ) (fun hc=>?_) (fun hc1=>?_)
 ·exact h.sub (e:=e) rfl (List.Sublist.refl _) rfl (.inl rfl) (by omega) (by omega)
 refine iteInduction (motive:=FJ) (fun hc=>?_) (fun hc2=>?_)
 ·refine ⟨fun _=>?_,fun x hx hk=>?_,fun x hx hk=>?_⟩
  ·have:=KA.last F.l e
   rw [hc] at this
   exact this
  ·rcases List.mem_append.1 hx with hx | hx
   ·have a:=(h.k3 x hx hk).1
    have:=a.2.1
    refine ⟨a.app _,?_,fun _=>?_⟩
    ·simp only [atF];omega
    ·simp only [atF];omega
   ·simp only [List.mem_singleton] at hx
    subst hx
    omega
  ·rcases List.mem_append.1 hx with hx | hx
   ·obtain ⟨a,b⟩:=h.k8 x hx hk
    exact ⟨a.app _,b⟩
   ·simp only [List.mem_singleton] at hx
    subst hx
    omega
 refine iteInduction (motive:=FJ) (fun hc=>?_) (fun hc3=>?_)
 ·obtain ⟨ht,hr⟩:=h3 hc
  have hp:=h.place (by omega)
  refine ⟨fun _=>hp.app _,fun x hx hk=>?_,fun x hx hk=>?_⟩
  ·rcases List.mem_append.1 hx with hx | hx
   ·obtain ⟨a,b,_⟩:=h.k3 x hx hk
    exact ⟨a.app _,b,fun e1=>by simp at e1⟩
   ·simp only [List.mem_singleton] at hx
    subst hx
    refine ⟨?_,by rw [hr];simp,fun e1=>by simp at e1⟩
    rw [hr]
    exact hp.app _
  ·rcases List.mem_append.1 hx with hx | hx
   ·obtain ⟨a,b⟩:=h.k8 x hx hk
    exact ⟨a.app _,b⟩
   ·simp only [List.mem_singleton] at hx
    subst hx
    omega
 refine iteInduction (motive:=FJ) (fun hc=>?_) (fun hc4=>?_)
 ·exact h.sub (e:=e) rfl (List.Sublist.refl _) rfl (.inr rfl) (by omega) (by omega)
 refine iteInduction (motive:=FJ) (fun hc=>?_) (fun hc5=>?_)
 ·exact h.sub (e:=e) rfl (List.Sublist.refl _) rfl (.inr rfl) (by omega) (by omega)
 refine iteInduction (motive:=FJ) (fun hc=>?_) (fun hc7=>?_)
 ·have hb:FJ { F with l:=F.l++[e] }:=h.sub (e:=e) rfl (List.Sublist.refl _) rfl (.inl rfl) (by omega) (by omega)
  refine ⟨hb.place,hb.k3,fun x hx hk=>?_⟩
  obtain ⟨a,b⟩:=hb.k8 x hx hk
  refine ⟨a,fun o ho=>?_⟩
  rcases z1K ho with e1 | ho
  ·injection e1 with e1 _
   rcases List.mem_append.1 hx with hx | hx
   ·have:=(h.k8 x hx hk).1.2.1
    unfold atF at e1
    omega
   ·simp only [List.mem_singleton] at hx
    subst hx
    omega
  ·exact b o ho
 refine iteInduction (motive:=FJ) (fun hc=>?_) (fun hc8=>?_)
 ·obtain ⟨ha,hn⟩:=h8 hc
  refine ⟨fun hk=>(h.place hk).app _,fun x hx hk=>?_,fun x hx hk=>?_⟩
  ·rcases List.mem_append.1 hx with hx | hx
   ·obtain ⟨a,b,c⟩:=h.k3 x hx hk
    exact ⟨a.app _,b,c⟩
   ·simp only [List.mem_singleton] at hx
    subst hx
    omega
  ·have hw:∀ o,(x.ref,o)∈up F.op e.ref ⟨7,e.id,atF F⟩→(∀ o,(x.ref,o)∈F.op→x.ref≠e.ref→o.works≠0)→o.works≠0:=fun o ho hold=>by
    rcases z3R hn ho with e1 | ⟨ho,hne⟩
    ·injection e1 with _ e1
     rw [e1]
     simp only [atF]
     omega
    ·exact hold o ho hne
   rcases List.mem_append.1 hx with hx | hx
   ·obtain ⟨a,b⟩:=h.k8 x hx hk
    exact ⟨a.app _,fun o ho=>hw o ho fun o ho _=>b o ho⟩
   ·simp only [List.mem_singleton] at hx
    subst hx
    exact ⟨ha.app _,fun o ho=>hw o ho fun o ho hne=>absurd rfl hne⟩
 refine iteInduction (motive:=FJ) (fun hc=>?_) (fun hc9=>?_)
 ·exact h.sub (e:=e) rfl (z2Q _ _) rfl (.inl rfl) (by omega) (by omega)
 refine iteInduction (motive:=FJ) (fun hc=>?_) (fun hc10=>?_)
 ·exact h.sub (e:=e) rfl (z2Q _ _) rfl (.inl rfl) (by omega) (by omega)
 refine iteInduction (motive:=FJ) (fun hc=>?_) (fun hc11=>?_)
 ·exact h.sub (e:=e) rfl (z2Q _ _) rfl (.inl rfl) (by omega) (by omega)
 refine iteInduction (motive:=FJ) (fun hc=>?_) (fun hc12=>?_)
 ·exact h.sub (e:=e) rfl (z2Q _ _) rfl (.inl rfl) (by omega) (by omega)
 refine iteInduction (motive:=FJ) (fun hc=>?_) (fun hc13=>?_)
 ·exact h.sub (e:=e) rfl (List.Sublist.refl _) rfl (.inl rfl) (by omega) (by omega)
 ·exact h.sub (e:=e) rfl (List.nil_sublist _) rfl (.inr rfl) (by omega) (by omega)
theorem FJ.plain {F:FS} {e:Ev} (h:FJ F) (h3:e.kind≠3) (h8:e.kind≠8):FJ (putF F e):=h.put (fun e=>absurd e h3) (fun e=>absurd e h8)
theorem z8P {F G:FS} (e:Ev) (h:FJ F) (hG:G=putF F e) (h3:e.kind≠3) (h8:e.kind≠8):FJ G:=hG▸h.plain h3 h8
theorem z3s {F:FS} (h:FJ F) (now:Int):FJ (z07 F now).1:=z8P ⟨2,now,0,0,F.list,F.turn,[]⟩ h rfl (by dsimp only;omega) (by dsimp only;omega)
theorem zf5 {F:FS} (h:FJ F) (now:Int):FJ (z0T F now).1:=by
 unfold z0T
 split
 ·exact z3s h now
 ·exact h
theorem zf1 {F:FS} (h:FJ F) (d:Dec) (now:Int):FJ (z0d F d now).1:=by
 unfold z0d
 split
 ·exact z8P ⟨7,now,0,d.id,d.list,d.n,d.data⟩ h rfl (by dsimp only;omega) (by dsimp only;omega)
 split
 ·exact z8P ⟨12,now,0,d.id,d.list,d.n,d.data⟩ h rfl (by dsimp only;omega) (by dsimp only;omega)
 split
 ·exact z8P ⟨17,now,0,d.id,d.list,d.n,d.data⟩ h rfl (by dsimp only;omega) (by dsimp only;omega)
 split
 ·exact z8P ⟨14,now,z2r F.op 12 d.id,d.id,d.list,d.n,d.data⟩ h rfl (by dsimp only;omega) (by dsimp only;omega)
 ·have:z2X d.kind≠3∧z2X d.kind≠8:=by
   unfold z2X
   repeat' split
   all_goals omega
  exact z8P ⟨z2X d.kind,now,0,0,0,0,d.data⟩ h rfl this.1 this.2
theorem zbO {F:FS} (e:Ev) (now:Int) (h:FJ F) (h3:e.kind≠3) (h8:e.kind≠8):FJ (ok (z0T (putF F e) now)).1:=zf5 (h.plain h3 h8) now
theorem zf4 {F:FS} (e:Ev) (now:Int) (h:FJ F) (h3:e.kind≠3) (h8:e.kind≠8):FJ (z07 (putF F e) now).1:=z3s (h.plain h3 h8) now
theorem z6T (now:Int):∀ (l:List Dec) (x:FS × List Out),FJ x.1→FJ (z0n now x l).1
 | [],_,h=>h
 | d::r,x,h=>z6T now r ((z0d x.1 d now).1,x.2++(z0d x.1 d now).2) (zf1 h d now)
theorem z3N {data:List UInt8} {now:Int} {act:FS→FR} {F:FS} (h:FJ F) (h':FJ (act F).1):FJ (tryF F data now act).1:=by
 unfold tryF
 repeat' split
 all_goals first | exact h | exact h'
theorem zbN {kind ref:Int} {data:List UInt8} {now:Int} {F:FS} (hk:kind=9∨kind=10∨kind=11) (h:FJ F):FJ (z2q kind ref data now F).1:=by
 unfold z2q
 repeat' split
 all_goals first | exact h | exact zbO _ _ h (by dsimp only;omega) (by dsimp only;omega)
theorem zbM (ref turn:Int) (l:List Dec) (now:Int) {F:FS} (h:FJ F):FJ (z1p ref turn l now F).1:=by
 unfold z1p
 split
 ·exact h
 split
 ·exact zf4 ⟨6,now,F.begun,0,0,1,[]⟩ now h (by dsimp only;omega) (by dsimp only;omega)
 split
 ·exact zf4 ⟨6,now,F.begun,0,0,2,[]⟩ now h (by dsimp only;omega) (by dsimp only;omega)
 have h4:FJ (putF F ⟨4,now,F.begun,0,0,0,[]⟩):=h.plain (by dsimp only;omega) (by dsimp only;omega)
 split
 ·exact z3s (z6T now l (putF F ⟨4,now,F.begun,0,0,0,[]⟩,[]) h4) now
 ·exact z6T now l (putF F ⟨4,now,F.begun,0,0,0,[]⟩,[]) h4
theorem zf2 {F:FS} (h:FJ F) (kind ref turn now:Int):FJ (z1F F kind ref turn now).1:=by
 unfold z1F
 split
 ·refine z3N h ?_
  unfold z1r
  split
  ·exact h
  ·exact zf4 ⟨5,now,F.begun,0,0,0,[]⟩ now h (by dsimp only;omega) (by dsimp only;omega)
 split
 ·refine z3N h ?_
  unfold z1x
  split
  ·exact h
  ·exact zbN (.inr (.inr rfl)) h
 split
 ·refine z3N h ?_
  unfold z29
  repeat' split
  all_goals first | exact h | exact zbO _ _ h (by dsimp only;omega) (by dsimp only;omega)
 ·exact h
theorem z7T {F:FS} (h:FJ F) (id status:Int) (data:List UInt8) (now:Int):FJ (z0h F id status data now).1:=by
 unfold z0h
 split
 ·exact h
 refine z3N h ?_
 unfold z0x
 repeat' split
 all_goals first | exact h | exact zbO _ _ h (by dsimp only;omega) (by dsimp only;omega)
theorem z7o {F:FS} {ref:Int} (h:z1n F ref (-1)=true):∃ o,(ref,o)∈F.op∧o.kind=7∧o.works=0:=by
 unfold z1n at h
 rw [if_pos rfl] at h
 cases hx:lk F.op ref with
 | none=>rw [hx] at h;cases h
 | some x =>
  rw [hx] at h
  simp only [Bool.and_eq_true,beq_iff_eq] at h
  exact ⟨x,z0K hx,h.1,h.2⟩
theorem FI.ka {F:FS} (h:FI F) {ref:Int} {o:Opn} (ho:(ref,o)∈F.op):KA F.l ref o.kind:=by
 obtain ⟨h1,h2,_,_,_,e,h6,h7,_⟩:=h.keys _ ho
 exact ⟨h1,h2,e,h6,h7⟩
theorem zf3 {F:FS} (hF:FOk F) (h:FJ F) (d:Bool) (t:Task) (now:Int):FJ (z2s d t now F).1:=by
 unfold z2s z1z z3F
 cases d
 ·refine z3N h ?_
  unfold z2H
  split
  ·exact h
  ·rename_i hw
   split
   ·exact h
   ·obtain ⟨o,ho,hk,_⟩:=z7o (by simpa using hw)
    exact h.put (e:=⟨8,now,t.ref,_,0,0,[]⟩) (fun e=>by simp at e) (fun _=>⟨hk▸hF.i.ka ho,hF.i.nodup⟩)
 ·refine z3N h ?_
  unfold z0Q
  split
  ·exact h
  ·rename_i hw
   simp only [not_or,Bool.not_eq_false] at hw
   obtain ⟨h0,hw⟩:=hw
   unfold z1n at hw
   rw [if_neg (by omega)] at hw
   simp only [Bool.and_eq_true,beq_iff_eq] at hw
   exact h.put (e:=⟨3,now,t.ref,0,0,0,[]⟩) (fun _=>⟨hw.1.1,hw.1.2.symm⟩) (fun e=>by simp at e)
theorem zgj (sh:Int→Int) (E:ES) (c:Call) {F:FS} (h:FJ F):FJ (askE sh E c F).1:=by
 unfold askE z3B z3q z1a z2p z2N
 split
 ·exact z3N h (zbO _ _ h (by dsimp only;omega) (by dsimp only;omega))
 split
 ·refine z3N h ?_
  unfold z21
  split
  ·exact h
  ·exact zbO _ _ h (by dsimp only;omega) (by dsimp only;omega)
 split
 ·exact z3N h (z8P ⟨23,E.now,0,0,0,0,c.data⟩ h rfl (by dsimp only;omega) (by dsimp only;omega))
 split
 ·exact z3N h (zbM _ _ _ _ h)
 ·exact z3N h (zbN (by split<;>simp) h)
theorem zgk {id run list n now:Int} {data:List UInt8} {F:FS} {os:List Out} (h:newF id run list n data now=some (F,os)):FJ F:=by
 unfold newF at h
 split at h
 ·injection h with h
  have e1:F=(z07 (putF (f0 id run) ⟨1,now,0,0,list,n,data⟩) now).1:=by rw [h]
  rw [e1]
  have h0:FJ (f0 id run):=⟨fun e=>absurd rfl e,fun x hx=>(by cases hx),fun x hx=>(by cases hx)⟩
  exact z3s (h0.plain (by dsimp only;omega) (by dsimp only;omega)) _
 ·cases h
structure Gro (E E':ES):Prop where
 g:∀ id r,lk E.runs id=some r→∃ r',lk E'.runs id=some r'∧(r.f.run<r'.f.run∨Hl r.f r'.f)
 j:EOk E→(∀ x∈E.runs,FJ x.2.f)→∀ x∈E'.runs,FJ x.2.f
theorem Gro.refl (E:ES):Gro E E:=⟨fun _ r h=>⟨r,h,.inr (Hl.refl _)⟩,fun _ h=>h⟩
theorem Gro.same {E E':ES} (h:E'.runs=E.runs):Gro E E':=⟨fun _ r hr=>⟨r,h▸hr,.inr (Hl.refl _)⟩,fun _ j=>h▸j⟩
theorem Gro.trans {E E' E'':ES} (h:Gro E E') (k:Gro E' E'') (ok:EOk E→EOk E'):Gro E E'':=by
 refine ⟨fun id r hr=>?_,fun e j=>k.j (ok e) (h.j e j)⟩
 obtain ⟨r',h1,h2⟩:=h.g id r hr
 obtain ⟨r'',k1,k2⟩:=k.g id r' h1
 refine ⟨r'',k1,?_⟩
 rcases h2 with h2 | h2<;>rcases k2 with k2 | k2
 ·exact .inl (by omega)
 ·exact .inl (by rw [k2.run];exact h2)
 ·exact .inl (by rw [← h2.run];exact k2)
 ·exact .inr (h2.trans k2)
theorem zc6 {E:ES} {id:Int} {r':RunS} (hg:∀ r,lk E.runs id=some r→r.f.run<r'.f.run∨Hl r.f r'.f) (hj:EOk E→(∀ x∈E.runs,FJ x.2.f)→FJ r'.f):Gro E { E with runs:=up E.runs id r' }:=by
 refine ⟨fun q r hr=>?_,fun e j x hx=>?_⟩
 ·by_cases hq:q=id
  ·subst hq
   exact ⟨r',z0g _ _ _,hg r hr⟩
  ·exact ⟨r,(z0G _ _ hq).trans hr,.inr (Hl.refl _)⟩
 ·rcases z1K hx with rfl | hx
  ·exact hj e j
  ·exact j x hx
theorem z5D {E E':ES} {id list n pf pr now k:Int} {data:List UInt8} (h:z0U E id list n data pf pr now=some (E',k)):Gro E E':=by
 unfold z0U at h
 simp only at h
 split at h
 ·cases h
 ·rename_i f os hn
  obtain ⟨E1,h1,h2⟩:=Option.map_eq_some_iff.1 h
  injection h2 with h2 _
  subst h2
  have ho:=(FOk.new hn).2.2.1
  have a:Gro E { E with runs:=up E.runs id ⟨f,pf,pr⟩ }:=zc6 (fun r hr=>by
   left
   rw [hr] at ho
   simp only at ho ⊢
   omega) (fun _ _=>zgk hn)
  exact a.trans (.same (z3v h1).2) (z1Y (r:=⟨f,pf,pr⟩) (fun _=>⟨(FOk.new hn).1,(FOk.new hn).2.1⟩)).ok
theorem z8S {E:ES} {id:Int} {r:RunS} {f:FS} (hr:lk E.runs id=some r) (hl:Hl r.f f) (hj:FOk r.f→FJ r.f→FJ f):Gro E { E with runs:=up E.runs id { r with f:=f } } :=
 zc6 (fun r' h'=>by rw [hr] at h';injection h' with h';subst h';exact .inr hl) (fun e j=>hj (e.get hr).1 (j _ (z0K hr)))
theorem z9N {E E':ES} {id now child status:Int} {data:List UInt8} (h:z3j E id now child status data=some E'):Gro E E':=by
 unfold z3j at h
 split at h
 ·injection h with h;subst h;exact Gro.refl _
 ·rename_i r hr
  simp only at h
  have g:=z2y child status data now
  split at h
  ·have a:=z8S (f:=(z0h r.f child status data now).1) hr (z84 _ _ _ _ _) (fun _ j=>z7T j _ _ _ _)
   exact a.trans (.same (z3v h).2) (z1Y (r:={ r with f:=(z0h r.f child status data now).1 }) (fun e=>⟨(g.ok _ (e.get hr).1).1,(g.ok _ (e.get hr).1).2.1.trans (e.get hr).2⟩)).ok
  split at h
  ·cases h
  ·injection h with h;subst h;exact Gro.refl _
theorem zc5 {E E':ES} {id n now:Int} {o:Out} (h:outE E id n now o=some E'):Gro E E':=by
 unfold outE at h
 split at h
 ·exact .same (z5N h).2
 split at h
 ·unfold z2P at h
  split at h
  ·exact z9N h
  ·obtain ⟨⟨E1,k⟩,h1,rfl⟩:=Option.map_eq_some_iff.1 h
   exact z5D h1
 have d:Gro E { E with due:=z20 E.due id n }:=.same rfl
 have dn:Nx 0 E { E with due:=z20 E.due id n }:=z3D (fun e=>z3K e _ _) (Nat.le_trans (z2Y _ _ _) (by omega))
 simp only at h
 split at h
 ·cases h
 ·rename_i r hr
  split at h
  ·split at h
   ·cases h
   ·obtain ⟨⟨E1,k⟩,h1,rfl⟩:=Option.map_eq_some_iff.1 h
    exact d.trans (z5D h1) dn.ok
  ·split at h
   ·injection h with h;subst h;exact d
   ·split at h
    ·injection h with h;subst h;exact d
    ·exact d.trans (z9N h) dn.ok
theorem z54 {id n now:Int}:∀ {l:List Out} {E E':ES},z2F E id n now l=some E'→Gro E E'
 | [],E,E',h=>by injection h with h;subst h;exact Gro.refl _
 | o::r,E,E',h=>by
  obtain ⟨E1,h1,h2⟩:=Option.bind_eq_some_iff.1 h
  exact (zc5 h1).trans (z54 h2) (z9W h1).ok
theorem z6i {E E':ES} {id e:Int} {act:FS→FR} (g:z3H act) (hl:∀ F,Hl F (act F).1) (hj:∀ F,FOk F→FJ F→FJ (act F).1) (h:z0k E id act=(e,some E')):Gro E E':=by
 unfold z0k at h
 split at h
 ·cases h
 ·rename_i r hr
  simp only at h
  split at h
  ·cases h
  ·injection h with _ h
   have a:=z8S (f:=(act r.f).1) hr (hl _) (hj _)
   exact a.trans (z54 h) (z1Y (r:={ r with f:=(act r.f).1 }) (fun e=>⟨(g.ok _ (e.get hr).1).1,(g.ok _ (e.get hr).1).2.1.trans (e.get hr).2⟩)).ok
theorem z3c (E:ES) (d:Bool) (list:Int):(popE E d list).runs=E.runs:=by cases d<;>rfl
theorem zdI {E E':ES} {d:Bool} {t:Task} {a:Ans} (h:z2b E d t=some (a,E')):Gro E E':=by
 unfold z2b at h
 split at h
 ·cases h
 ·split at h
  ·rename_i e E1 hc
   split at h
   ·injection h with h
    injection h with _ h
    subst h
    exact z6i (z4t _ _ _) (zcc _ _ _) (fun _ a b=>zf3 a b _ _ _) hc
   ·cases h
  ·cases h
theorem z83 {d:Bool} {list:Int}:∀ (l:List Task) (E:ES),Gro E (z1v d list E l).2
 | [],E=>Gro.refl _
 | t::r,E=>by
  unfold z1v
  split
  ·split
   ·exact Gro.refl _
   ·rename_i a E' h
    exact (zdI h).trans (.same (z3c _ _ _)) (z5M h).ok
  ·exact Gro.trans (.same (z3c _ _ _)) (z83 r _) z4U.ok
theorem zgo {sh:Int→Int} {E E':ES} {c:Call} {a:Ans} (h:doE sh E c=(a,some E')):Gro E E':=by
 unfold doE at h
 split at h
 ·unfold z2n at h
  split at h
  ·injection h with _ h;injection h with h;subst h;exact Gro.refl _
  ·split at h
   ·cases h
   ·rename_i E1 n hb
    injection h with _ h;injection h with h;subst h
    exact z5D hb
 split at h
 ·injection h with _ h;injection h with h;subst h;exact z83 _ _
 split at h
 ·injection h with _ h;injection h with h;subst h;exact Gro.refl _
 split at h
 ·injection h with _ h;injection h with h;subst h;exact Gro.refl _
 split at h
 ·injection h with _ h;injection h with h;subst h;exact Gro.refl _
 split at h
 ·injection h with _ h;injection h with h;subst h;exact Gro.refl _
 ·injection h with h1 h2
  exact z6i (e:=(z0k E (z16 c) (askE sh E c)).1) (z3Y sh E c) (zgq sh E c) (fun _ _ j=>zgj sh E c j) (Prod.ext rfl h2)
theorem z6W (sh:Int→Int) (E:ES) (c:Call):Gro E (z13 sh E c).2:=by
 unfold z13
 split
 ·exact Gro.refl _
 ·split
  ·rename_i a E' h;exact zgo h
  ·exact Gro.refl _
theorem zdH {E E':ES} {i:It} (h:z1M E i=some E'):Gro E E':=by
 unfold z1M at h
 split at h
 ·injection h with h;subst h;exact Gro.refl _
 ·rename_i r hr
  split at h
  ·injection h with h;subst h;exact Gro.refl _
  ·simp only at h
   have g:=z4s i.2.2.2.2.2 i.2.2.2.1 i.2.2.2.2.1 i.1
   split at h
   ·have a:=z8S (f:=(z1F r.f i.2.2.2.2.2 i.2.2.2.1 i.2.2.2.2.1 i.1).1) hr (zfj _ _ _ _ _) (fun _ j=>zf2 j _ _ _ _)
    exact a.trans (z54 h) (z1Y (r:={ r with f:=(z1F r.f i.2.2.2.2.2 i.2.2.2.1 i.2.2.2.2.1 i.1).1 }) (fun e=>⟨(g.ok _ (e.get hr).1).1,(g.ok _ (e.get hr).1).2.1.trans (e.get hr).2⟩)).ok
   split at h
   ·cases h
   ·injection h with h;subst h;exact Gro.refl _
theorem z6X (end_:Int):∀ (n:Nat) (E:ES),Gro E (z1t end_ n E)
 | 0,E=>Gro.refl _
 | n+1,E=>by
  unfold z1t
  split
  ·exact Gro.refl _
  ·rename_i i r hd
   split
   ·exact Gro.refl _
   ·have a:Nx 0 E { E with due:=r }:=z3D (fun e=>by rw [hd] at e;exact (List.pairwise_cons.1 e).2) (by rw [hd];simp only [List.length_cons];omega)
    have ga:Gro E { E with due:=r }:=.same rfl
    split
    ·rename_i E1 h
     exact (ga.trans (zdH h) a.ok).trans (z6X end_ n E1) (fun e=>(z4J h).1.ok (a.ok e))
    ·have b:Nx 0 E { E with due:=addD r (end_+1,i.2) }:=z3D (fun e=>by rw [hd] at e;exact z4l (List.pairwise_cons.1 e).2 _) (by have:=z4k r (end_+1,i.2);rw [hd];simp only [List.length_cons];omega)
     have gb:Gro E { E with due:=addD r (end_+1,i.2) }:=.same rfl
     exact gb.trans (z6X end_ n _) b.ok
def Seen (E:ES) (t:Tok):Prop:=∃ r,lk E.runs t.flow=some r∧(t.run<r.f.run∨(t.run=r.f.run∧∃ e∈r.f.l,(e.kind=3∨e.kind=8)∧e.ref=t.event))
structure EJ (E:ES):Prop where
 ok:EOk E
 j:∀ x∈E.runs,FJ x.2.f
theorem z42 (PUT:z0e) (k:Nat) (E:ES) (id now:Int) (l:List Out) (v:Value) (M S:Bl) (w:World) (h:EngR w M S k E) (hE:EOk E) (r:RunS) (hr:lk E.runs id=some r) (hl:z08 outR w M v l) (hdue:E.due.length+l.length≤999000) (hk:∀ o∈l,1≤o.kind∧o.kind≤8) :
  Calls Tryz.prog 77 #[.pointer (some ⟨k,0,none⟩),.int .i64 id,.int .i64 now,v] w (RetS M S k (z2F E id r.f.run now l) (.bool true) vF w):=by
 rw [z6q]
 exact z8h (Has id) 999000 (by omega) k E id now l v M S w h hE r hr hl hdue ⟨r,hr⟩ (fun E o=>outE E id r.f.run now o)
  (fun E E' o _ _ hq he=>⟨z9W he,zff hq (fun id r hr=>by obtain ⟨r',h1,_⟩:=(zc5 he).1 id r hr;exact ⟨r',h1⟩)⟩)
  (fun W M' S' E' o d ho heng hok hq hdl hd=>by obtain ⟨r',hr'⟩:=hq;exact zfA PUT k E' id r.f.run now o d M' S' W heng hok hdl r' hr' hd (hk o ho))
def z4j (act:FS→FR):Prop:=∀ F,∀ o∈(act F).2.1,1≤o.kind∧o.kind≤8
theorem z30 {data:List UInt8} {now:Int} {act:FS→FR} (h:z4j act):z4j (fun F=>tryF F data now act):=by
 intro F
 show ∀ o∈(tryF F data now act).2.1,_
 unfold tryF
 repeat' split
 all_goals first | exact h F | simp
theorem z5v {act:FS→FR} (h:∀ F,∀ o∈(act F).2.1,o.kind=1):z4j act:=fun F o ho=>by have:=h F o ho;omega
theorem zaz (F:FS) (d:Dec) (now:Int):∀ o∈(z0d F d now).2,1≤o.kind∧o.kind≤8:=by
 unfold z0d z0J
 intro o
 repeat' split
 all_goals first | (simp;done) | (simp only [List.mem_singleton];rintro rfl;exact ⟨by dsimp only;omega,by dsimp only;omega⟩)
theorem z5u (now:Int):∀ (l:List Dec) (x:FS × List Out),(∀ o∈x.2,1≤o.kind∧o.kind≤8)→∀ o∈(z0n now x l).2,1≤o.kind∧o.kind≤8
 | [],_,h=>h
 | d::r,x,h=>z5u now r _ fun o ho=>by
  rcases List.mem_append.1 ho with ho | ho
  ·exact h o ho
  ·exact zaz _ _ _ o ho
theorem z4M (F:FS) (now:Int):∀ o∈(z07 F now).2,1≤o.kind∧o.kind≤8:=by
 intro o
 simp only [z07,List.mem_singleton]
 rintro rfl
 exact ⟨by dsimp only;omega,by dsimp only;omega⟩
theorem z7Z (ref turn:Int) (l:List Dec) (now:Int):z4j (fun F=>z2p F ref turn l now):=z30 fun F=>by
 have hd:=z5u now l (putF F ⟨4,now,F.begun,0,0,0,[]⟩,[]) (by simp)
 unfold z1p z0y
 split
 ·simp
 split
 ·exact z4M (putF F ⟨6,now,F.begun,0,0,1,[]⟩) now
 split
 ·exact z4M (putF F ⟨6,now,F.begun,0,0,2,[]⟩) now
 split
 ·intro o ho
  rcases List.mem_append.1 ho with ho | ho
  ·exact hd o ho
  ·exact z4M _ now o ho
 ·exact hd
theorem z80 (data:List UInt8) (now:Int):z4j (fun F=>z3B F data now):=z30 (z5v fun _=>z2E _ _)
theorem z7Y (now:Int):z4j (fun F=>z3q F now):=z30 (z5v fun F=>by
 unfold z21
 split
 ·simp
 ·exact z2E _ _)
theorem z5w (data:List UInt8) (now:Int):z4j (fun F=>z1a F data now):=z30 fun F=>by
 simp [z1m,z0J,ok]
theorem z81 (ref:Int) (data:List UInt8) (good:Bool) (now:Int):z4j (fun F=>z2N F ref data good now):=z30 (z5v fun _=>z7P _ _ _ _ _)
theorem zaA (d:Bool) (t:Task) (now:Int):z4j (z2s d t now):=by
 cases d
 ·have h:z4j (fun F=>z3F F t.ref now):=z30 fun F=>by
   unfold z2H
   repeat' split
   all_goals simp
  exact h
 ·have h:z4j (fun F=>z1z F t.ref t.turn now):=z30 fun F=>by
   unfold z0Q
   repeat' split
   all_goals simp
  exact h
theorem z5t (sh:Int→Int) (E:ES) (c:Call):z4j (askE sh E c):=fun F=>by
 unfold askE
 split
 ·exact z80 _ _ F
 split
 ·exact z7Y _ F
 split
 ·exact z5w _ _ F
 split
 ·exact z7Z _ _ _ _ F
 ·exact z81 _ _ _ _ F
def RetC (M S X:Bl) (k:Nat) (R:Option ES) (vok:Value) (vfull:Value→Prop) (Q:World→Prop) (w:World) (en:Ending) (w2:World):Prop :=
 ∃ w4,Q w4∧Mod X w w4∧RetS M S k R vok vfull w4 en w2
def vC:Value→Prop:=fun v=>∃ x,v=.tuple #[.int .i64 x,.bool true]
def RetQ (M:Bl) (k:Nat) (X:Bl) (x:FR) (Q:World→Prop) (w:World) (e:Ending) (w':World):Prop :=
 ∃ A c,e=.returned (.tuple #[.slice A x.2.1.length c,.int .i64 x.2.2])∧z0O w' M k x.1∧z08 outR w' M (.slice A x.2.1.length c) x.2.1∧Mod (fun b=>b=k∨X b) w w'∧Q w'
theorem modX {a w w':World} {k:Nat} {X:Bl} (g:Gr a w) (m:Mod (fun b=>b=k∨X b) w w') (hk:a.heap.size≤k):Mod X a w' :=
 ⟨m.os.trans g.os,m.tape.trans g.tape,m.output.trans g.output,Nat.le_trans g.size m.size,fun b hb hx=>(m.block b (Nat.lt_of_lt_of_le hb g.size) (fun e=>by rcases e with e | e;omega;exact hx e)).trans (g.block b hb)⟩
set_option maxHeartbeats 2000000 in
theorem zaY (PUT:z0e) (k:Nat) (F:FS) (d:Value) (data:List UInt8) (now:Int) (M:Bl) (w:World) (h:z0O w M k F) (hM:∀ b,M b→b<w.heap.size) (hk:M k) (hF:FOk F) (hd:BysM w M d data) :
  Calls Tryz.prog 106 #[.pointer (some ⟨k,0,none⟩),d,.int .i64 now] w (RetT M k (z3B F data now) w):=by
 obtain ⟨Ad,cd,rfl⟩:∃ A c,d=.slice A data.length c:=by
  obtain ⟨A,c,e,_⟩:=hd
  exact ⟨A,c,e⟩
 have b0:=heap_alloc_new w (.cells #[.slice Ad data.length cd] 22)
 have HB0:=hid ((((Gr.refl _).alloc (.cells #[.int .i64 now] 3)).block _ (block_lt b0)).trans b0)
 clear b0
 have b1:=heap_alloc_new (w.alloc (.cells #[.slice Ad data.length cd] 22)) (.cells #[.int .i64 now] 3)
 rw [show (w.alloc (.cells #[.slice Ad data.length cd] 22)).heap.size=w.heap.size+1 by simp] at b1
 have HB1:=hid (((Gr.refl _).block _ (block_lt b1)).trans b1)
 clear b1
 have G1:=hid (show Gr w ((w.alloc (.cells #[.slice Ad data.length cd] 22)).alloc (.cells #[.int .i64 now] 3)) from (((Gr.refl w).alloc _).alloc _))
 have HT:=hid (show ∀ _:Unit,Calls Tryz.prog 141 _ ((w.alloc (.cells #[.slice Ad data.length cd] 22)).alloc (.cells #[.int .i64 now] 3)) _ from fun _ =>
  z2M 142 #[.pointer (some ⟨w.heap.size+1,0,none⟩),.pointer (some ⟨w.heap.size,0,none⟩)] k F (.slice Ad data.length cd) data now (z4O data now) M ((w.alloc (.cells #[.slice Ad data.length cd] 22)).alloc (.cells #[.int .i64 now] 3)) (h.gr G1.o) (fun b e=>Nat.lt_of_lt_of_le (hM b e) G1.o.size) hk ((hd.up (Gr.up G1.o M)).bys) hF.i hF.len (fun _ _=>rfl) fun hr W k' mb' g n1 n2 hfw=>by
   obtain ⟨r1,r2,r3⟩:=z0X hr
   exact zbi PUT k' mb' (w.heap.size+1) (w.heap.size) F now (.slice Ad data.length cd) data (plus M k' mb') W hfw hF ((g.block _ (block_lt HB1.o)).trans HB1.o) ((g.block _ (block_lt HB0.o)).trans HB0.o) ((hd.up (Gr.up (G1.o.trans g) M)).bys) r1)
 have H:=hid h
 clear h hk
 go_enter Tryz.func106,Tryz.ntmps106
 go_wp2_with (first
  | (go_at_call 141;refine (HT.o ()).mono ?_;rintro en w3 ⟨A3,c3,rfl,hf3,ho3,hm3⟩))
 go_ret2
 exact ⟨A3,c3,rfl,hf3,ho3,(G1.o.mod _).trans hm3 (fun _ _ e=>e)⟩
set_option maxHeartbeats 2000000 in
theorem zal (PUT:z0e) (k:Nat) (F:FS) (now:Int) (M:Bl) (w:World) (h:z0O w M k F) (hM:∀ b,M b→b<w.heap.size) (hk:M k) (hF:FOk F) :
  Calls Tryz.prog 107 #[.pointer (some ⟨k,0,none⟩),.int .i64 now] w (RetT M k (z3q F now) w):=by
 have b0:=heap_alloc_new w (.cells #[.int .i64 now] 3)
 have HB0:=hid (((Gr.refl _).block _ (block_lt b0)).trans b0)
 clear b0
 have G1:=hid (show Gr w (w.alloc (.cells #[.int .i64 now] 3)) from ((Gr.refl w).alloc _))
 have HT:=hid (show ∀ _:Unit,Calls Tryz.prog 141 _ (w.alloc (.cells #[.int .i64 now] 3)) _ from fun _ =>
  z2M 145 #[.pointer (some ⟨w.heap.size,0,none⟩)] k F (.slice none 0 0) [] now (z21 now) M (w.alloc (.cells #[.int .i64 now] 3)) (h.gr G1.o) (fun b e=>Nat.lt_of_lt_of_le (hM b e) G1.o.size) hk ((BysM.none _ M).bys) hF.i hF.len (fun _ _=>rfl) fun hr W k' mb' g n1 n2 hfw=>by
   obtain ⟨r1,r2,r3⟩:=z0X hr
   exact zbe PUT k' mb' (w.heap.size) F now (plus M k' mb') W hfw hF ((g.block _ (block_lt HB0.o)).trans HB0.o))
 have H:=hid h
 clear h hk
 go_enter Tryz.func107,Tryz.ntmps107
 go_wp2_with (first
  | (go_at_call 141;refine (HT.o ()).mono ?_;rintro en w3 ⟨A3,c3,rfl,hf3,ho3,hm3⟩))
 go_ret2
 exact ⟨A3,c3,rfl,hf3,ho3,(G1.o.mod _).trans hm3 (fun _ _ e=>e)⟩
set_option maxHeartbeats 2000000 in
theorem z7k (PUT:z0e) (k:Nat) (F:FS) (d:Value) (data:List UInt8) (now:Int) (M:Bl) (w:World) (h:z0O w M k F) (hM:∀ b,M b→b<w.heap.size) (hk:M k) (hF:FOk F) (hd:BysM w M d data) :
  Calls Tryz.prog 108 #[.pointer (some ⟨k,0,none⟩),d,.int .i64 now] w (RetT M k (z1a F data now) w):=by
 obtain ⟨Ad,cd,rfl⟩:∃ A c,d=.slice A data.length c:=by
  obtain ⟨A,c,e,_⟩:=hd
  exact ⟨A,c,e⟩
 have b0:=heap_alloc_new w (.cells #[.slice Ad data.length cd] 22)
 have HB0:=hid ((((Gr.refl _).alloc (.cells #[.int .i64 now] 3)).block _ (block_lt b0)).trans b0)
 clear b0
 have b1:=heap_alloc_new (w.alloc (.cells #[.slice Ad data.length cd] 22)) (.cells #[.int .i64 now] 3)
 rw [show (w.alloc (.cells #[.slice Ad data.length cd] 22)).heap.size=w.heap.size+1 by simp] at b1
 have HB1:=hid (((Gr.refl _).block _ (block_lt b1)).trans b1)
 clear b1
 have G1:=hid (show Gr w ((w.alloc (.cells #[.slice Ad data.length cd] 22)).alloc (.cells #[.int .i64 now] 3)) from (((Gr.refl w).alloc _).alloc _))
 have HT:=hid (show ∀ _:Unit,Calls Tryz.prog 141 _ ((w.alloc (.cells #[.slice Ad data.length cd] 22)).alloc (.cells #[.int .i64 now] 3)) _ from fun _ =>
  z2M 146 #[.pointer (some ⟨w.heap.size,0,none⟩),.pointer (some ⟨w.heap.size+1,0,none⟩)] k F (.slice Ad data.length cd) data now (z1m data now) M ((w.alloc (.cells #[.slice Ad data.length cd] 22)).alloc (.cells #[.int .i64 now] 3)) (h.gr G1.o) (fun b e=>Nat.lt_of_lt_of_le (hM b e) G1.o.size) hk ((hd.up (Gr.up G1.o M)).bys) hF.i hF.len (fun _ _=>rfl) fun hr W k' mb' g n1 n2 hfw=>by
   obtain ⟨r1,r2,r3⟩:=z0X hr
   exact z7C PUT k' mb' (w.heap.size) (w.heap.size+1) F now (.slice Ad data.length cd) data (plus M k' mb') W hfw ((g.block _ (block_lt HB0.o)).trans HB0.o) ((g.block _ (block_lt HB1.o)).trans HB1.o) (hd.up ((Gr.up G1.o M).trans (Gr.plus g n1 n2))))
 have H:=hid h
 clear h hk
 go_enter Tryz.func108,Tryz.ntmps108
 go_wp2_with (first
  | (go_at_call 141;refine (HT.o ()).mono ?_;rintro en w3 ⟨A3,c3,rfl,hf3,ho3,hm3⟩))
 go_ret2
 exact ⟨A3,c3,rfl,hf3,ho3,(G1.o.mod _).trans hm3 (fun _ _ e=>e)⟩
set_option maxHeartbeats 1000000 in
theorem zav (PUT:z0e) (k mb:Nat) (F:FS) (n now:Int) (M:Bl) (w:World) (h:FW w M k mb F) (hF:FOk F) (hn:0≤n∧n≤1048576) :
    Calls Tryz.prog 150 #[.pointer (some ⟨k,0,none⟩),.int .i64 n,.int .i64 now] w (RetO M k mb (z0y F n now) w):=by
  obtain ⟨A,c,hc,⟨c0,c1,c2,c3,c4,c5,c6,c7,c8,c9,c10,c11⟩,hr,hk⟩:=h.r.parts
  have HP:=hid (show Calls Tryz.prog 143 #[.pointer (some ⟨k,0,none⟩),.agg #[.int .i64 6,.int .i64 now,.int .i64 F.begun,.int .i64 0,.int .i64 0,.int .i64 n,.slice none 0 0]] w _ from
    fput PUT ⟨6,now,F.begun,0,0,n,[]⟩ (.slice none 0 0) h (BysM.none w M).bys (okP hF (by unfold z0V;dsimp only;omega) hn (by simp)) hF.l9 (by dsimp only;omega) (by dsimp only;omega))
  clear h hr hc
  unfold z0y
  go_enter Tryz.func150,Tryz.ntmps150
  go_wp2_with (first
    | (go_at_call 143
       refine HP.o.mono ?_
       rintro en w2 ⟨rfl,hw2,hm2⟩
       have HM2:=hid hm2
       have HW:=hid (z0W PUT k mb _ now M w2 hw2)
       clear hm2 hw2)
    | (go_at_call 152
       refine HW.o.mono ?_
       rintro en w3 ⟨A3,c3_,rfl,hr3,ho3,hm3⟩))
  go_ret
  exact ⟨A3,c3_,rfl,hr3,ho3,HM2.o.trans hm3 (fun _ _ e=>e)⟩
end Go.Proofs.YtniknicnnaiilaaGreat
end
