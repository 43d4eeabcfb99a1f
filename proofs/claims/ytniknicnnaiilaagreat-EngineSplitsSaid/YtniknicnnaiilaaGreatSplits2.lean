/- Lemmas of the engine. -/
import Derived.Shelf.SlGeneric
import Derived.Shelf.SlIterI.Nil
import Derived.Shelf.SortM.Plain
import Derived.Shelf.SortM.SortNone
import Derived.Test.YtniknicnnaiilaaGreatX06
import Derived.Test.YtniknicnnaiilaaGreatX07
import Derived.Test.YtniknicnnaiilaaGreatX10
import Derived.Test.YtniknicnnaiilaaGreatX11
import Derived.Test.YtniknicnnaiilaaGreatX17
import Derived.Test.YtniknicnnaiilaaGreatX22
import Derived.Test.YtniknicnnaiilaaGreatX30
import Derived.Test.YtniknicnnaiilaaGreatSplits1
section
namespace Go.Proofs.YtniknicnnaiilaaGreat
set_option maxRecDepth 100000
open Go.RowKit Go.Ext Go.BigFrame Go.Maps Go.MapKept
attribute [local go_sem] Ext.cell Ext.frozen Ext.lt Ext.le s1 s2 s3 s4 s5 s6 t1 t2 t3 t4 t5 t6
attribute [local go_sem ↓] Go.wp_at_zero Go.wp_at_succ
def KL (x:Int):Prop:=0≤x∧x≤1048576
structure KE (E:ES):Prop where
 d:∀ x∈E.dec,KL x.1
 a:∀ x∈E.act,KL x.1
 r:∀ x∈E.runs,KL x.2.f.list
structure Kf (F:FS) (r:FR):Prop where
 f:KL F.list→KL r.1.list
 o:KL F.list→∀ o∈r.2.1,KL o.list
theorem KL.zero:KL 0:=⟨by omega,by omega⟩
theorem KL.of {x:Int} (h:numB x=true):KL x:=by simpa [numB,KL] using h
theorem z1N (F:FS) (e:Int):Kf F (F,[],e):=⟨id,fun _ o h=>by cases h⟩
theorem z3Q {F:FS} {data:List UInt8} {now:Int} {act:FS→FR} (h:Kf F (act F)):Kf F (tryF F data now act):=by
 unfold tryF
 repeat' split
 all_goals first | exact h | exact z1N _ _
theorem z2g {F:FS} {e:Ev} (h:e.kind≠1):(putF F e).list=F.list:=by
 unfold putF
 rw [if_neg h]
 repeat (refine iteInduction (motive:=fun G:FS=>G.list=F.list) (fun _=>rfl) (fun _=>?_))
 rfl
theorem z8b {F G:FS} {o:Out} {c:Int} (h:G.list=F.list) (ho:KL F.list→KL o.list):Kf F (G,[o],c):=⟨fun k=>by rw [h];exact k,fun k x hx=>by rw [List.mem_singleton.1 hx];exact ho k⟩
theorem z4v {F G:FS} {now c:Int} (h:G.list=F.list):Kf F ((z07 G now).1,(z07 G now).2,c) :=
 z8b ((z2g (by show (2:Int)≠1;decide)).trans h) fun k=>by rw [h];exact k
theorem zfu {F G:FS} {now c:Int} (h:G.list=F.list):Kf F ((z0T G now).1,(z0T G now).2,c):=by
 unfold z0T
 split
 ·exact z4v h
 ·exact ⟨fun k=>by rw [h];exact k,fun _ o h=>by cases h⟩
theorem zcr {F:FS} {e:Ev} {now:Int} (h:e.kind≠1):Kf F (ok (z0T (putF F e) now)):=zfu (z2g h)
theorem z9S {F G:FS} {k now c:Int} {data:List UInt8} (h:G.list=F.list) (hk:k≠1):Kf F ((z0J G k data now).1,(z0J G k data now).2,c):=by
 have hl:(z0J G k data now).1.list=F.list:=(z2g hk).trans h
 unfold z0J at *
 split
 ·exact z8b hl fun _=>KL.zero
 ·exact z8b hl fun _=>KL.zero
theorem zcq {kind:Int} (ref:Int) (data:List UInt8) (now:Int) (F:FS) (hk:kind≠1):Kf F (z2q kind ref data now F):=by
 unfold z2q
 split
 ·exact z1N _ _
 split
 ·exact z1N _ _
 ·exact zcr hk
theorem zfs (F:FS) (kind ref turn now:Int):Kf F (z1F F kind ref turn now):=by
 unfold z1F
 split
 ·refine z3Q ?_
  unfold z1r
  split
  ·exact z1N _ _
  ·exact z4v (z2g (by show (5:Int)≠1;decide))
 split
 ·refine z3Q ?_
  unfold z1x
  split
  ·exact z1N _ _
  ·exact zcq _ _ _ _ (by decide)
 split
 ·refine z3Q ?_
  unfold z29
  split
  ·exact z1N _ _
  split
  ·exact z1N _ _
  ·exact zcr (by show (13:Int)≠1;decide)
 ·exact z1N _ _
theorem z8a (id status:Int) (data:List UInt8) (now:Int) (F:FS):Kf F (z0h F id status data now):=by
 unfold z0h
 split
 ·exact z1N _ _
 refine z3Q ?_
 unfold z0x
 split
 ·exact z1N _ _
 split
 ·exact z1N _ _
 ·exact zcr (by show (18:Int)≠1;decide)
theorem zcu {d:Dec} (h:mayF d=true):KL d.list:=by
 unfold mayF at h
 simp only [Bool.and_eq_true] at h
 exact KL.of h.1.1.2
theorem z7u {id:Int} {asked:Bool}:∀ {l:List Dec} {is:IdS},badL id asked is l=false→∀ d∈l,KL d.list
 | [],_,_,d,hd=>by cases hd
 | d::r,is,h,x,hx=>by
  unfold badL at h
  simp only [Bool.or_eq_false_iff] at h
  rcases List.mem_cons.1 hx with rfl | hx
  ·have h1:=h.1
   unfold z2j at h1
   simp only [Bool.or_eq_false_iff,Bool.not_eq_false'] at h1
   exact zcu h1.1.1.1.1
  ·exact z7u h.2 x hx
theorem zgd {F:FS} {d:Dec} {now:Int} (h:KL F.list) (hd:KL d.list):KL (z0d F d now).1.list∧∀ o∈(z0d F d now).2,KL o.list:=by
 have hp:∀ e:Ev,e.kind≠1→KL (putF F e).list:=fun e he=>by rw [z2g he];exact h
 unfold z0d
 split
 ·exact ⟨hp _ (by show (7:Int)≠1;decide),fun o ho=>by rw [List.mem_singleton.1 ho];exact hd⟩
 split
 ·exact ⟨hp _ (by show (12:Int)≠1;decide),fun o ho=>by rw [List.mem_singleton.1 ho];exact KL.zero⟩
 split
 ·exact ⟨hp _ (by show (17:Int)≠1;decide),fun o ho=>by rw [List.mem_singleton.1 ho];exact hd⟩
 split
 ·exact ⟨hp _ (by show (14:Int)≠1;decide),fun o ho=>by cases ho⟩
 ·have hk:z2X d.kind≠1:=by
   unfold z2X
   repeat' split
   all_goals decide
  have:=z9S (F:=F) (G:=F) (k:=z2X d.kind) (now:=now) (c:=0) (data:=d.data) rfl hk
  exact ⟨this.f h,this.o h⟩
theorem zbr (now:Int):∀ (l:List Dec) (x:FS × List Out),KL x.1.list→(∀ o∈x.2,KL o.list)→(∀ d∈l,KL d.list)→KL (z0n now x l).1.list∧∀ o∈(z0n now x l).2,KL o.list
 | [],x,h,ho,_=>⟨h,ho⟩
 | d::r,x,h,ho,hd=>by
  obtain ⟨a,b⟩:=zgd (now:=now) h (hd d (List.mem_cons_self ..))
  refine zbr now r ((z0d x.1 d now).1,x.2++(z0d x.1 d now).2) a (fun o hx=>?_) (fun y hy=>hd y (List.mem_cons_of_mem _ hy))
  rcases List.mem_append.1 hx with hx | hx
  ·exact ho o hx
  ·exact b o hx
theorem zcp (ref turn:Int) (l:List Dec) (now:Int) (F:FS):Kf F (z2p F ref turn l now):=z3Q (by
 unfold z1p
 split
 ·exact z1N _ _
 have hf:∀ n c:Int,Kf F ((z0y F n now).1,(z0y F n now).2,c):=fun n c=>z4v (z2g (by show (6:Int)≠1;decide))
 split
 ·exact hf _ _
 rename_i hbad
 have hb:badL F.id F.asked (isOf F.op) l=false:=by
  unfold badF at hbad
  simp only [Bool.or_eq_true,decide_eq_true_eq,not_or,Bool.not_eq_true] at hbad
  exact hbad.2
 split
 ·exact hf _ _
 have hd:KL F.list→_:=fun h=>zbr now l (putF F ⟨4,now,F.begun,0,0,0,[]⟩,[]) (by rw [z2g (by show (4:Int)≠1;decide)];exact h) (fun o ho=>by cases ho) (z7u hb)
 generalize z0n now (putF F ⟨4,now,F.begun,0,0,0,[]⟩,[]) l=X at *
 split
 ·have hs:=z4v (F:=X.1) (G:=X.1) (now:=now) (c:=0) rfl
  refine ⟨fun h=>hs.f (hd h).1,fun h o ho=>?_⟩
  rcases List.mem_append.1 (show o∈X.2++(z07 X.1 now).2 from ho) with ho | ho
  ·exact (hd h).2 o ho
  ·exact hs.o (hd h).1 o ho
 ·exact ⟨fun h=>(hd h).1,fun h=>(hd h).2⟩)
theorem zgx (sh:Int→Int) (E:ES) (c:Call) (F:FS):Kf F (askE sh E c F):=by
 unfold askE
 repeat' split
 ·exact z3Q (zcr (by show (15:Int)≠1;decide))
 ·refine z3Q ?_
  unfold z21
  split
  ·exact z1N _ _
  ·exact zcr (by show (16:Int)≠1;decide)
 ·exact z3Q (z9S rfl (by decide))
 ·exact zcp _ _ _ _ _
 ·exact z3Q (zcq _ _ _ _ (by split<;>decide))
theorem zft (d:Bool) (t:Task) (now:Int) (F:FS):Kf F (z2s d t now F):=by
 cases d
 ·refine z3Q ?_
  unfold z2H
  split
  ·exact z1N _ _
  split
  ·exact z1N _ _
  ·exact z8b (z2g (by show (8:Int)≠1;decide)) fun _=>KL.zero
 ·refine z3Q ?_
  unfold z0Q
  split
  ·exact z1N _ _
  ·exact z8b (z2g (by show (3:Int)≠1;decide)) fun _=>KL.zero
theorem zfK {α:Type} {m:List (Int × α)} {k:Int} {v:α} (h:∀ x∈m,KL x.1) (hk:KL k):∀ x∈up m k v,KL x.1:=fun x hx=>by
 rcases z1K hx with rfl | hx
 ·exact hk
 ·exact h x hx
theorem zcl {E E':ES} {id n:Int} {o:Out} (h:out0 E id n o=some E') (hE:KE E) (ho:KL o.list):KE E':=by
 unfold out0 z38 at h
 split at h
 ·obtain ⟨m,hm,rfl⟩:=Option.map_eq_some_iff.1 h
  split at hm
  ·cases hm
  ·injection hm with hm
   subst hm
   exact ⟨zfK hE.d ho,hE.a,hE.r⟩
 split at h
 ·obtain ⟨m,hm,rfl⟩:=Option.map_eq_some_iff.1 h
  split at hm
  ·cases hm
  ·injection hm with hm
   subst hm
   exact ⟨hE.d,zfK hE.a ho,hE.r⟩
 ·injection h with h
  subst h
  exact ⟨hE.d,hE.a,hE.r⟩
theorem z71 {id n:Int}:∀ {l:List Out} {E E':ES},z3h E id n l=some E'→KE E→(∀ o∈l,KL o.list)→KE E'
 | [],E,E',h,hE,_=>by injection h with h;subst h;exact hE
 | o::r,E,E',h,hE,ho=>by
  obtain ⟨E1,h1,h2⟩:=Option.bind_eq_some_iff.1 h
  exact z71 h2 (zcl h1 hE (ho o (List.mem_cons_self ..))) fun x hx=>ho x (List.mem_cons_of_mem _ hx)
theorem z9R {E:ES} {id:Int} {r:RunS} (h:KE E) (hr:KL r.f.list):KE { E with runs:=up E.runs id r }:=⟨h.d,h.a,fun x hx=>by
 rcases z1K hx with rfl | hx
 ·exact hr
 ·exact h.r x hx⟩
theorem KE.get {E:ES} (h:KE E) {id:Int} {r:RunS} (hr:lk E.runs id=some r):KL r.f.list:=h.r _ (z0K hr)
theorem zes {id run list n now:Int} {data:List UInt8} {F:FS} {os:List Out} (h:newF id run list n data now=some (F,os)):KL F.list∧∀ o∈os,KL o.list:=by
 unfold newF at h
 split at h
 ·rename_i hb
  simp only [Bool.and_eq_true] at hb
  have hl:KL list:=KL.of hb.1.1.2
  injection h with h
  have hs:=z4v (F:=putF (f0 id run) ⟨1,now,0,0,list,n,data⟩) (G:=putF (f0 id run) ⟨1,now,0,0,list,n,data⟩) (now:=now) (c:=0) rfl
  rw [h] at hs
  exact ⟨hs.f hl,hs.o hl⟩
 ·cases h
theorem z70 {E E':ES} {id list n pf pr now k:Int} {data:List UInt8} (h:z0U E id list n data pf pr now=some (E',k)) (hE:KE E):KE E':=by
 unfold z0U at h
 simp only at h
 split at h
 ·cases h
 ·rename_i f os hn
  obtain ⟨E1,h1,h2⟩:=Option.map_eq_some_iff.1 h
  injection h2 with h2 _
  subst h2
  exact z71 h1 (z9R hE (zes hn).1) (zes hn).2
theorem zck {E E':ES} {id now child status:Int} {data:List UInt8} (h:z3j E id now child status data=some E') (hE:KE E):KE E':=by
 unfold z3j at h
 split at h
 ·injection h with h;subst h;exact hE
 ·rename_i r hr
  simp only at h
  have g:=z8a child status data now r.f
  split at h
  ·exact z71 h (z9R hE (g.f (hE.get hr))) (g.o (hE.get hr))
  split at h
  ·cases h
  ·injection h with h;subst h;exact hE
theorem zdO {E E':ES} {id n now:Int} {o:Out} (h:z2P E id n now o=some E') (hE:KE E):KE E':=by
 unfold z2P at h
 split at h
 ·exact zck h hE
 ·obtain ⟨⟨E1,k⟩,h1,rfl⟩:=Option.map_eq_some_iff.1 h
  exact z70 h1 hE
theorem zgv {E E':ES} {id n now:Int} {o:Out} (h:outE E id n now o=some E') (hE:KE E) (ho:KL o.list):KE E':=by
 unfold outE at h
 split at h
 ·exact zcl h hE ho
 split at h
 ·exact zdO h hE
 have d:KE { E with due:=z20 E.due id n }:=⟨hE.d,hE.a,hE.r⟩
 simp only at h
 split at h
 ·cases h
 ·split at h
  ·split at h
   ·cases h
   ·obtain ⟨⟨E1,k⟩,h1,rfl⟩:=Option.map_eq_some_iff.1 h
    exact z70 h1 d
  ·split at h
   ·injection h with h;subst h;exact d
   ·split at h
    ·injection h with h;subst h;exact d
    ·exact zck h d
theorem z8U {id n now:Int}:∀ {l:List Out} {E E':ES},z2F E id n now l=some E'→KE E→(∀ o∈l,KL o.list)→KE E'
 | [],E,E',h,hE,_=>by injection h with h;subst h;exact hE
 | o::r,E,E',h,hE,ho=>by
  obtain ⟨E1,h1,h2⟩:=Option.bind_eq_some_iff.1 h
  exact z8U h2 (zgv h1 hE (ho o (List.mem_cons_self ..))) fun x hx=>ho x (List.mem_cons_of_mem _ hx)
theorem z88 {E E':ES} {id e:Int} {act:FS→FR} (g:∀ F,Kf F (act F)) (h:z0k E id act=(e,some E')) (hE:KE E):KE E':=by
 unfold z0k at h
 split at h
 ·cases h
 ·rename_i r hr
  simp only at h
  split at h
  ·cases h
  ·injection h with _ h
   exact z8U h (z9R hE ((g r.f).f (hE.get hr))) ((g r.f).o (hE.get hr))
theorem zcL {m:Rows} {list:Int} (h:∀ x∈m,KL x.1):∀ x∈popR m list,KL x.1:=by
 unfold popR
 split
 ·exact h
 ·rename_i t r e
  unfold setR
  split
  ·exact fun x hx=>h x ((z2Q _ _).subset hx)
  ·have hk:KL list:=by
    unfold rowOf at e
    cases hl:lk m list with
    | none=>rw [hl] at e;cases e
    | some v=>exact h _ (z0K hl)
   exact zfK h hk
theorem zer {E:ES} {d:Bool} {list:Int} (hE:KE E):KE (popE E d list):=by
 unfold popE z3A z2L
 cases d
 ·exact ⟨hE.d,zcL hE.a,hE.r⟩
 ·exact ⟨zcL hE.d,hE.a,hE.r⟩
theorem zfq {E E':ES} {d:Bool} {t:Task} {a:Ans} (h:z2b E d t=some (a,E')) (hE:KE E):KE E':=by
 unfold z2b at h
 split at h
 ·cases h
 ·split at h
  ·rename_i e E1 hc
   split at h
   ·injection h with h
    injection h with _ h
    subst h
    exact z88 (zft _ _ _) hc hE
   ·cases h
  ·cases h
theorem z9Q {d:Bool} {list:Int}:∀ (l:List Task) (E:ES),KE E→KE (z1v d list E l).2
 | [],_,hE=>hE
 | t::r,E,hE=>by
  unfold z1v
  split
  ·split
   ·exact hE
   ·rename_i a E' h
    exact zer (zfq h hE)
  ·exact z9Q r _ (zer hE)
theorem zfo (sh:Int→Int) {E:ES} (c:Call) (hE:KE E):KE (z13 sh E c).2:=by
 unfold z13
 split
 ·exact hE
 ·split
  ·rename_i a E' h
   unfold doE at h
   split at h
   ·unfold z2n at h
    split at h
    ·injection h with _ h;injection h with h;subst h;exact hE
    ·split at h
     ·cases h
     ·rename_i E1 n hb
      injection h with _ h;injection h with h;subst h
      exact z70 hb hE
   split at h
   ·injection h with _ h;injection h with h;subst h;exact z9Q _ _ hE
   split at h
   ·injection h with _ h;injection h with h;subst h;exact hE
   split at h
   ·injection h with _ h;injection h with h;subst h;exact hE
   split at h
   ·injection h with _ h;injection h with h;subst h;exact hE
   split at h
   ·injection h with _ h;injection h with h;subst h;exact hE
   ·injection h with h1 h2
    exact z88 (e:=(z0k E (z16 c) (askE sh E c)).1) (zgx sh E c) (Prod.ext rfl h2) hE
  ·exact hE
theorem zfp {E E':ES} {i:It} (h:z1M E i=some E') (hE:KE E):KE E':=by
 unfold z1M at h
 split at h
 ·injection h with h;subst h;exact hE
 ·rename_i r hr
  split at h
  ·injection h with h;subst h;exact hE
  ·simp only at h
   have g:=zfs r.f i.2.2.2.2.2 i.2.2.2.1 i.2.2.2.2.1 i.1
   split at h
   ·exact z8U h (z9R hE (g.f (hE.get hr))) (g.o (hE.get hr))
   split at h
   ·cases h
   ·injection h with h;subst h;exact hE
theorem z8V (end_:Int):∀ (n:Nat) (E:ES),KE E→KE (z1t end_ n E)
 | 0,_,hE=>hE
 | n+1,E,hE=>by
  unfold z1t
  split
  ·exact hE
  ·rename_i i r hd
   split
   ·exact hE
   ·have a:KE { E with due:=r }:=⟨hE.d,hE.a,hE.r⟩
    split
    ·rename_i E1 h
     exact z8V end_ n E1 (zfp h a)
    ·exact z8V end_ n _ ⟨hE.d,hE.a,hE.r⟩
theorem zdP {E:ES} (n:Int) (hE:KE E):KE (z0S E n).2:=by
 unfold z0S
 split
 ·exact hE
 split
 ·exact hE
 ·have h:=z8V (E.now+n) E.due.length E hE
  exact ⟨h.d,h.a,h.r⟩
theorem zhp (s g:Int):KE (e0 s g):=⟨fun x h=>(by cases h),fun x h=>(by cases h),fun x h=>(by cases h)⟩
structure HS where
 n:Int
 at_:Int
 closed:Int
 kinds:List (Int × Int)
 ids:List (Int × Int)
 task:Int
 begun:Bool
 wof:List (Int × Int)
 wfr:List (Int × Int)
def h00:HS:=⟨0,0,0,[],[],0,false,[],[]⟩
def lz (l:List (Int × Int)) (k:Int):Int:=(lk l k).getD 0
def addH (H:HS) (e:Ev):HS :=
 if e.kind=2∨e.kind=3 then { H with n:=H.n+1,at_:=e.tick,task:=H.n+1,begun:=e.kind==3 } else
 if e.kind=4∨e.kind=5∨e.kind=6 then { H with n:=H.n+1,at_:=e.tick,task:=0,begun:=false } else
 if e.kind=7∨e.kind=12∨e.kind=17 then { H with n:=H.n+1,at_:=e.tick,kinds:=up H.kinds (H.n+1) e.kind,ids:=up H.ids (H.n+1) e.id } else
 if e.kind=8 then { H with n:=H.n+1,at_:=e.tick,wof:=up H.wof (H.n+1) e.ref,wfr:=up H.wfr e.ref (H.n+1) } else
 if e.kind=9∨e.kind=10∨e.kind=11 then { H with n:=H.n+1,at_:=e.tick,wof:=rm H.wof e.ref,wfr:=rm H.wfr (lz H.wof e.ref),kinds:=rm H.kinds (lz H.wof e.ref),ids:=rm H.ids (lz H.wof e.ref) } else
 if e.kind=13∨e.kind=14∨e.kind=18 then { H with n:=H.n+1,at_:=e.tick,kinds:=rm H.kinds e.ref,ids:=rm H.ids e.ref } else
 if 19≤e.kind then { H with n:=H.n+1,at_:=e.tick,closed:=e.kind } else
 { H with n:=H.n+1,at_:=e.tick }
def RefP (H:HS) (e:Ev):Prop :=
 if e.kind=3 then H.task≠0∧H.begun=false∧e.ref=H.task else
 if e.kind=4∨e.kind=5∨e.kind=6 then H.task≠0∧H.begun=true∧e.ref=H.task else
 if e.kind=8 then lk H.kinds e.ref=some 7∧lk H.wfr e.ref=none else
 if e.kind=9∨e.kind=10∨e.kind=11 then lz H.wof e.ref≠0 else
 if e.kind=13∨e.kind=14 then lk H.kinds e.ref=some 12 else
 if e.kind=18 then lk H.kinds e.ref=some 17 else e.ref=0
structure FitP (H:HS) (e:Ev):Prop where
 k:1≤e.kind∧e.kind≤23
 tick:0≤e.tick∧e.tick≤1099511627776
 ref:0≤e.ref∧e.ref≤1099511627776
 id:0≤e.id∧e.id≤1099511627776
 list:0≤e.list∧e.list≤1099511627776
 n:0≤e.n∧e.n≤1099511627776
 data:e.data.length≤4096
 at_:H.at_≤e.tick
 first:H.n=0↔e.kind=1
 cl:H.closed=0
 rf:RefP H e
 t2:e.kind=2→H.task=0
 us:e.kind=7∨e.kind=12∨e.kind=17→∀ x∈H.kinds,x.2=e.kind→lz H.ids x.1≠e.id
def ChkP:HS→List Ev→Prop
 | _,[]=>True
 | H,e::r=>FitP H e∧ChkP (addH H e) r
abbrev fin (l:List Ev):HS:=l.foldl addH h00
structure Rl (F:FS) (H:HS):Prop where
 n:H.n=F.l.length
 at_:H.at_=match F.l.getLast? with | none=>0 | some e=>e.tick
 cl:H.closed=0
 t0:F.task=0→H.task=0
 t1:F.task=1→H.task=F.place∧H.begun=false∧1≤H.task
 t2:F.task=2→H.task=F.begun∧H.begun=true∧1≤H.task
 tn:0≤H.task∧H.task≤H.n
 ki:H.kinds=mp (·.kind) F.op
 id:H.ids=mp (·.id) F.op
 w7:∀ x∈F.op,x.2.works≠0→x.2.kind=7
 fr:∀ k,lk H.wfr k=(lk F.op k).bind fun o=>if o.works=0 then none else some o.works
 wf:∀ j k,lk H.wof j=some k↔∃ o,lk F.op k=some o∧o.works=j∧j≠0
 nf:(H.wfr.map (·.1)).Nodup
 no:(H.wof.map (·.1)).Nodup
 li:0≤F.list∧F.list≤1048576
structure Kx (m:Nat) (now:Int) (F:FS):Prop where
 i:FI F
 ne:F.l≠[]
 len:F.l.length≤m
 c:ChkP h00 F.l
 r:Rl F (fin F.l)
 t:0≤now∧now≤1099511627776
 le:(fin F.l).at_≤now
def Ck (F:FS):Prop:=ChkP h00 F.l∧(z0B F.l=1→Rl F (fin F.l))
def z4X (now:Int) (act:FS→FR):Prop:=∀ F,Kx 4096 now F→Ck (act F).1
def Gk (E E':ES):Prop:=EOk E→(∀ x∈E.runs,Ck x.2.f)→∀ x∈E'.runs,Ck x.2.f
def EC (E:ES):Prop:=∀ x∈E.runs,Ck x.2.f
end Go.Proofs.YtniknicnnaiilaaGreat
end
section
namespace Go.Proofs.YtniknicnnaiilaaGreat
set_option maxRecDepth 100000
open Go.RowKit Go.Ext Go.BigFrame Go.Maps Go.MapKept
attribute [local go_sem] Ext.cell Ext.frozen Ext.lt Ext.le s1 s2 s3 s4 s5 s6 t1 t2 t3 t4 t5 t6
attribute [local go_sem ↓] Go.wp_at_zero Go.wp_at_succ
def z60 (t:Tok):Prop:=I64 t.flow∧I64 t.run∧I64 t.event∧I64 t.turn
def tv (t:Tok):Value:=.agg #[.int .i64 t.flow,.int .i64 t.run,.int .i64 t.event,.int .i64 t.turn]
def MT (w:World) (b n:Nat) (S:(Tok→Bool)):Prop :=
 ∃ D:DataW Empty,w.ownsMap Tryz.prog 28 (plainElem Tryz.prog 4) b n D∧∀ x l,keyOf Tryz.prog 28 (tv x)=some l→D.atKey l (.lit (.bool false))=.lit (.bool (S x))
section
variable {w w':World} {b n:Nat} {S:(Tok→Bool)}
end
end Go.Proofs.YtniknicnnaiilaaGreat
end
section
namespace Go.Proofs.YtniknicnnaiilaaGreat
set_option maxRecDepth 100000
open Go.RowKit Go.Ext Go.BigFrame Go.Maps Go.MapKept
attribute [local go_sem] Ext.cell Ext.frozen Ext.lt Ext.le s1 s2 s3 s4 s5 s6 t1 t2 t3 t4 t5 t6
attribute [local go_sem ↓] Go.wp_at_zero Go.wp_at_succ
theorem z2x (E:ES) (n:Int):(EOk E→EOk (z0S E n).2)∧(z0S E n).2.due.length≤E.due.length∧(z0S E n).2.groups=E.groups∧Gro E (z0S E n).2:=by
 unfold z0S
 split
 ·exact ⟨id,Nat.le_refl _,rfl,Gro.refl _⟩
 split
 ·exact ⟨id,Nat.le_refl _,rfl,Gro.refl _⟩
 rename_i h1 h2
 have hx:=z76 (E.now+n) E.due.length E
 have hg:=z6X (E.now+n) E.due.length E
 refine ⟨fun e=>?_,by have:=hx.due;simpa using this,hx.groups,hg.trans (.same rfl) hx.ok⟩
 obtain ⟨a,_,c,d,e',f,g⟩:=hx.ok e
 have hn:=e.now
 exact ⟨a,by simp only;omega,c,d,e',f,g⟩
def hisC (x:Int):Call:=⟨6,x,0,0,tok0,[],[]⟩
def hisR (E:ES) (x:Int):Int × List Ev :=
 if z1Q sh0 E (hisC x)≠0 then (0,[]) else
 match lk E.runs x with
 | none=>(0,[])
 | some r=>(r.f.run,r.f.l)
def Tld (rf:Int→Int) (wf:Int→List Ev) (E:ES):Prop:=∀ x,rf x<(hisR E x).1∨(rf x=(hisR E x).1∧wf x <+: (hisR E x).2)
theorem zbG:∀ (n:Nat) (l:List Nat),l.Nodup→(∀ x∈l,x<n)→l.length≤n
 | 0,l,_,h=>by
  cases l with
  | nil=>simp
  | cons x r=>exact absurd (h x (List.mem_cons_self ..)) (Nat.not_lt_zero _)
 | n+1,l,hd,h=>by
  have:=zbG n (l.erase n) (hd.erase n) (fun x hx=>by
   have h1:=h x (List.mem_of_mem_erase hx)
   have h2:x≠n:=fun e=>by subst e;exact (List.Nodup.not_mem_erase hd) hx
   omega)
  have:=List.le_length_erase (a:=n) (l:=l)
  omega
theorem z7e {E:ES} (h:EOk E):E.runs.length≤1048577:=by
 have h2:∀ x∈E.runs,0≤x.1∧x.1≤1048576:=fun x hx=>by
  obtain ⟨h1,h3⟩:=h.run x hx
  have:=h1.idn
  omega
 have:=zbG 1048577 (E.runs.map fun x=>x.1.toNat) (by
  have hn:=List.pairwise_map.1 h.rn
  refine List.pairwise_map.2 (hn.imp_of_mem fun {a b} ha hb hne e=>hne ?_)
  have h1:=h2 a ha
  have h3:=h2 b hb
  omega) (fun x hx=>by
  obtain ⟨y,hy,rfl⟩:=List.mem_map.1 hx
  have:=h2 y hy
  omega)
 simpa using this
end Go.Proofs.YtniknicnnaiilaaGreat
end
section
namespace Go.Proofs.YtniknicnnaiilaaGreat
set_option maxRecDepth 100000
open Go.RowKit Go.Ext Go.BigFrame Go.Maps Go.MapKept
attribute [local go_sem] Ext.cell Ext.frozen Ext.lt Ext.le s1 s2 s3 s4 s5 s6 t1 t2 t3 t4 t5 t6
attribute [local go_sem ↓] Go.wp_at_zero Go.wp_at_succ
open Go.Proofs
def z5G:Go.Shelf.Ren:=⟨fun | 7=>58 | 10=>94 | n=>n,fun | 23=>76 | 26=>3 | 3=>109 | 28=>119 | 0=>0 | 27=>118 | 33=>148 | 4=>4 | n=>n,fun | n=>n⟩
theorem zco:Go.Proofs.SlLaysZI.n7 Tryz.prog z5G:={
 mixed:=by kernel_rfl
 f7:=⟨Tryz.f58.name,by decide,Tryz.func58.trans (congrArg some (by kernel_rfl))⟩
 f10:=⟨Tryz.f94.name,by decide,Tryz.func94.trans (congrArg some (by kernel_rfl))⟩
 t0:=Tryz.underlying0
 a0:=Tryz.isAgg0
 z0:=Tryz.sizeOf0
 v0:=Tryz.zeroValue0
 t4:=Tryz.underlying4
 a4:=Tryz.isAgg4
 z4:=Tryz.sizeOf4
 v4:=Tryz.zeroValue4
 t23:=Tryz.underlying76
 a23:=Tryz.isAgg76
 z23:=Tryz.sizeOf76
 v23:=Tryz.zeroValue76
 t26:=Tryz.underlying3
 a26:=Tryz.isAgg3
 z26:=Tryz.sizeOf3
 v26:=Tryz.zeroValue3
 t27:=Tryz.underlying118
 a27:=Tryz.isAgg118
 z27:=Tryz.sizeOf118
 v27:=Tryz.zeroValue118
 t28:=Tryz.underlying119
 a28:=Tryz.isAgg119
 z28:=Tryz.sizeOf119
 v28:=Tryz.zeroValue119
 t33:=Tryz.underlying148
 a33:=Tryz.isAgg148
 z33:=Tryz.sizeOf148
 v33:=Tryz.zeroValue148 }
def z5U:Go.Shelf.Ren:=⟨fun | 6=>57 | 8=>92 | 9=>93 | 11=>131 | 13=>133 | 12=>132 | 23=>176 | 24=>177 | 14=>167 | 15=>168 | 16=>169 | 17=>170 | 18=>171 | 19=>172 | 20=>173 | 21=>174 | 22=>175 | 25=>196 | 26=>197 | 27=>198 | 28=>199 | 29=>200 | 30=>193 | 31=>205 | n=>n,fun | 26=>3 | 28=>119 | 24=>56 | 0=>0 | 3=>3 | 37=>181 | 48=>229 | 50=>86 | 4=>4 | 40=>223 | 39=>222 | 45=>141 | 5=>5 | 9=>9 | 51=>240 | 55=>244 | 57=>250 | 58=>251 | 33=>148 | n=>n,fun | n=>n⟩
theorem z7j:Go.Proofs.SlLaysZI.n6 Tryz.prog z5U:={
 mixed:=by kernel_rfl
 f6:=⟨Tryz.f57.name,by decide,Tryz.func57.trans (congrArg some (by kernel_rfl))⟩
 f8:=⟨Tryz.f92.name,by decide,Tryz.func92.trans (congrArg some (by kernel_rfl))⟩
 f11:=⟨Tryz.f131.name,by decide,Tryz.func131.trans (congrArg some (by kernel_rfl))⟩
 t0:=Tryz.underlying0
 a0:=Tryz.isAgg0
 z0:=Tryz.sizeOf0
 v0:=Tryz.zeroValue0
 t24:=Tryz.underlying56
 a24:=Tryz.isAgg56
 z24:=Tryz.sizeOf56
 v24:=Tryz.zeroValue56
 t26:=Tryz.underlying3
 a26:=Tryz.isAgg3
 z26:=Tryz.sizeOf3
 v26:=Tryz.zeroValue3
 t28:=Tryz.underlying119
 a28:=Tryz.isAgg119
 z28:=Tryz.sizeOf119
 v28:=Tryz.zeroValue119
 i26:=by kernel_rfl }
def zcV:Go.Shelf.Ren:=⟨fun | 5=>93 | 8=>133 | 7=>132 | 19=>176 | 20=>177 | 10=>167 | 11=>168 | 12=>169 | 13=>170 | 14=>171 | 15=>172 | 16=>173 | 17=>174 | 18=>175 | 30=>196 | 31=>197 | 32=>198 | 33=>199 | 34=>200 | 35=>193 | 40=>205 | n=>n,fun | 23=>56 | 25=>3 | 3=>3 | 32=>181 | 22=>56 | 0=>0 | 44=>229 | 46=>86 | 4=>4 | 36=>223 | 35=>222 | 41=>141 | 5=>5 | 9=>9 | 53=>240 | 57=>244 | 63=>250 | 64=>251 | n=>n,fun | n=>n⟩
theorem zfF:Go.Proofs.SlLaysM.n5 Tryz.prog zcV:={
 mixed:=by kernel_rfl
 f5:=⟨Tryz.f93.name,by decide,Tryz.func93.trans (congrArg some (by kernel_rfl))⟩
 f7:=⟨Tryz.f132.name,by decide,Tryz.func132.trans (congrArg some (by kernel_rfl))⟩
 f8:=Tryz.func133.trans (congrArg some (by kernel_rfl))
 f10:=⟨Tryz.f167.name,by decide,Tryz.func167.trans (congrArg some (by kernel_rfl))⟩
 f11:=⟨Tryz.f168.name,by decide,Tryz.func168.trans (congrArg some (by kernel_rfl))⟩
 f12:=⟨Tryz.f169.name,by decide,Tryz.func169.trans (congrArg some (by kernel_rfl))⟩
 f13:=⟨Tryz.f170.name,by decide,Tryz.func170.trans (congrArg some (by kernel_rfl))⟩
 f14:=⟨Tryz.f171.name,by decide,Tryz.func171.trans (congrArg some (by kernel_rfl))⟩
 f15:=⟨Tryz.f172.name,by decide,Tryz.func172.trans (congrArg some (by kernel_rfl))⟩
 f16:=⟨Tryz.f173.name,by decide,Tryz.func173.trans (congrArg some (by kernel_rfl))⟩
 f17:=⟨Tryz.f174.name,by decide,Tryz.func174.trans (congrArg some (by kernel_rfl))⟩
 f18:=⟨Tryz.f175.name,by decide,Tryz.func175.trans (congrArg some (by kernel_rfl))⟩
 f19:=Tryz.func176.trans (congrArg some (by kernel_rfl))
 f20:=Tryz.func177.trans (congrArg some (by kernel_rfl))
 f30:=⟨Tryz.f196.name,by decide,Tryz.func196.trans (congrArg some (by kernel_rfl))⟩
 f31:=Tryz.func197.trans (congrArg some (by kernel_rfl))
 f32:=Tryz.func198.trans (congrArg some (by kernel_rfl))
 f33:=⟨Tryz.f199.name,by decide,Tryz.func199.trans (congrArg some (by kernel_rfl))⟩
 f34:=⟨Tryz.f200.name,by decide,Tryz.func200.trans (congrArg some (by kernel_rfl))⟩
 f35:=⟨Tryz.f193.name,by decide,Tryz.func193.trans (congrArg some (by kernel_rfl))⟩
 f40:=⟨Tryz.f205.name,by decide,Tryz.func205.trans (congrArg some (by kernel_rfl))⟩
 t0:=Tryz.underlying0
 a0:=Tryz.isAgg0
 z0:=Tryz.sizeOf0
 v0:=Tryz.zeroValue0
 t3:=Tryz.underlying3
 a3:=Tryz.isAgg3
 z3:=Tryz.sizeOf3
 v3:=Tryz.zeroValue3
 t4:=Tryz.underlying4
 a4:=Tryz.isAgg4
 z4:=Tryz.sizeOf4
 v4:=Tryz.zeroValue4
 t5:=Tryz.underlying5
 a5:=Tryz.isAgg5
 z5:=Tryz.sizeOf5
 v5:=Tryz.zeroValue5
 t9:=Tryz.underlying9
 a9:=Tryz.isAgg9
 z9:=Tryz.sizeOf9
 v9:=Tryz.zeroValue9
 t22:=Tryz.underlying56
 a22:=Tryz.isAgg56
 z22:=Tryz.sizeOf56
 v22:=Tryz.zeroValue56
 t23:=Tryz.underlying56
 a23:=Tryz.isAgg56
 z23:=Tryz.sizeOf56
 v23:=Tryz.zeroValue56
 t25:=Tryz.underlying3
 a25:=Tryz.isAgg3
 z25:=Tryz.sizeOf3
 v25:=Tryz.zeroValue3
 t32:=Tryz.underlying181
 a32:=Tryz.isAgg181
 z32:=Tryz.sizeOf181
 v32:=Tryz.zeroValue181
 t35:=Tryz.underlying222
 a35:=Tryz.isAgg222
 z35:=Tryz.sizeOf222
 v35:=Tryz.zeroValue222
 t36:=Tryz.underlying223
 a36:=Tryz.isAgg223
 z36:=Tryz.sizeOf223
 v36:=Tryz.zeroValue223
 t41:=Tryz.underlying141
 a41:=Tryz.isAgg141
 z41:=Tryz.sizeOf141
 v41:=Tryz.zeroValue141
 t44:=Tryz.underlying229
 a44:=Tryz.isAgg229
 z44:=Tryz.sizeOf229
 v44:=Tryz.zeroValue229
 t46:=Tryz.underlying86
 a46:=Tryz.isAgg86
 z46:=Tryz.sizeOf86
 v46:=Tryz.zeroValue86
 t53:=Tryz.underlying240
 a53:=Tryz.isAgg240
 z53:=Tryz.sizeOf240
 v53:=Tryz.zeroValue240
 t57:=Tryz.underlying244
 a57:=Tryz.isAgg244
 z57:=Tryz.sizeOf244
 v57:=Tryz.zeroValue244
 t63:=Tryz.underlying250
 a63:=Tryz.isAgg250
 z63:=Tryz.sizeOf250
 v63:=Tryz.zeroValue250
 t64:=Tryz.underlying251
 a64:=Tryz.isAgg251
 z64:=Tryz.sizeOf251
 v64:=Tryz.zeroValue251 }
section
open Go.Sort Go.Shelf
theorem zcW (m:Nat):AnyZI.SortsIn Tryz.prog z5U Fence.wide m :=
 ⟨fun blk off cap ss W hH hblk hsz=>callsIn_wide.2 (AnyM.slices_Sort_int zfF blk off cap ss W hH hblk hsz),fun p cap W=>callsIn_wide.2 (AnyM.slices_Sort_int_none zfF p cap W)⟩
theorem Rel.keys {α:Type} {R:α→Value→Prop}:∀ {m:List (Int × α)} {kv:List (Int × Value)},Rel R m kv→kv.map (·.1)=m.map (·.1)
 | [],[],_=>rfl
 | x::m,y::kv,h=>by
  rw [List.map_cons,List.map_cons,Rel.keys h.2.2,h.1]
 | [],_::_,h=>h.elim
 | _::_,[],h=>h.elim
def z4E:Value→Option (DataW Unit × List MemPlace):=fun _=>some (.lit (.bool true),[])
theorem zcx {w:World} {b:Nat} {kv:List (Int × Value)} (h:MI w b kv) (hk:∀ x∈kv,-9223372036854775808≤x.1∧x.1≤9223372036854775807) (hn:kv.length≤2000000):∃ D,w.ownsMap Tryz.prog 3 z4E b kv.length D∧Maps.size D=kv.length:=by
 obtain ⟨es,clock,h0,h1,h2⟩:=h
 have hl:es.size=kv.length:=by
  have:=congrArg List.length h1
  simpa [kvs] using this
 refine ⟨_,⟨es,clock,h0,⟨?_,h2,fun x hx=>?_⟩,Nat.le_of_eq hl,rfl⟩,?_⟩
 ·have:maxLen=2 ^ 63-1:=rfl
  omega
 ·have hm:(x.key,x.val)∈kvs kv:=h1▸List.mem_map.2 ⟨x,hx,rfl⟩
  obtain ⟨y,hy,e⟩:=List.mem_map.1 hm
  injection e with e1 e2
  have hb:=hk y hy
  have hkey:keyOf Tryz.prog 3 x.key=some (.int .i64 y.1):=by
   rw [← e1]
   have q1:IntKind.i64.min=-9223372036854775808:=by decide
   have q2:IntKind.i64.max=9223372036854775807:=by decide
   have hw:(Lit.int .i64 y.1).wf=true:=by
    simp only [Lit.wf,q1,q2,Bool.and_eq_true,decide_eq_true_eq]
    exact hb
   simp [keyOf,Tryz.underlying3,mapKey,hw]
  exact ⟨(.int .i64 y.1,.lit (.bool true)),by simp [WideElems.rd,hkey,z4E]⟩
 ·simp [Maps.size,length_sorted,hl]
end
end Go.Proofs.YtniknicnnaiilaaGreat
end
section
namespace Go.Proofs.YtniknicnnaiilaaGreat
set_option maxRecDepth 100000
open Go.RowKit Go.Ext Go.BigFrame Go.Maps Go.MapKept
attribute [local go_sem] Ext.cell Ext.frozen Ext.lt Ext.le s1 s2 s3 s4 s5 s6 t1 t2 t3 t4 t5 t6
attribute [local go_sem ↓] Go.wp_at_zero Go.wp_at_succ
open Go.Proofs
def z89:Go.Shelf.Ren:=⟨fun | 7=>166 | 10=>195 | n=>n,fun | 23=>133 | 26=>3 | 3=>198 | 28=>119 | 0=>0 | 27=>118 | 33=>148 | 4=>4 | n=>n,fun | n=>n⟩
theorem zfr:Go.Proofs.SlLaysZI.n7 Tryz.prog z89:={
 mixed:=by kernel_rfl
 f7:=⟨Tryz.f166.name,by decide,Tryz.func166.trans (congrArg some (by kernel_rfl))⟩
 f10:=⟨Tryz.f195.name,by decide,Tryz.func195.trans (congrArg some (by kernel_rfl))⟩
 t0:=Tryz.underlying0
 a0:=Tryz.isAgg0
 z0:=Tryz.sizeOf0
 v0:=Tryz.zeroValue0
 t4:=Tryz.underlying4
 a4:=Tryz.isAgg4
 z4:=Tryz.sizeOf4
 v4:=Tryz.zeroValue4
 t23:=Tryz.underlying133
 a23:=Tryz.isAgg133
 z23:=Tryz.sizeOf133
 v23:=Tryz.zeroValue133
 t26:=Tryz.underlying3
 a26:=Tryz.isAgg3
 z26:=Tryz.sizeOf3
 v26:=Tryz.zeroValue3
 t27:=Tryz.underlying118
 a27:=Tryz.isAgg118
 z27:=Tryz.sizeOf118
 v27:=Tryz.zeroValue118
 t28:=Tryz.underlying119
 a28:=Tryz.isAgg119
 z28:=Tryz.sizeOf119
 v28:=Tryz.zeroValue119
 t33:=Tryz.underlying148
 a33:=Tryz.isAgg148
 z33:=Tryz.sizeOf148
 v33:=Tryz.zeroValue148 }
section
open Go.Sort Go.Shelf
def z1j {α:Type} (m:List (Int × α)):List Int:=(m.map (·.1)).mergeSort fun x y=>decide (x≤y)
theorem zaM {a b:List Int} (h:a.Perm b):(a.mergeSort fun x y=>decide (x≤y))=b.mergeSort fun x y=>decide (x≤y):=by
 have tr:∀ (a b c:Int),decide (a≤b)=true→decide (b≤c)=true→decide (a≤c)=true:=by intro a b c;simp only [decide_eq_true_eq];omega
 have tt:∀ (a b:Int),(decide (a≤b) || decide (b≤a))=true:=by intro a b;simp only [Bool.or_eq_true,decide_eq_true_eq];omega
 have h1:=List.pairwise_mergeSort tr tt a
 have h2:=List.pairwise_mergeSort tr tt b
 have hp:(a.mergeSort fun x y=>decide (x≤y)).Perm (b.mergeSort fun x y=>decide (x≤y)):=((List.mergeSort_perm a _).trans h).trans (List.mergeSort_perm b _).symm
 exact hp.eq_of_pairwise (fun x y _ _ h1 h2=>by simp only [decide_eq_true_eq] at h1 h2;omega) h1 h2
def kI:Value→Int | .int _ n=>n | _=>0
theorem zcw {w:World} {b:Nat} {kv:List (Int × Value)} (h:MI w b kv) (hk:∀ x∈kv,-9223372036854775808≤x.1∧x.1≤9223372036854775807) (hn:kv.length≤2000000):∃ D,w.ownsMap Tryz.prog 3 z4E b kv.length D∧Maps.size D=kv.length∧(intKeys D).Perm (kv.map (·.1)):=by
 obtain ⟨D,hD,hs⟩:=zcx h hk hn
 refine ⟨D,hD,hs,?_⟩
 obtain ⟨es,clock,h0,F,hsz,rfl⟩:=hD
 obtain ⟨es',clock',h0',h1,h2⟩:=h
 rw [h0] at h0'
 injection h0' with h0'
 injection h0' with e1 e2
 subst e1
 have hp:=(Go.WideShapes.sorted_perm (es.toList.map (WideElems.rg Tryz.prog 3 z4E))).map (fun p=>Go.intOf p.1)
 refine hp.trans (List.Perm.of_eq ?_)
 have he:kv.map (·.1)=(es.toList.map fun e=>(e.key,e.val)).map fun p=>kI p.1:=by
  rw [h1]
  simp [kvs,kI]
 rw [he,List.map_map,List.map_map]
 refine List.map_congr_left fun x hx=>?_
 have hm:(x.key,x.val)∈kvs kv:=h1▸List.mem_map.2 ⟨x,hx,rfl⟩
 obtain ⟨y,hy,e⟩:=List.mem_map.1 hm
 injection e with e1 e2
 have hb:=hk y hy
 have hkey:keyOf Tryz.prog 3 x.key=some (.int .i64 y.1):=by
  rw [← e1]
  have q1:IntKind.i64.min=-9223372036854775808:=by decide
  have q2:IntKind.i64.max=9223372036854775807:=by decide
  have hw:(Lit.int .i64 y.1).wf=true:=by
   simp only [Lit.wf,q1,q2,Bool.and_eq_true,decide_eq_true_eq]
   exact hb
  simp [keyOf,Tryz.underlying3,mapKey,hw]
 have hr:WideElems.rd Tryz.prog 3 z4E x=some (.int .i64 y.1,.lit (.bool true)):=by simp [WideElems.rd,hkey,z4E]
 simp only [Function.comp]
 rw [WideElems.rg_of hr,← e1]
 rfl
def zeG (L:List Int) (w:World) (e:Ending) (w':World):Prop:=∃ A c,e=.returned (.slice A L.length c)∧Gr w w'∧∀ M:Bl,(∀ b,M b→b<w.heap.size)→RdM w' M A (L.map (.int .i64))
theorem z6v {w w1 w2:World} {v:Value} {ss ks:List Int} (g:Gr w w1) (g2:Gr w1 w2) (hp:ss.Perm ks) (hrow:w2.ownsRow w1.heap.size 3 1 v ss.length ((ss.mergeSort fun x y=>decide (x≤y)).map (.int .i64))) :
  zeG (ks.mergeSort fun x y=>decide (x≤y)) w (.returned v) w2:=by
 have hlen:(ss.mergeSort fun x y=>decide (x≤y)).length=ss.length:=List.length_mergeSort ss
 rw [← hlen,zaM hp] at hrow
 obtain ⟨A,c,rfl,_,_⟩:=z1c hrow
 refine ⟨A,c,rfl,g.trans g2,fun M hM=>Rd.m (Rd.of_own hrow) ?_⟩
 rintro b off e _ hMb
 subst e
 rcases hrow.2 with ⟨e,_⟩ | ⟨g',cap,cur,e,hb,_⟩
 ·cases e
 ·injection e with e
  injection e with e
  injection e with e
  have:=hM b hMb
  have:=g.size
  omega
set_option maxHeartbeats 1000000 in
theorem zcy (k mb:Nat) (m:Rows) (M:Bl) (w:World) (h:z1e w M k mb m) (hm:∀ x∈m,KL x.1) (hn:m.length≤2000000):Calls Tryz.prog 128 #[.pointer (some ⟨k,0,none⟩)] w (zeG (z1j m) w):=by
 obtain ⟨kv,hmi,hrel⟩:=h.map
 have hkv:=hrel.keys
 have hkl:kv.length=m.length:=hrel.len
 obtain ⟨D0,hown,hsz,hperm⟩:=zcw hmi (fun x hx=>by
  have:x.1∈m.map (·.1):=hkv▸List.mem_map.2 ⟨x,hx,rfl⟩
  obtain ⟨y,hy,hyx⟩:=List.mem_map.1 this
  have h1:=hm y hy
  unfold KL at h1
  omega) (by omega)
 have hbl:=hown.lt
 have hmx:Maps.size D0≤maxLen:=by
  have:maxLen=2 ^ 63-1:=rfl
  omega
 have hseq:SeqGives Fence.wide 2 Tryz.prog 195 #[.pointer (some ⟨w.heap.size,0,none⟩)] encZ (fun ss=>ss.Perm (intKeys D0)) (Maps.size D0) (w.alloc (.cells #[.map (some mb)] 133)) :=
  AnyZI.keys_gives (ρ:=z89) { zfr with } Fence.wide _ trivial rfl (by omega) w.heap.size mb _ D0 _ (by simp) (by simp) (by
   obtain ⟨es,clock,hb,Ft,hs,hD⟩:=hown
   exact ⟨es,clock,(RowKit.Below.heap_alloc _ _ mb hbl).trans hb,Ft,hs,hD⟩)
 have cK:Calls Tryz.prog 166 #[.map (some mb)] w fun e w'=>e=.returned (.func (.func 195) #[] #[.pointer (some ⟨w.heap.size,0,none⟩)])∧w'=w.alloc (.cells #[.map (some mb)] 133):=(callsIn_wide (n:=5)).1 (AnyZI.keys_in zfr Fence.wide 5 trivial rfl (some mb) w)
 have cS:=AnyZI.sorted_in z7j Fence.wide 5 trivial trivial trivial trivial rfl (by omega) (zcW _) (enters_of Tryz.func93 (by kernel_rfl) rfl) 195 #[.pointer (some ⟨w.heap.size,0,none⟩)] trivial (enters_of Tryz.func195 (by kernel_rfl) rfl) _ _ hmx (by omega) _ hseq
 change CallsIn _ _ Tryz.prog 57 _ _ _ at cS
 have HK:=hid cK
 have HS:=hid (callsIn_wide.1 cS)
 have HP:=hid (hkv▸hperm:(intKeys D0).Perm (m.map (·.1)))
 have b1:=h.c1
 have hkb:=h.lt.1
 clear cK cS hseq hown hmi hrel hperm
 go_enter Tryz.func128,Tryz.ntmps128
 go_wp2_with (first
  | (go_at_call 166;refine HK.o.mono ?_;rintro en _ ⟨rfl,rfl⟩)
  | (go_at_call 57;refine HS.o.mono ?_;rintro en w2 ⟨v,ss,rfl,hS,hrow,hnil,hb⟩))
 go_ret
 exact z6v (v:=v) ((Gr.refl w).alloc (.cells #[.map (some mb)] 133)) hb (hS.trans HP.o) hrow
set_option maxHeartbeats 1000000 in
theorem zax (k:Nat) (E:ES) (M S:Bl) (w:World) (h:EngR w M S k E) (hE:EOk E) :
  Calls Tryz.prog 29 #[.pointer (some ⟨k,0,none⟩)] w (zeG (z1j E.runs) w):=by
 obtain ⟨kd,ka,md,ma,mr,kh,hv,P⟩:=h
 obtain ⟨kv,hmi,hrel⟩:=P.r
 have hkv:=hrel.keys
 have hkl:kv.length=E.runs.length:=hrel.len
 have hrl:=z7e hE
 obtain ⟨D0,hown,hsz,hperm⟩:=zcw hmi (fun x hx=>by
  have:x.1∈E.runs.map (·.1):=hkv▸List.mem_map.2 ⟨x,hx,rfl⟩
  obtain ⟨y,hy,hyx⟩:=List.mem_map.1 this
  obtain ⟨h1,h2⟩:=hE.run y hy
  have:=h1.idn
  omega) (by omega)
 have hbl:=hown.lt
 have hmx:Maps.size D0≤maxLen:=by
  have:maxLen=2 ^ 63-1:=rfl
  omega
 have hseq:SeqGives Fence.wide 2 Tryz.prog 94 #[.pointer (some ⟨w.heap.size,0,none⟩)] encZ (fun ss=>ss.Perm (intKeys D0)) (Maps.size D0) (w.alloc (.cells #[.map (some mr)] 76)) :=
  AnyZI.keys_gives (ρ:=z5G) { zco with } Fence.wide _ trivial rfl (by omega) w.heap.size mr _ D0 _ (by simp) (by simp) (by
   obtain ⟨es,clock,hb,Ft,hs,hD⟩:=hown
   exact ⟨es,clock,(RowKit.Below.heap_alloc _ _ mr hbl).trans hb,Ft,hs,hD⟩)
 have cK:Calls Tryz.prog 58 #[.map (some mr)] w fun e w'=>e=.returned (.func (.func 94) #[] #[.pointer (some ⟨w.heap.size,0,none⟩)])∧w'=w.alloc (.cells #[.map (some mr)] 76):=(callsIn_wide (n:=5)).1 (AnyZI.keys_in zco Fence.wide 5 trivial rfl (some mr) w)
 have cS:=AnyZI.sorted_in z7j Fence.wide 5 trivial trivial trivial trivial rfl (by omega) (zcW _) (enters_of Tryz.func93 (by kernel_rfl) rfl) 94 #[.pointer (some ⟨w.heap.size,0,none⟩)] trivial (enters_of Tryz.func94 (by kernel_rfl) rfl) _ _ hmx (by omega) _ hseq
 change CallsIn _ _ Tryz.prog 57 _ _ _ at cS
 have HK:=hid cK
 have HS:=hid (callsIn_wide.1 cS)
 have HP:=hid (hkv▸hperm:(intKeys D0).Perm (E.runs.map (·.1)))
 obtain ⟨b0,b1,b2,b3,b4,b5,b6⟩:=z0p P.cell
 have hkb:=block_lt P.cell
 clear cK cS hseq hown hmi hrel hperm P
 go_enter Tryz.func29,Tryz.ntmps29
 go_wp2_with (first
  | (go_at_call 58;refine HK.o.mono ?_;rintro en _ ⟨rfl,rfl⟩)
  | (go_at_call 57;refine HS.o.mono ?_;rintro en w2 ⟨v,ss,rfl,hS,hrow,hnil,hb⟩))
 go_ret
 exact z6v (v:=v) ((Gr.refl w).alloc (.cells #[.map (some mr)] 76)) hb (hS.trans HP.o) hrow
end
end Go.Proofs.YtniknicnnaiilaaGreat
end
