/- Lemmas of the engine. -/
import Derived.Test.YtniknicnnaiilaaGreatX04
import Derived.Test.YtniknicnnaiilaaGreatX05
import Derived.Test.YtniknicnnaiilaaGreatX11
section
namespace Go.Proofs.YtniknicnnaiilaaGreat
set_option maxRecDepth 100000
open Go.RowKit Go.Ext Go.BigFrame Go.Maps Go.MapKept
attribute [local go_sem] Ext.cell Ext.frozen Ext.lt Ext.le s1 s2 s3 s4 s5 s6 t1 t2 t3 t4 t5 t6
attribute [local go_sem ↓] Go.wp_at_zero Go.wp_at_succ
def cntD (end_:Int) (L:List It):Nat:=(L.filter fun x=>decide (x.1≤end_)).length
theorem zeS (end_:Int) (L:List It):cntD end_ L≤L.length:=List.length_filter_le _ _
theorem zaE (p:It→Bool) (x:It) (hx:p x=false) (L:List It):(ins L x).filter p=L.filter p:=by
 unfold ins
 rw [List.filter_append,List.filter_cons,hx]
 simp only [Bool.false_eq_true,if_false]
 rw [← List.filter_append,List.take_append_drop]
theorem z9u (end_:Int) (L:List It) (y:Int × Int × Int × Int × Int):cntD end_ (addD L (end_+1,y))=cntD end_ L:=by
 unfold addD cntD
 split
 ·rfl
 ·rw [zaE]
  simp
  omega
theorem z2G {end_:Int} {E:ES} (h:due E.due end_=false):∀ n,z1t end_ n E=E
 | 0=>rfl
 | n+1=>by
  unfold z1t
  split
  ·rfl
  ·rename_i i r e
   rw [e] at h
   simp [due,hd] at h
   rw [if_pos h]
theorem z3i {end_:Int} {E:ES} {i:It} {r:List It} (e:E.due=i::r) (h:i.1≤end_) (n:Nat) :
  z1t end_ (n+1) E=match z1M { E with due:=r } i with | some E'=>z1t end_ n E' | none=>z1t end_ n { E with due:=addD r (end_+1,i.2) }:=by
 rw [z1t]
 rw [e]
 simp only
 rw [if_neg (by omega)]
 rfl
theorem z4o {end_:Int} {i:It} {r:List It} (h:i.1≤end_):cntD end_ (i::r)=cntD end_ r+1:=by
 unfold cntD
 simp [h]
def z0S (E:ES) (n:Int):Int × ES :=
 if n<1∨1048576<n then (1,E) else if 1099511627776-n<E.now then (4,E) else (0,{ z1t (E.now+n) E.due.length E with now:=E.now+n })
def fw (F:FS):Nat:=if F.task=0 then 1 else if F.task=2 then 17 else 0
def fl (F:FS):Nat:=F.l.length+(if F.task=2 then 48 else 0)
def ow (o:Out):Nat:=if o.kind=1∨o.kind=6∨o.kind=8 then 1 else 0
def oq (o:Out):Nat:=if o.kind=1 then 0 else 2
def ows (l:List Out):Nat:=(l.map ow).sum
def oqs (l:List Out):Nat:=(l.map oq).sum
def tsk (m:Rows):Nat:=(m.map fun x=>x.2.length).sum
def fws (L:List (Int × RunS)):Nat:=(L.map fun x=>fw x.2.f).sum
def wt (E:ES):Nat:=tsk E.dec+fws E.runs
def dueN (L:List It) (x:Int):Nat:=(L.filter fun i=>i.2.1==x).length
def flO (o:Option RunS):Nat:=match o with | none=>0 | some r=>fl r.f
def fwO (o:Option RunS):Nat:=match o with | none=>0 | some r=>fw r.f
def ph (E:ES) (x:Int):Nat:=flO (lk E.runs x)+2 * dueN E.due x
theorem zcE:ows []=0:=rfl
theorem z95:oqs []=0:=rfl
theorem z79 (o:Out) (l:List Out):ows (o::l)=ow o+ows l:=by simp [ows]
theorem z77 (o:Out) (l:List Out):oqs (o::l)=oq o+oqs l:=by simp [oqs]
theorem zcD (l m:List Out):ows (l++m)=ows l+ows m:=by simp [ows]
theorem z94 (l m:List Out):oqs (l++m)=oqs l+oqs m:=by simp [oqs]
structure Fx (a b:Nat) (F:FS) (r:FR):Prop where
 w:fw r.1+ows r.2.1≤fw F+a
 l:fl r.1+oqs r.2.1≤fl F+b
 o:oqs r.2.1≤b
theorem Fx.of {a b:Nat} {F G:FS} {os:List Out} {e:Int} (h1:fw G+ows os≤fw F+a) (h2:fl G+oqs os≤fl F+b) (h3:oqs os≤b):Fx a b F (G,os,e):=⟨h1,h2,h3⟩
theorem Fx.mono {a b a' b':Nat} {F:FS} {r:FR} (h:Fx a b F r) (ha:a≤a') (hb:b≤b'):Fx a' b' F r:=⟨by have:=h.w;omega,by have:=h.l;omega,by have:=h.o;omega⟩
theorem zf8 (F:FS) (e:Int):Fx 0 0 F (F,[],e):=⟨by simp [zcE],by simp [z95],by simp [z95]⟩
theorem z1k (a b:Nat) (F:FS) (e:Int):Fx a b F (F,[],e):=(zf8 F e).mono (Nat.zero_le _) (Nat.zero_le _)
theorem z3O {a b:Nat} {F:FS} {data:List UInt8} {now:Int} {act:FS→FR} (h:Fx a b F (act F)):Fx a b F (tryF F data now act):=by
 unfold tryF
 repeat' split
 all_goals first | exact h | exact z1k _ _ _ _
theorem z5T (F:FS) (now:Int):fw (z07 F now).1=0∧fl (z07 F now).1=F.l.length+1∧ows (z07 F now).2=1∧oqs (z07 F now).2=0:=by
 have h:(z07 F now).1.task=1:=rfl
 have hl:(z07 F now).1.l.length=F.l.length+1:=by
  show (putF F _).l.length=_
  exact z0r F _
 refine ⟨?_,?_,rfl,rfl⟩
 ·unfold fw;rw [h];rfl
 ·unfold fl;rw [h,hl];rfl
theorem z3o {F:FS} {e:Ev} (h:e.kind=1∨(7≤e.kind∧e.kind≤18)):(putF F e).task=F.task:=by
 unfold putF
 repeat (refine iteInduction (motive:=fun G:FS=>G.task=F.task) (fun hk=>by first | rfl | omega) (fun _=>?_))
 omega
theorem pw_w {F:FS} {e:Ev} {now:Int} (h:e.kind=1∨(7≤e.kind∧e.kind≤18)):Fx 0 2 F (ok (z0T (putF F e) now)):=by
 have ht:=z3o (F:=F) h
 have hl:=z0r F e
 unfold z0T
 split
 ·rename_i h0
  have h0':F.task=0:=ht▸h0
  obtain ⟨a,b,c,d⟩:=z5T (putF F e) now
  have e1:fw F=1:=by unfold fw;rw [if_pos h0']
  have e2:fl F=F.l.length:=by unfold fl;rw [h0'];rfl
  exact Fx.of (by omega) (by omega) (by omega)
 ·have e1:fw (putF F e)=fw F:=by unfold fw;rw [ht]
  have e2:fl (putF F e)=fl F+1:=by unfold fl;rw [ht,hl];omega
  exact Fx.of (by show fw (putF F e)+0≤_;omega) (by show fl (putF F e)+0≤_;omega) (by show 0≤_;omega)
theorem zhl (F:FS):fw F≤17:=by
 unfold fw
 split
 ·omega
 ·split<;>omega
theorem zf6 (F:FS):F.l.length≤fl F:=by unfold fl;omega
theorem zbX (data:List UInt8) (now:Int) (F:FS):Fx 0 2 F (z3B F data now):=z3O (pw_w (.inr (show (7:Int)≤15∧(15:Int)≤18 by decide)))
theorem zbS (now:Int) (F:FS):Fx 0 2 F (z3q F now):=z3O (by
 unfold z21
 split
 ·exact z1k _ _ _ _
 ·exact pw_w (.inr (show (7:Int)≤16∧(16:Int)≤18 by decide)))
theorem zaR {F:FS} {e:Ev} (h:19≤e.kind):(putF F e).task=0:=by
 unfold putF
 repeat (refine iteInduction (motive:=fun G:FS=>G.task=0) (fun hk=>by first | rfl | omega) (fun _=>?_))
 rfl
theorem zbj {F:FS} {k now:Int} {data:List UInt8} (h:19≤k):fw (z0J F k data now).1=1∧fl (z0J F k data now).1=F.l.length+1∧ows (z0J F k data now).2≤1∧oqs (z0J F k data now).2=2∧(z0J F k data now).1.task=0:=by
 have ht:(z0J F k data now).1.task=0:=zaR h
 have hl:(z0J F k data now).1.l.length=F.l.length+1:=z0r F _
 refine ⟨?_,?_,?_,?_,ht⟩
 ·unfold fw;rw [ht];rfl
 ·unfold fl;rw [ht,hl];rfl
 ·unfold z0J
  split
  ·exact Nat.le_refl 1
  ·exact Nat.zero_le 1
 ·unfold z0J
  split<;>rfl
theorem z7V (data:List UInt8) (now:Int) (F:FS):Fx 1 3 F (z1a F data now):=z3O (by
 obtain ⟨a,b,c,d,-⟩:=zbj (F:=F) (k:=23) (now:=now) (data:=data) (by decide)
 have hk:ows (z0J F 23 data now).2=0:=rfl
 have:=zf6 F
 exact Fx.of (by omega) (by omega) (by omega))
theorem zay (ref turn now:Int) (F:FS):Fx 17 51 F (z1z F ref turn now):=z3O (by
 unfold z0Q
 split
 ·exact z1k _ _ _ _
 ·have hl:(putF F ⟨3,now,ref,0,0,0,[]⟩).l.length=F.l.length+1:=z0r F _
  have h1:=zhl (putF F ⟨3,now,ref,0,0,0,[]⟩)
  have h2:=zf6 F
  have h3:fl (putF F ⟨3,now,ref,0,0,0,[]⟩)≤F.l.length+1+48:=by unfold fl;rw [hl];split<;>omega
  exact Fx.of (by show fw (putF _ _)+0≤_;omega) (by show fl (putF _ _)+2≤_;omega) (by show 2≤_;omega))
theorem zdE (ref now:Int) (F:FS):Fx 0 3 F (z3F F ref now):=z3O (by
 unfold z2H
 split
 ·exact z1k _ _ _ _
 split
 ·exact z1k _ _ _ _
 ·rename_i a _
  have ht:(putF F ⟨8,now,ref,a.id,0,0,[]⟩).task=F.task:=z3o (.inr (show (7:Int)≤8∧(8:Int)≤18 by decide))
  have hl:(putF F ⟨8,now,ref,a.id,0,0,[]⟩).l.length=F.l.length+1:=z0r F _
  have e1:fw (putF F ⟨8,now,ref,a.id,0,0,[]⟩)=fw F:=by unfold fw;rw [ht]
  have e2:fl (putF F ⟨8,now,ref,a.id,0,0,[]⟩)=fl F+1:=by unfold fl;rw [ht,hl];omega
  exact Fx.of (by show fw (putF _ _)+0≤_;omega) (by show fl (putF _ _)+2≤_;omega) (by show 2≤_;omega))
theorem zbU {kind:Int} (ref:Int) (data:List UInt8) (now:Int) (F:FS) (hk:kind=9∨kind=10∨kind=11):Fx 0 2 F (z2q kind ref data now F):=by
 unfold z2q
 split
 ·exact z1k _ _ _ _
 split
 ·exact z1k _ _ _ _
 ·exact pw_w (.inr ⟨by dsimp only;omega,by dsimp only;omega⟩)
theorem zbY (ref:Int) (data:List UInt8) (good:Bool) (now:Int) (F:FS):Fx 0 2 F (z2N F ref data good now):=z3O (zbU _ _ _ _ (by cases good<;>simp))
theorem zbW (ref turn now:Int) (F:FS):Fx 0 2 F (z1r ref turn now F):=by
 unfold z1r
 split
 ·exact z1k _ _ _ _
 ·rename_i h
  simp only [not_or,Classical.not_not] at h
  have e1:fw F=17:=by unfold fw;rw [h.1];rfl
  have e2:fl F=F.l.length+48:=by unfold fl;rw [h.1];rfl
  have hl:(putF F ⟨5,now,F.begun,0,0,0,[]⟩).l.length=F.l.length+1:=z0r F _
  obtain ⟨a,b,c,d⟩:=z5T (putF F ⟨5,now,F.begun,0,0,0,[]⟩) now
  exact Fx.of (by omega) (by omega) (by omega)
theorem zbV (F:FS) (kind ref turn now:Int):Fx 0 2 F (z1F F kind ref turn now):=by
 unfold z1F
 split
 ·exact z3O (zbW _ _ _ _)
 split
 ·refine z3O ?_
  unfold z1x
  split
  ·exact z1k _ _ _ _
  ·exact zbU _ _ _ _ (.inr (.inr rfl))
 split
 ·refine z3O ?_
  unfold z29
  split
  ·exact z1k _ _ _ _
  split
  ·exact z1k _ _ _ _
  ·exact pw_w (.inr (show (7:Int)≤13∧(13:Int)≤18 by decide))
 ·exact z1k _ _ _ _
theorem z7U (id status:Int) (data:List UInt8) (now:Int) (F:FS):Fx 0 2 F (z0h F id status data now):=by
 unfold z0h
 split
 ·exact z1k _ _ _ _
 refine z3O ?_
 unfold z0x
 split
 ·exact z1k _ _ _ _
 split
 ·exact z1k _ _ _ _
 ·exact pw_w (.inr (show (7:Int)≤18∧(18:Int)≤18 by decide))
theorem zge {F:FS} {d:Dec} {now:Int} (h:F.task=0) (hk:1≤d.kind∧d.kind≤8):(z0d F d now).1.task=0∧(z0d F d now).1.l.length=F.l.length+1∧ows (z0d F d now).2≤1∧oqs (z0d F d now).2≤2:=by
 refine ⟨?_,(z3r F d now).1,?_,?_⟩
 ·unfold z0d
  split
  ·exact (z3o (.inr ⟨by dsimp only;omega,by dsimp only;omega⟩)).trans h
  split
  ·exact (z3o (.inr ⟨by dsimp only;omega,by dsimp only;omega⟩)).trans h
  split
  ·exact (z3o (.inr ⟨by dsimp only;omega,by dsimp only;omega⟩)).trans h
  split
  ·exact (z3o (.inr ⟨by dsimp only;omega,by dsimp only;omega⟩)).trans h
  ·refine (zbj ?_).2.2.2.2
   unfold z2X
   repeat' split
   all_goals omega
 ·unfold z0d z0J
  repeat' split
  all_goals first | exact Nat.le_refl 1 | exact Nat.zero_le 1
 ·unfold z0d z0J
  repeat' split
  all_goals first | exact Nat.le_refl 2 | exact Nat.zero_le 2
theorem z7t {id:Int} {asked:Bool}:∀ {l:List Dec} {is:IdS},badL id asked is l=false→∀ d∈l,1≤d.kind∧d.kind≤8
 | [],_,_,d,hd=>by cases hd
 | d::r,is,h,x,hx=>by
  unfold badL at h
  simp only [Bool.or_eq_false_iff] at h
  rcases List.mem_cons.1 hx with rfl | hx
  ·have h1:=h.1
   unfold z2j at h1
   simp only [Bool.or_eq_false_iff,Bool.not_eq_false'] at h1
   have:=z0L h1.1.1.1.1
   exact ⟨this.1,this.2.1⟩
  ·exact z7t h.2 x hx
theorem zbs (now:Int):∀ (l:List Dec) (x:FS × List Out),x.1.task=0→(∀ d∈l,1≤d.kind∧d.kind≤8) →
  (z0n now x l).1.task=0∧(z0n now x l).1.l.length=x.1.l.length+l.length∧ows (z0n now x l).2≤ows x.2+l.length∧oqs (z0n now x l).2≤oqs x.2+2 * l.length
 | [],x,h,_=>⟨h,rfl,by simp [z0n],by simp [z0n]⟩
 | d::r,x,h,hk=>by
  obtain ⟨a,b,c,e⟩:=zge (now:=now) h (hk d (List.mem_cons_self ..))
  obtain ⟨a',b',c',e'⟩:=zbs now r ((z0d x.1 d now).1,x.2++(z0d x.1 d now).2) a (fun y hy=>hk y (List.mem_cons_of_mem _ hy))
  simp only [zcD,z94] at c' e'
  refine ⟨a',?_,?_,?_⟩
  ·show (z0n now _ r).1.l.length=_
   rw [b']
   simp only [List.length_cons]
   omega
  ·show ows (z0n now _ r).2≤_
   simp only [List.length_cons]
   omega
  ·show oqs (z0n now _ r).2≤_
   simp only [List.length_cons]
   omega
theorem zbT (ref turn:Int) (l:List Dec) (now:Int) (F:FS):Fx 17 64 F (z2p F ref turn l now):=z3O (by
 unfold z1p
 split
 ·exact z1k _ _ _ _
 rename_i h0
 simp only [not_or,Classical.not_not] at h0
 have e1:fw F=17:=by unfold fw;rw [h0.1];rfl
 have e2:fl F=F.l.length+48:=by unfold fl;rw [h0.1];rfl
 have hf:∀ n c:Int,Fx 17 64 F ((z0y F n now).1,(z0y F n now).2,c):=fun n c=>by
  obtain ⟨a,b,c,d⟩:fw (z0y F n now).1=0∧fl (z0y F n now).1=(putF F ⟨6,now,F.begun,0,0,n,[]⟩).l.length+1∧ows (z0y F n now).2=1∧oqs (z0y F n now).2=0:=z5T _ _
  have hl:(putF F ⟨6,now,F.begun,0,0,n,[]⟩).l.length=F.l.length+1:=z0r F _
  exact Fx.of (by omega) (by omega) (by omega)
 split
 ·exact hf _ _
 rename_i hbad
 have hb:l.length≤32∧badL F.id F.asked (isOf F.op) l=false:=by
  unfold badF at hbad
  simp only [Bool.or_eq_true,decide_eq_true_eq,not_or,Bool.not_eq_true] at hbad
  exact ⟨by omega,hbad.2⟩
 split
 ·exact hf _ _
 obtain ⟨a,b,c,d⟩:=zbs now l (putF F ⟨4,now,F.begun,0,0,0,[]⟩,[]) rfl (z7t hb.2)
 have hl:(putF F ⟨4,now,F.begun,0,0,0,[]⟩).l.length=F.l.length+1:=z0r F _
 generalize z0n now (putF F ⟨4,now,F.begun,0,0,0,[]⟩,[]) l=X at *
 dsimp only at b c d
 simp only [zcE,z95] at c d
 split
 ·obtain ⟨a',b',c',d'⟩:=z5T X.1 now
  refine ⟨?_,?_,?_⟩
  ·show fw (z07 _ _).1+ows (X.2++(z07 _ _).2)≤_
   rw [zcD]
   omega
  ·show fl (z07 _ _).1+oqs (X.2++(z07 _ _).2)≤_
   rw [z94]
   omega
  ·show oqs (X.2++(z07 _ _).2)≤_
   rw [z94]
   omega
 ·have e3:fw X.1=1:=by unfold fw;rw [a];rfl
  have e4:fl X.1=X.1.l.length:=by unfold fl;rw [a];rfl
  exact Fx.of (by omega) (by omega) (by omega))
theorem zgl (sh:Int→Int) (E:ES) (c:Call) (F:FS):Fx 17 64 F (askE sh E c F):=by
 unfold askE
 repeat' split
 ·exact (zbX _ _ _).mono (by omega) (by omega)
 ·exact (zbS _ _).mono (by omega) (by omega)
 ·exact (z7V _ _ _).mono (by omega) (by omega)
 ·exact zbT _ _ _ _ _
 ·exact (zbY _ _ _ _ _).mono (by omega) (by omega)
theorem zf7 (d:Bool) (t:Task) (now:Int) (F:FS):Fx 17 64 F (z2s d t now F):=by
 cases d
 ·exact (zdE _ _ _).mono (by omega) (by omega)
 ·exact (zay _ _ _ _).mono (by omega) (by omega)
theorem zbR (L:List (Int × RunS)) (id:Int) (r:RunS):fws (up L id r)+fwO (lk L id)=fws L+fw r.f:=by
 induction L with
 | nil=>simp [up,lk,fws,fwO]
 | cons x L ih =>
  simp only [up,lk]
  split
  ·simp only [fws,List.map_cons,List.sum_cons,fwO]
   omega
  ·simp only [fws,List.map_cons,List.sum_cons] at ih ⊢
   omega
def lnO (o:Option (List Task)):Nat:=match o with | none=>0 | some l=>l.length
theorem zeC (m:Rows) (list:Int) (l:List Task):tsk (up m list l)+lnO (lk m list)=tsk m+l.length:=by
 induction m with
 | nil=>simp [up,lk,tsk,lnO]
 | cons x L ih =>
  simp only [up,lk]
  split
  ·simp only [tsk,List.map_cons,List.sum_cons,lnO]
   omega
  ·simp only [tsk,List.map_cons,List.sum_cons] at ih ⊢
   omega
theorem zgZ (m:Rows) (list:Int):tsk (rm m list)≤tsk m:=by
 induction m with
 | nil=>exact Nat.le_refl _
 | cons x L ih =>
  simp only [rm]
  split
  ·simp only [tsk,List.map_cons,List.sum_cons]
   omega
  ·simp only [tsk,List.map_cons,List.sum_cons] at ih ⊢
   omega
theorem z7c (m:Rows) (list:Int):(rowOf m list).length=lnO (lk m list):=by
 unfold rowOf lnO
 cases lk m list<;>rfl
theorem z99 (m:Rows) (list:Int):(rowOf m list).length≤tsk m:=by
 rw [z7c]
 induction m with
 | nil=>simp [lk,lnO]
 | cons x L ih =>
  simp only [lk]
  split
  ·simp only [tsk,List.map_cons,List.sum_cons,lnO]
   omega
  ·simp only [tsk,List.map_cons,List.sum_cons] at ih ⊢
   omega
theorem zcN {m m':Rows} {list:Int} {t:Task} (h:z38 m list t=some m'):tsk m'=tsk m+1:=by
 unfold z38 at h
 split at h
 ·cases h
 ·injection h with h
  subst h
  have a:=zeC m list (rowOf m list++[t])
  have b:=z7c m list
  simp only [List.length_append,List.length_cons,List.length_nil] at a
  omega
theorem zcM {m:Rows} (list:Int) (t:Task) (h:tsk m<1024):∃ m',z38 m list t=some m':=by
 have:=z99 m list
 unfold z38
 rw [if_neg (by omega)]
 exact ⟨_,rfl⟩
theorem zgN (m:Rows) (list:Int):tsk (popR m list)≤tsk m:=by
 have b:=z7c m list
 unfold popR
 split
 ·exact Nat.le_refl _
 ·rename_i t r e
  rw [e] at b
  simp only [List.length_cons] at b
  unfold setR
  split
  ·exact zgZ _ _
  ·have a:=zeC m list r
   omega
theorem zeU (L:List It) (x:It) (y:Int):dueN (ins L x) y=dueN L y+(if x.2.1=y then 1 else 0):=by
 have h:(L.filter fun i=>i.2.1==y).length=((L.take (pos L x)).filter fun i=>i.2.1==y).length+((L.drop (pos L x)).filter fun i=>i.2.1==y).length:=by
  rw [← List.length_append,← List.filter_append,List.take_append_drop]
 unfold dueN ins
 rw [h,List.filter_append,List.filter_cons,List.length_append]
 by_cases hx:x.2.1=y
 ·simp [hx]
  omega
 ·simp [hx]
theorem zbt (L:List It) (x:It) (y:Int):dueN (addD L x) y≤dueN L y+(if x.2.1=y then 1 else 0):=by
 unfold addD
 split
 ·omega
 ·exact Nat.le_of_eq (zeU L x y)
theorem zdu (L:List It) (f r y:Int):dueN (z20 L f r) y≤dueN L y:=by
 unfold dueN z20
 exact (List.filter_sublist.filter _).length_le
structure Wx (a b:Nat) (E E':ES):Prop where
 w:wt E'≤wt E+a
 p:∀ x,ph E' x≤ph E x+b
 t:tsk E'.act≤tsk E.act+b
theorem Wx.refl (a b:Nat) (E:ES):Wx a b E E:=⟨by omega,fun x=>by omega,by omega⟩
theorem Wx.mono {a b a' b':Nat} {E E':ES} (h:Wx a b E E') (ha:a≤a') (hb:b≤b'):Wx a' b' E E':=⟨by have:=h.w;omega,fun x=>by have:=h.p x;omega,by have:=h.t;omega⟩
theorem Wx.trans {a b c d:Nat} {E E' E'':ES} (h:Wx a b E E') (k:Wx c d E' E''):Wx (a+c) (b+d) E E'':=⟨by have:=h.w;have:=k.w;omega,fun x=>by have:=h.p x;have:=k.p x;omega,by have:=h.t;have:=k.t;omega⟩
theorem zda {E E':ES} {id n:Int} {o:Out} (h:out0 E id n o=some E'):Wx (ow o) (oq o) E E':=by
 unfold out0 at h
 split at h
 ·rename_i hk
  obtain ⟨m,hm,rfl⟩:=Option.map_eq_some_iff.1 h
  have:=zcN hm
  have hw:ow o=1:=by unfold ow;rw [if_pos (.inl hk)]
  exact ⟨by simp only [wt];omega,fun x=>by simp only [ph];omega,by simp only;omega⟩
 split at h
 ·rename_i h1 _
  obtain ⟨m,hm,rfl⟩:=Option.map_eq_some_iff.1 h
  have:=zcN hm
  have hq:oq o=2:=by unfold oq;rw [if_neg h1]
  exact ⟨by simp only [wt];omega,fun x=>by simp only [ph];omega,by simp only;omega⟩
 ·rename_i h1 _
  injection h with h
  subst h
  have hq:oq o=2:=by unfold oq;rw [if_neg h1]
  refine ⟨by simp only [wt];omega,fun x=>?_,by simp only;omega⟩
  have:=zbt E.due (o.tick,id,n,o.ref,o.turn,o.kind) x
  simp only [ph]
  split at this<;>omega
theorem z7q {id n:Int}:∀ {l:List Out} {E E':ES},z3h E id n l=some E'→Wx (ows l) (oqs l) E E'
 | [],E,E',h=>by injection h with h;subst h;exact Wx.refl _ _ _
 | o::r,E,E',h=>by
  obtain ⟨E1,h1,h2⟩:=Option.bind_eq_some_iff.1 h
  rw [z79,z77]
  exact (zda h1).trans (z7q h2)
theorem zdb {E E':ES} {id:Int} {r:RunS} {a b a' b':Nat} (h:Wx a b { E with runs:=up E.runs id r } E') (hw:fw r.f+a≤fwO (lk E.runs id)+a') (hl:fl r.f+b≤flO (lk E.runs id)+b') (hb:b≤b'):Wx a' b' E E':=by
 have h1:=h.w
 have h2:=zbR E.runs id r
 have h0:=h.t
 refine ⟨?_,fun x=>?_,by simp only at h0;omega⟩
 ·simp only [wt] at h1 ⊢
  omega
 ·have h3:=h.p x
  simp only [ph] at h3 ⊢
  by_cases hx:x=id
  ·subst hx
   rw [z0g] at h3
   have h4:flO (some r)=fl r.f:=rfl
   rw [h4] at h3
   omega
  ·rw [z0G _ _ hx] at h3
   omega
theorem zgA {id run list n now:Int} {data:List UInt8} {F:FS} {os:List Out} (h:newF id run list n data now=some (F,os)):fw F=0∧fl F=2∧ows os=1∧oqs os=0:=by
 unfold newF at h
 split at h
 ·injection h with h
  obtain ⟨a,b,c,d⟩:=z5T (putF (f0 id run) ⟨1,now,0,0,list,n,data⟩) now
  rw [h] at a b c d
  refine ⟨a,?_,c,d⟩
  rw [b,z0r]
  rfl
 ·cases h
theorem z7p {E E':ES} {id list n pf pr now k:Int} {data:List UInt8} (h:z0U E id list n data pf pr now=some (E',k)):Wx 1 2 E E':=by
 unfold z0U at h
 simp only at h
 split at h
 ·cases h
 ·rename_i f os hn
  obtain ⟨E1,h1,h2⟩:=Option.map_eq_some_iff.1 h
  injection h2 with h2 _
  subst h2
  obtain ⟨a,b,c,d⟩:=zgA hn
  have hx:=z7q h1
  rw [c,d] at hx
  exact zdb hx (by dsimp only;omega) (by dsimp only;omega) (by omega)
theorem zd9 {E E':ES} {id now child status:Int} {data:List UInt8} (h:z3j E id now child status data=some E'):Wx 0 2 E E':=by
 unfold z3j at h
 split at h
 ·injection h with h;subst h;exact Wx.refl _ _ _
 ·rename_i r hr
  simp only at h
  have g:=z7U child status data now r.f
  split at h
  ·refine zdb (z7q h) ?_ ?_ g.o
   ·rw [hr];exact g.w
   ·rw [hr];exact g.l
  split at h
  ·cases h
  ·injection h with h;subst h;exact Wx.refl _ _ _
theorem zel {E E':ES} {id n now:Int} {o:Out} (h:z2P E id n now o=some E'):Wx 1 2 E E':=by
 unfold z2P at h
 split at h
 ·exact (zd9 h).mono (by omega) (by omega)
 ·obtain ⟨⟨E1,k⟩,h1,rfl⟩:=Option.map_eq_some_iff.1 h
  exact z7p h1
theorem zh1 {E E':ES} {id n now:Int} {o:Out} (h:outE E id n now o=some E'):Wx (ow o) (oq o) E E':=by
 unfold outE at h
 split at h
 ·exact zda h
 rename_i hk
 split at h
 ·rename_i h6
  have e1:ow o=1:=by unfold ow;rw [if_pos (.inr (.inl h6))]
  have e2:oq o=2:=by unfold oq;rw [if_neg (by omega)]
  rw [e1,e2]
  exact zel h
 have e2:oq o=2:=by unfold oq;rw [if_neg (by omega)]
 have d:Wx 0 0 E { E with due:=z20 E.due id n }:=⟨by simp only [wt];omega,fun x=>by have:=zdu E.due id n x;simp only [ph];omega,by simp only;omega⟩
 simp only at h
 split at h
 ·cases h
 ·rename_i r hr
  split at h
  ·rename_i h8
   have e1:ow o=1:=by unfold ow;rw [if_pos (.inr (.inr h8))]
   rw [e1,e2]
   split at h
   ·cases h
   ·obtain ⟨⟨E1,k⟩,h1,rfl⟩:=Option.map_eq_some_iff.1 h
    exact (d.trans (z7p h1)).mono (by omega) (by omega)
  ·rw [e2]
   split at h
   ·injection h with h;subst h;exact d.mono (by omega) (by omega)
   ·split at h
    ·injection h with h;subst h;exact d.mono (by omega) (by omega)
    ·exact (d.trans (zd9 h)).mono (by omega) (by omega)
theorem z9m {id n now:Int}:∀ {l:List Out} {E E':ES},z2F E id n now l=some E'→Wx (ows l) (oqs l) E E'
 | [],E,E',h=>by injection h with h;subst h;exact Wx.refl _ _ _
 | o::r,E,E',h=>by
  obtain ⟨E1,h1,h2⟩:=Option.bind_eq_some_iff.1 h
  rw [z79,z77]
  exact (zh1 h1).trans (z9m h2)
theorem z8x {E E':ES} {id e:Int} {a b:Nat} {act:FS→FR} (g:∀ F,Fx a b F (act F)) (h:z0k E id act=(e,some E')):Wx a b E E':=by
 unfold z0k at h
 split at h
 ·cases h
 ·rename_i r hr
  simp only at h
  split at h
  ·cases h
  ·injection h with _ h
   refine zdb (z9m h) ?_ ?_ (g r.f).o
   ·rw [hr];exact (g r.f).w
   ·rw [hr];exact (g r.f).l
theorem zeD {E:ES} {d:Bool} {list:Int}:Wx 0 0 E (popE E d list):=by
 unfold popE z3A z2L
 cases d
 ·have:=zgN E.act list
  exact ⟨by simp [wt],fun x=>by simp [ph],by simpa using this⟩
 ·have:=zgN E.dec list
  exact ⟨by simp only [wt,if_true];omega,fun x=>by simp [ph],by simp⟩
theorem zfQ {E E':ES} {d:Bool} {t:Task} {a:Ans} (h:z2b E d t=some (a,E')):Wx 17 64 E E':=by
 unfold z2b at h
 split at h
 ·cases h
 ·split at h
  ·rename_i e E1 hc
   split at h
   ·injection h with h
    injection h with _ h
    subst h
    exact z8x (zf7 _ _ _) hc
   ·cases h
  ·cases h
theorem zac {d:Bool} {list:Int}:∀ (l:List Task) (E:ES),Wx 17 64 E (z1v d list E l).2
 | [],E=>Wx.refl _ _ _
 | t::r,E=>by
  unfold z1v
  split
  ·split
   ·exact Wx.refl _ _ _
   ·rename_i a E' h
    exact ((zfQ h).trans zeD).mono (by omega) (by omega)
  ·exact (zeD.trans (zac r _)).mono (by omega) (by omega)
theorem zhF {sh:Int→Int} {E E':ES} {c:Call} {a:Ans} (h:doE sh E c=(a,some E')):Wx 17 64 E E':=by
 unfold doE at h
 split at h
 ·unfold z2n at h
  split at h
  ·injection h with _ h;injection h with h;subst h;exact Wx.refl _ _ _
  ·split at h
   ·cases h
   ·rename_i E1 n hb
    injection h with _ h;injection h with h;subst h
    exact (z7p hb).mono (by omega) (by omega)
 split at h
 ·injection h with _ h;injection h with h;subst h;exact zac _ _
 split at h
 ·injection h with _ h;injection h with h;subst h;exact Wx.refl _ _ _
 split at h
 ·injection h with _ h;injection h with h;subst h;exact Wx.refl _ _ _
 split at h
 ·injection h with _ h;injection h with h;subst h;exact Wx.refl _ _ _
 split at h
 ·injection h with _ h;injection h with h;subst h;exact Wx.refl _ _ _
 ·injection h with h1 h2
  exact z8x (e:=(z0k E (z16 c) (askE sh E c)).1) (zgl sh E c) (Prod.ext rfl h2)
theorem zfP (sh:Int→Int) (E:ES) (c:Call):Wx 17 64 E (z13 sh E c).2:=by
 unfold z13
 split
 ·exact Wx.refl _ _ _
 ·split
  ·rename_i a E' h;exact zhF h
  ·exact Wx.refl _ _ _
theorem zfz {l:List Out} (h:∀ o∈l,o.kind=1):oqs l=0:=by
 induction l with
 | nil=>rfl
 | cons o r ih =>
  rw [z77,ih fun x hx=>h x (List.mem_cons_of_mem _ hx)]
  have:=h o (List.mem_cons_self ..)
  unfold oq
  rw [if_pos this]
theorem z51 (i:It) (r:List It) (x:Int):dueN (i::r) x=dueN r x+(if i.2.1=x then 1 else 0):=by
 unfold dueN
 rw [List.filter_cons]
 by_cases h:i.2.1=x
 ·simp [h]
 ·simp [h]
theorem zfR {E:ES} {i:It} {r:List It} (hd:E.due=i::r):Wx 0 0 E { E with due:=r }:=⟨by simp only [wt];omega,fun x=>by
 have:=z51 i r x
 simp only [ph,hd]
 omega,by simp only;omega⟩
theorem z9l {E E':ES} {i:It} {r:List It} (hd:E.due=i::r) (h:z1M { E with due:=r } i=some E'):Wx 0 0 E E':=by
 have ht:=zfR hd
 unfold z1M at h
 simp only at h
 split at h
 ·injection h with h;subst h;exact ht
 ·rename_i r0 hr
  split at h
  ·injection h with h;subst h;exact ht
  ·have g:=zbV r0.f i.2.2.2.2.2 i.2.2.2.1 i.2.2.2.2.1 i.1
   have hk:=zfz (z3M r0.f i.2.2.2.2.2 i.2.2.2.1 i.2.2.2.2.1 i.1)
   split at h
   ·have hx:Wx (ows (z1F r0.f i.2.2.2.2.2 i.2.2.2.1 i.2.2.2.2.1 i.1).2.1) (oqs (z1F r0.f i.2.2.2.2.2 i.2.2.2.1 i.2.2.2.2.1 i.1).2.1) _ E':=z9m h
    rw [hk] at hx
    have h1:=hx.w
    have h2:=zbR E.runs i.2.1 { r0 with f:=(z1F r0.f i.2.2.2.2.2 i.2.2.2.1 i.2.2.2.2.1 i.1).1 }
    have gw:=g.w
    have gl:=g.l
    rw [hr] at h2
    refine ⟨?_,fun x=>?_,hx.t⟩
    ·simp only [wt,fwO] at h1 h2 ⊢
     omega
    ·have h3:=hx.p x
     have h4:=z51 i r x
     simp only [ph,hd] at h3 ⊢
     by_cases hx:x=i.2.1
     ·subst hx
      rw [z0g] at h3
      rw [hr]
      rw [if_pos rfl] at h4
      have h5:∀ r:RunS,flO (some r)=fl r.f:=fun _=>rfl
      rw [h5] at h3 ⊢
      dsimp only at h3 gl
      omega
     ·rw [z0G _ _ hx] at h3
      omega
   split at h
   ·cases h
   ·injection h with h;subst h;exact ht
theorem z8g {id n now:Int}:∀ {l:List Out} {E:ES},(∀ o∈l,o.kind=1)→tsk E.dec+ows l≤1024→∃ E',z2F E id n now l=some E'
 | [],E,_,_=>⟨E,rfl⟩
 | o::r,E,hk,hw=>by
  have h1:=hk o (List.mem_cons_self ..)
  rw [z79] at hw
  have hw1:ow o=1:=by unfold ow;rw [if_pos (.inl h1)]
  obtain ⟨m,hm⟩:=zcM (m:=E.dec) o.list ⟨id,n,o.ref,o.turn⟩ (by omega)
  have hs:=zcN hm
  have ho:outE E id n now o=some { E with dec:=m }:=by
   unfold outE
   rw [if_pos (.inl h1)]
   unfold out0
   rw [if_pos h1,hm]
   rfl
  obtain ⟨E',h'⟩:=z8g (id:=id) (n:=n) (now:=now) (l:=r) (E:={ E with dec:=m }) (fun x hx=>hk x (List.mem_cons_of_mem _ hx)) (by simp only;omega)
  exact ⟨E',by unfold z2F;rw [ho];exact h'⟩
theorem zbK (F:FS) (kind ref turn now:Int) (h:F.l.length+2≤4096):(z1F F kind ref turn now).2.2≠4:=by
 have pw:∀ (F:FS) (e:Ev),(ok (z0T (putF F e) now)).2.2≠4∧(ok (z0T (putF F e) now)).1.l.length≤F.l.length+2:=fun F e=>by
  refine ⟨by simp [ok],?_⟩
  have:=z0r F e
  show (z0T (putF F e) now).1.l.length≤_
  unfold z0T
  split
  ·show (putF _ _).l.length≤_
   rw [z0r]
   omega
  ·simp only
   omega
 have he:∀ (ref:Int),(z2q 11 ref [] now F).2.2≠4∧(z2q 11 ref [] now F).1.l.length≤F.l.length+2:=fun ref=>by
  unfold z2q
  split
  ·exact ⟨by simp,by simp⟩
  split
  ·exact ⟨by simp,by simp⟩
  ·exact pw _ _
 have ht:∀ (act:FS→FR),(act F).2.2≠4→(act F).1.l.length≤F.l.length+2→(tryF F [] now act).2.2≠4:=fun act h1 h2=>by
  unfold tryF
  split
  ·simp
  split
  ·simp
  split
  ·exact h1
  split
  ·omega
  ·exact h1
 unfold z1F
 split
 ·refine ht _ ?_ ?_
  ·unfold z1r
   split<;>simp [ok]
  ·unfold z1r
   split
   ·simp
   ·show (putF (putF _ _) _).l.length≤_
    rw [z0r,z0r]
    omega
 split
 ·refine ht _ ?_ ?_
  ·unfold z1x
   split
   ·simp
   ·exact (he ref).1
  ·unfold z1x
   split
   ·simp
   ·exact (he ref).2
 split
 ·refine ht _ ?_ ?_
  ·unfold z29
   split
   ·simp
   split
   ·simp
   ·exact (pw _ _).1
  ·unfold z29
   split
   ·simp
   split
   ·simp
   ·exact (pw _ _).2
 ·simp
structure Lt (E:ES):Prop where
 w:wt E≤1024
 p:∀ x,ph E x≤4096
theorem Lt.wx {E E':ES} (h:Lt E) (k:Wx 0 0 E E'):Lt E':=⟨by have:=h.w;have:=k.w;omega,fun x=>by have:=h.p x;have:=k.p x;omega⟩
theorem z7S {E:ES} {i:It} {r:List It} (h:Lt E) (hd:E.due=i::r):∃ E',z1M { E with due:=r } i=some E':=by
 unfold z1M
 simp only
 split
 ·exact ⟨_,rfl⟩
 ·rename_i r0 hr
  split
  ·exact ⟨_,rfl⟩
  ·have g:=zbV r0.f i.2.2.2.2.2 i.2.2.2.1 i.2.2.2.2.1 i.1
   have hk:=z3M r0.f i.2.2.2.2.2 i.2.2.2.1 i.2.2.2.2.1 i.1
   have h4:=z51 i r i.2.1
   have hp:=h.p i.2.1
   have hw:=h.w
   have h5:=zf6 r0.f
   rw [if_pos rfl] at h4
   simp only [ph,hr,flO,hd] at hp
   have hf:=zbK r0.f i.2.2.2.2.2 i.2.2.2.1 i.2.2.2.2.1 i.1 (by omega)
   split
   ·refine z8g hk (show tsk E.dec+ows (z1F r0.f i.2.2.2.2.2 i.2.2.2.1 i.2.2.2.2.1 i.1).2.1≤1024 from ?_)
    have h2:=zbR E.runs i.2.1 { r0 with f:=(z1F r0.f i.2.2.2.2.2 i.2.2.2.1 i.2.2.2.2.1 i.1).1 }
    have gw:=g.w
    rw [hr] at h2
    simp only [wt,fwO] at hw h2 ⊢
    omega
   ·exact ⟨_,rfl⟩
theorem z7r (end_:Int):∀ (n:Nat) (E:ES),Wx 0 0 E (z1t end_ n E)
 | 0,E=>Wx.refl _ _ _
 | n+1,E=>by
  unfold z1t
  split
  ·exact Wx.refl _ _ _
  ·rename_i i r hd
   split
   ·exact Wx.refl _ _ _
   ·split
    ·rename_i E1 h
     exact (z9l hd h).trans (z7r end_ n E1)
    ·have b:Wx 0 0 E { E with due:=addD r (end_+1,i.2) }:=⟨by simp only [wt];omega,fun x=>by
      have h1:=z51 i r x
      have h2:=zbt r (end_+1,i.2) x
      simp only [ph,hd] at h2 ⊢
      omega,by simp only;omega⟩
     exact b.trans (z7r end_ n _)
theorem zem (E:ES) (n:Int):Wx 0 0 E (z0S E n).2:=by
 unfold z0S
 split
 ·exact Wx.refl _ _ _
 split
 ·exact Wx.refl _ _ _
 ·have h:=z7r (E.now+n) E.due.length E
  exact ⟨h.w,h.p,h.t⟩
theorem z5X {end_:Int}:∀ (L:List It) (E:ES) (n m:Nat),E.due=L→Lt E→L.length≤n→L.length≤m→z1t end_ n E=z1t end_ m E
 | [],E,n,m,hd,_,_,_=>by
  have h:due E.due end_=false:=by rw [hd];rfl
  rw [z2G h,z2G h]
 | i::r,E,n,m,hd,hE,hn,hm=>by
  simp only [List.length_cons] at hn hm
  obtain ⟨n,rfl⟩:∃ k,n=k+1:=⟨n-1,by omega⟩
  obtain ⟨m,rfl⟩:∃ k,m=k+1:=⟨m-1,by omega⟩
  by_cases hi:i.1≤end_
  ·rw [z3i hd hi,z3i hd hi]
   obtain ⟨E',h'⟩:=z7S hE hd
   rw [h']
   have h2:E'.due=r:=(z4J h').2
   exact z5X r E' n m h2 (hE.wx (z9l hd h')) (by omega) (by omega)
  ·unfold z1t
   rw [hd]
   simp only
   rw [if_pos (by omega),if_pos (by omega)]
theorem za9 {a b:Int} (hab:a≤b):∀ (L:List It) (E:ES) (n m k:Nat),E.due=L→Lt E→L.length≤n→L.length≤m→L.length≤k→z1t b m (z1t a n E)=z1t b k E
 | [],E,n,m,k,hd,_,_,_,_=>by
  have h:∀ e,due E.due e=false:=fun e=>by rw [hd];rfl
  rw [z2G (h a),z2G (h b),z2G (h b)]
 | i::r,E,n,m,k,hd,hE,hn,hm,hk=>by
  simp only [List.length_cons] at hn hm hk
  obtain ⟨n,rfl⟩:∃ k,n=k+1:=⟨n-1,by omega⟩
  by_cases hi:i.1≤a
  ·obtain ⟨k,rfl⟩:∃ j,k=j+1:=⟨k-1,by omega⟩
   rw [z3i hd hi,z3i hd (Int.le_trans hi hab)]
   obtain ⟨E',h'⟩:=z7S hE hd
   rw [h']
   have h2:E'.due=r:=(z4J h').2
   exact za9 hab r E' n m k h2 (hE.wx (z9l hd h')) (by omega) (by omega) (by omega)
  ·have h1:z1t a (n+1) E=E:=by
    unfold z1t
    rw [hd]
    simp only
    rw [if_pos (by omega)]
   rw [h1]
   exact z5X (i::r) E m k hd hE (by simp only [List.length_cons];omega) (by simp only [List.length_cons];omega)
def atT (t:Int) (E:ES):ES:={ E with now:=t }
theorem za0 (t:Int) {id n now:Int}:∀ {l:List Out} {E:ES},(∀ o∈l,o.kind=1)→z2F (atT t E) id n now l=(z2F E id n now l).map (atT t)
 | [],E,_=>rfl
 | o::r,E,hk=>by
  have h1:=hk o (List.mem_cons_self ..)
  have ho:∀ E:ES,outE E id n now o=(z38 E.dec o.list ⟨id,n,o.ref,o.turn⟩).map fun m=>{ E with dec:=m }:=fun E=>by
   unfold outE
   rw [if_pos (.inl h1)]
   unfold out0
   rw [if_pos h1]
  unfold z2F
  rw [ho,ho]
  show Option.bind (Option.map _ (z38 E.dec o.list ⟨id,n,o.ref,o.turn⟩)) _=_
  cases z38 E.dec o.list ⟨id,n,o.ref,o.turn⟩ with
  | none=>rfl
  | some m=>exact za0 t (E:={ E with dec:=m }) (fun x hx=>hk x (List.mem_cons_of_mem _ hx))
theorem zdC (t:Int) (E:ES) (i:It):z1M (atT t E) i=(z1M E i).map (atT t):=by
 unfold z1M
 show (match lk E.runs i.2.1 with | none=>_ | some r=>_)=_
 cases lk E.runs i.2.1 with
 | none=>rfl
 | some r0 =>
  simp only
  split
  ·rfl
  ·split
   ·exact za0 t (E:={ E with runs:=up E.runs i.2.1 { r0 with f:=(z1F r0.f i.2.2.2.2.2 i.2.2.2.1 i.2.2.2.2.1 i.1).1 } }) (z3M _ _ _ _ _)
   ·split<;>rfl
theorem z7l (t end_:Int):∀ (n:Nat) (E:ES),z1t end_ n (atT t E)=atT t (z1t end_ n E)
 | 0,E=>rfl
 | n+1,E=>by
  rw [z1t,z1t]
  show (match E.due with | []=>_ | i::r=>_)=_
  cases E.due with
  | nil=>rfl
  | cons i r =>
   simp only
   split
   ·rfl
   ·have h:=zdC t { E with due:=r } i
    show (match z1M (atT t { E with due:=r }) i with | some E'=>_ | none=>_)=_
    rw [h]
    cases z1M { E with due:=r } i with
    | some E1=>exact z7l t end_ n E1
    | none=>exact z7l t end_ n { E with due:=addD r (end_+1,i.2) }
def aft (E:ES) (t:Int):ES:=atT (E.now+t) (z1t (E.now+t) E.due.length E)
theorem za8 (E:ES) (n:Int) (h:1≤n∧n≤1048576) (hf:E.now+n≤1099511627776):z0S E n=(0,aft E n):=by
 unfold z0S
 rw [if_neg (by omega),if_neg (by omega)]
 rfl
theorem zd0 {E:ES} (hE:Lt E) (t n:Int) (h:1≤n∧n≤1048576) (hf:E.now+t+n≤1099511627776):z0S (aft E t) n=(0,aft E (t+n)):=by
 have hd:(z1t (E.now+t) E.due.length E).due.length≤E.due.length:=by
  have:=(z76 (E.now+t) E.due.length E).due
  omega
 have hL:Lt (z1t (E.now+t) E.due.length E):=hE.wx (z7r _ _ _)
 unfold z0S
 have hn:(aft E t).now=E.now+t:=rfl
 rw [if_neg (by omega),if_neg (by rw [hn];omega),hn]
 congr 1
 unfold aft
 rw [z7l]
 show atT (E.now+t+n) (z1t (E.now+t+n) (z1t (E.now+t) E.due.length E).due.length (z1t (E.now+t) E.due.length E))=_
 rw [z5X _ _ _ E.due.length rfl hL (Nat.le_refl _) hd,za9 (by omega) _ E _ _ E.due.length rfl hE (Nat.le_refl _) (Nat.le_refl _) (Nat.le_refl _),Int.add_assoc]
end Go.Proofs.YtniknicnnaiilaaGreat
end
