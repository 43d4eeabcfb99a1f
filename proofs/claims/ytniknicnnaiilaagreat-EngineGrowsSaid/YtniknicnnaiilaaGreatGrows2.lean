/- Lemmas of the engine. -/
import Derived.WideKeyEntry
import Derived.Test.YtniknicnnaiilaaGreatX03
import Derived.Test.YtniknicnnaiilaaGreatX04
import Derived.Test.YtniknicnnaiilaaGreatX05
import Derived.Test.YtniknicnnaiilaaGreatX11
import Derived.Test.YtniknicnnaiilaaGreatX22
import Derived.Test.YtniknicnnaiilaaGreatX30
import Derived.Test.YtniknicnnaiilaaGreatX36
import Derived.Test.YtniknicnnaiilaaGreatGrows1
section
namespace Go.Proofs.YtniknicnnaiilaaGreat
set_option maxRecDepth 100000
open Go.RowKit Go.Ext Go.BigFrame Go.Maps Go.MapKept
attribute [local go_sem] Ext.cell Ext.frozen Ext.lt Ext.le s1 s2 s3 s4 s5 s6 t1 t2 t3 t4 t5 t6
attribute [local go_sem ↓] Go.wp_at_zero Go.wp_at_succ
def cntD (end_:Int) (L:List It):Nat:=(L.filter fun x=>decide (x.1≤end_)).length
theorem zeS (end_:Int) (L:List It):cntD end_ L≤L.length:=List.length_filter_le _ _
theorem zaE (p:It→Bool) (x:It) (hx:p x=false) (L:List It):(ins L x).filter p=L.filter p:=by
 unfold ins
 rw [List.filter_append,List.filter_cons,hx]
 simp only [Bool.false_eq_true,if_false]
 rw [← List.filter_append,List.take_append_drop]
theorem z9u (end_:Int) (L:List It) (y:Int × Int × Int × Int × Int):cntD end_ (addD L (end_+1,y))=cntD end_ L:=by
 unfold addD cntD
 split
 ·rfl
 ·rw [zaE]
  simp
  omega
theorem z2G {end_:Int} {E:ES} (h:due E.due end_=false):∀ n,z1t end_ n E=E
 | 0=>rfl
 | n+1=>by
  unfold z1t
  split
  ·rfl
  ·rename_i i r e
   rw [e] at h
   simp [due,hd] at h
   rw [if_pos h]
theorem z3i {end_:Int} {E:ES} {i:It} {r:List It} (e:E.due=i::r) (h:i.1≤end_) (n:Nat) :
  z1t end_ (n+1) E=match z1M { E with due:=r } i with | some E'=>z1t end_ n E' | none=>z1t end_ n { E with due:=addD r (end_+1,i.2) }:=by
 rw [z1t]
 rw [e]
 simp only
 rw [if_neg (by omega)]
 rfl
theorem z4o {end_:Int} {i:It} {r:List It} (h:i.1≤end_):cntD end_ (i::r)=cntD end_ r+1:=by
 unfold cntD
 simp [h]
def z0S (E:ES) (n:Int):Int × ES :=
 if n<1∨1048576<n then (1,E) else if 1099511627776-n<E.now then (4,E) else (0,{ z1t (E.now+n) E.due.length E with now:=E.now+n })
theorem z2x (E:ES) (n:Int):(EOk E→EOk (z0S E n).2)∧(z0S E n).2.due.length≤E.due.length∧(z0S E n).2.groups=E.groups∧Gro E (z0S E n).2:=by
 unfold z0S
 split
 ·exact ⟨id,Nat.le_refl _,rfl,Gro.refl _⟩
 split
 ·exact ⟨id,Nat.le_refl _,rfl,Gro.refl _⟩
 rename_i h1 h2
 have hx:=z76 (E.now+n) E.due.length E
 have hg:=z6X (E.now+n) E.due.length E
 refine ⟨fun e=>?_,by have:=hx.due;simpa using this,hx.groups,hg.trans (.same rfl) hx.ok⟩
 obtain ⟨a,_,c,d,e',f,g⟩:=hx.ok e
 have hn:=e.now
 exact ⟨a,by simp only;omega,c,d,e',f,g⟩
def hisC (x:Int):Call:=⟨6,x,0,0,tok0,[],[]⟩
def hisR (E:ES) (x:Int):Int × List Ev :=
 if z1Q sh0 E (hisC x)≠0 then (0,[]) else
 match lk E.runs x with
 | none=>(0,[])
 | some r=>(r.f.run,r.f.l)
theorem zdM (E:ES) (x:Int):(z0z E (hisC x)).2=E∧(z0z E (hisC x)).1.run=(hisR E x).1∧(z0z E (hisC x)).1.events=(hisR E x).2:=by
 unfold hisR
 show (z13 sh0 E (hisC x)).2=E∧(z13 sh0 E (hisC x)).1.run=_∧(z13 sh0 E (hisC x)).1.events=_
 unfold z13
 by_cases h:z1Q sh0 E (hisC x)≠0
 ·rw [if_pos h,if_pos h]
  exact ⟨rfl,rfl,rfl⟩
 ·rw [if_neg h,if_neg h]
  have hd:doE sh0 E (hisC x)=match lk E.runs x with
    | none=>(z0b 2,some E)
    | some r=>({ ans0 with run:=r.f.run,events:=z15 r.f 0 },some E):=by
   simp [doE,hisC,z1Z,z16]
   cases lk E.runs x<;>rfl
  rw [hd]
  cases lk E.runs x with
  | none=>exact ⟨rfl,rfl,rfl⟩
  | some r =>
   refine ⟨rfl,rfl,?_⟩
   show z15 r.f 0=r.f.l
   unfold z15
   rw [if_neg (by omega)]
   rfl
theorem zeq {E:ES} (h:EOk E) (hc:EC E) (x:Int):ChkP h00 (hisR E x).2∧(hisR E x).2.length≤4096∧0≤(hisR E x).1:=by
 unfold hisR
 split
 ·exact ⟨trivial,by simp,Int.le_refl _⟩
 ·split
  ·exact ⟨trivial,by simp,Int.le_refl _⟩
  ·rename_i r hr
   have hF:=(h.get hr).1
   exact ⟨(hc _ (z0K hr)).1,hF.len,by have:=hF.runn;dsimp only;omega⟩
def Tld (rf:Int→Int) (wf:Int→List Ev) (E:ES):Prop:=∀ x,rf x<(hisR E x).1∨(rf x=(hisR E x).1∧wf x <+: (hisR E x).2)
theorem zfI:Tld (fun _=>0) (fun _=>[]) (e0 0 1):=fun x=>by
 right
 unfold hisR
 split
 ·exact ⟨rfl,List.nil_prefix⟩
 ·exact ⟨rfl,List.nil_prefix⟩
theorem zfh {E E':ES} (g:Gro E E') (h':EOk E') (hs:E'.shard=E.shard) (x:Int):(hisR E x).1<(hisR E' x).1∨((hisR E x).1=(hisR E' x).1∧(hisR E x).2 <+: (hisR E' x).2):=by
 have hk:z1Q sh0 E' (hisC x)=z1Q sh0 E (hisC x):=by simp only [z1Q,hs]
 unfold hisR
 rw [hk]
 split
 ·exact .inr ⟨rfl,List.nil_prefix⟩
 ·cases hr:lk E.runs x with
  | none =>
   cases hr':lk E'.runs x with
   | none=>exact .inr ⟨rfl,List.nil_prefix⟩
   | some r' =>
    have:=(h'.get hr').1.runn
    exact .inl (by dsimp only;omega)
  | some r =>
   obtain ⟨r',h1,h2⟩:=g.g x r hr
   rw [h1]
   rcases h2 with h2 | h2
   ·exact .inl h2
   ·exact .inr ⟨h2.run.symm,h2.l⟩
theorem Tld.gro {rf:Int→Int} {wf:Int→List Ev} {E E':ES} (h:Tld rf wf E) (g:Gro E E') (h':EOk E') (hs:E'.shard=E.shard):Tld rf wf E':=fun x=>by
 rcases h x with h1 | ⟨h1,h2⟩<;>rcases zfh g h' hs x with k1 | ⟨k1,k2⟩
 ·exact .inl (by omega)
 ·exact .inl (by omega)
 ·exact .inl (by omega)
 ·exact .inr ⟨h1.trans k1,h2.trans k2⟩
theorem Tld.set {rf:Int→Int} {wf:Int→List Ev} {E:ES} (h:Tld rf wf E) (x:Int):Tld (fun y=>if y=x then (hisR E x).1 else rf y) (fun y=>if y=x then (hisR E x).2 else wf y) E:=fun y=>by
 by_cases hy:y=x
 ·subst hy
  simp only [if_true]
  exact .inr ⟨trivial,List.prefix_refl _⟩
 ·simp only [if_neg hy]
  exact h y
theorem zbG:∀ (n:Nat) (l:List Nat),l.Nodup→(∀ x∈l,x<n)→l.length≤n
 | 0,l,_,h=>by
  cases l with
  | nil=>simp
  | cons x r=>exact absurd (h x (List.mem_cons_self ..)) (Nat.not_lt_zero _)
 | n+1,l,hd,h=>by
  have:=zbG n (l.erase n) (hd.erase n) (fun x hx=>by
   have h1:=h x (List.mem_of_mem_erase hx)
   have h2:x≠n:=fun e=>by subst e;exact (List.Nodup.not_mem_erase hd) hx
   omega)
  have:=List.le_length_erase (a:=n) (l:=l)
  omega
theorem z7e {E:ES} (h:EOk E):E.runs.length≤1048577:=by
 have h2:∀ x∈E.runs,0≤x.1∧x.1≤1048576:=fun x hx=>by
  obtain ⟨h1,h3⟩:=h.run x hx
  have:=h1.idn
  omega
 have:=zbG 1048577 (E.runs.map fun x=>x.1.toNat) (by
  have hn:=List.pairwise_map.1 h.rn
  refine List.pairwise_map.2 (hn.imp_of_mem fun {a b} ha hb hne e=>hne ?_)
  have h1:=h2 a ha
  have h3:=h2 b hb
  omega) (fun x hx=>by
  obtain ⟨y,hy,rfl⟩:=List.mem_map.1 hx
  have:=h2 y hy
  omega)
 simpa using this
structure Lw (w0 w:World) (M S:Bl) (k:Nat) (E:ES) (n:Nat):Prop where
 law:Law w0 w M S k E n
 m:∀ b,M b→w0.heap.size≤b
section
variable {w0 w w' w2:World} {M S M2 S2:Bl} {k n:Nat} {E E':ES}
theorem Lw.gr (h:Lw w0 w M S k E n) (g:Gr w w'):Lw w0 w' M S k E n:=⟨h.law.gr g,h.m⟩
theorem Lw.step {m:Nat} (h:Lw w0 w M S k E n) (hal:z0j w M S w2 M2 S2) (heng:EngR w2 M2 S2 k E') (he:E1 E' m):Lw w0 w2 M2 S2 k E' m :=
 ⟨h.law.step hal heng he,fun b e=>by
  by_cases hb:b<w.heap.size
  ·exact h.m b (hal.m b hb e)
  ·have:=h.law.g.size
   omega⟩
theorem Lw.more {B:Nat} (h:Lw w0 w M S k E n) (g:Gr w w') (h1:w.heap.size≤B) (h2:B<w'.heap.size):Lw w0 w' (fun b=>M b∨b=B) S k E n :=
 ⟨⟨h.law.eng.more g h1 h2,h.law.e1,h.law.g.trans g,h.law.s⟩,fun b e=>by
  rcases e with e | e
  ·exact h.m b e
  ·have:=h.law.g.size
   omega⟩
theorem Lw.set {B:Nat} (h:Lw w0 w M S k E n) (m:Mod (fun b=>b=B) w w') (h1:M B) (h2:¬ S B):Lw w0 w' M S k E n :=
 ⟨⟨h.law.eng.setOther m h1 h2,h.law.e1,z2c h.law.g m (fun _ e=>e▸h.m B h1),h.law.s⟩,h.m⟩
end
def zeH (w0:World) (M S:Bl) (k:Nat) (x:Ans × ES) (n:Nat) (w:World) (en:Ending) (w2:World):Prop :=
 ∃ A c A' c' M' S',en=.returned (ansV x.1 (.slice A x.1.data.length c) (.slice A' x.1.events.length c'))∧Lw w0 w2 M' S' k x.2 (n+100)∧z0j w M S w2 M' S'∧BysM w2 M' (.slice A x.1.data.length c) x.1.data∧z08 evR w2 M' (.slice A' x.1.events.length c') x.1.events
theorem Lw.call {w0 w:World} {M S:Bl} {k n:Nat} {E:ES} (h:Lw w0 w M S k E n) (c:Call) (d l:Value) (hn:n≤998000) (hc:z0P w M c d l) (hll:c.l.length≤140737488351232) (hdd:∀ d∈c.l,d.data.length≤140737488351232) :
  Calls Tryz.prog 14 #[.pointer (some ⟨k,0,none⟩),z0E c d l] w (zeH w0 M S k (z0z E c) n w):=by
 refine (z4n k E c d l M S w h.law.eng h.law.e1 hn hc hll hdd).mono ?_
 rintro en w2 ⟨dv,ev,M2,S2,rfl,h2,hal2,hd2,he2⟩
 obtain ⟨A,ca,rfl⟩:=hd2.shape
 obtain ⟨A',ca',rfl,_⟩:=he2.shape
 exact ⟨A,ca,A',ca',M2,S2,rfl,h.step hal2 h2 (h.law.e1.call c),hal2,hd2,he2⟩
def zh8 (w0:World) (M S:Bl) (k:Nat) (x:Ans × ES) (n:Nat) (w:World) (en:Ending) (w2:World):Prop:=∃ M' S',en=.returned (.int .i64 x.1.err)∧Lw w0 w2 M' S' k x.2 (n+100)∧z0j w M S w2 M' S'
abbrev e1 (list n:Int) (d:List UInt8):Ev:=⟨1,0,0,0,list,n,d⟩
abbrev e2 (list:Int):Ev:=⟨2,0,0,0,list,0,[]⟩
abbrev e3:Ev:=⟨3,0,2,0,0,0,[]⟩
abbrev e4:Ev:=⟨4,0,3,0,0,0,[]⟩
abbrev e17 (C n:Int) (d:List UInt8):Ev:=⟨17,0,0,C,2,n,d⟩
abbrev e18 (C st:Int) (d:List UInt8):Ev:=⟨18,0,5,C,0,st,d⟩
abbrev FL (id run list n task place begun:Int) (l:List Ev) (op:List (Int × Opn)):FS:=⟨id,run,list,n,l,task,place,begun,0,false,false,op⟩
abbrev St (runs:List (Int × RunS)) (dec:Rows) (due:List It):ES:=⟨0,1,0,runs,dec,[],due⟩
abbrev gA (id run ref:Int):Ans:={ ans0 with given:=true,tok:=⟨id,run,ref,0⟩ }
abbrev nF (id run list n:Int) (d:List UInt8):FS:=FL id run list n 1 2 0 [e1 list n d,e2 list] []
abbrev bF (id run list n:Int) (d:List UInt8):FS:=FL id run list n 2 2 3 [e1 list n d,e2 list,e3] []
abbrev wF (P C n:Int) (d:List UInt8):FS:=FL P 1 1 50 0 2 3 [e1 1 50 [],e2 1,e3,e4,e17 C n d] [(5,⟨17,C,0⟩)]
abbrev tF (P C n:Int) (d:List UInt8) (st:Int) (x:List UInt8):FS:=FL P 1 1 50 1 7 0 [e1 1 50 [],e2 1,e3,e4,e17 C n d,e18 C st x,e2 1] []
def S1 (P:Int):ES:=St [(P,⟨nF P 1 1 50 [],0,0⟩)] [(1,[⟨P,1,2,0⟩])] []
def S2 (P:Int) (D:List It):ES:=St [(P,⟨bF P 1 1 50 [],0,0⟩)] [] D
def S3 (P C n:Int) (d0:List UInt8) (r:Int) (d:List UInt8) (D:List It):ES:=St [(P,⟨wF P C n d0,0,0⟩),(C,⟨nF C r 2 n d,P,1⟩)] [(2,[⟨C,r,2,0⟩])] D
def S4 (P C n:Int) (d0:List UInt8) (r:Int) (d:List UInt8) (D:List It):ES:=St [(P,⟨wF P C n d0,0,0⟩),(C,⟨bF C r 2 n d,P,1⟩)] [] D
def S5 (P C n:Int) (d0:List UInt8) (st:Int) (x:List UInt8) (X:RunS) (D:List It):ES:=St [(P,⟨tF P C n d0 st x,0,0⟩),(C,X)] [(1,[⟨P,1,7,0⟩])] D
def R1 (C:Int):ES:=St [(C,⟨nF C 1 5 50 [],0,0⟩)] [(5,[⟨C,1,2,0⟩])] []
def R2 (P C:Int):ES:=St [(C,⟨nF C 1 5 50 [],0,0⟩),(P,⟨nF P 1 1 50 [],0,0⟩)] [(5,[⟨C,1,2,0⟩]),(1,[⟨P,1,2,0⟩])] []
def R3 (P C:Int) (D:List It):ES:=St [(C,⟨nF C 1 5 50 [],0,0⟩),(P,⟨bF P 1 1 50 [],0,0⟩)] [(5,[⟨C,1,2,0⟩])] D
def R4 (P C:Int) (d:List UInt8) (D:List It):ES:=St [(C,⟨nF C 1 5 50 [],0,0⟩),(P,⟨tF P C 50 d 0 [],0,0⟩)] [(5,[⟨C,1,2,0⟩]),(1,[⟨P,1,7,0⟩])] D
attribute [local simp] z13 z1Q z2l z3f sh0 doE z2n z0U newF z1L z07 putF z3h out0 z38 rowOf lk up rm popE z3A z2L popR setR z3G z1v z1y z2b z0k z2s z2Z z1z tryF z0Q z1n z2F outE z2P z3g z3j z0h z0x z2r ok z0T z0B z1P ans0 z0b tok0 e0 f0 numB z2o z18 z19 hasN z1J z17 hasL z16 z1Z askE z2p z1p badF badL z2j mayF takeB z37 isOf z2t zaO z0n z0d z0J z2X atF z1a z1m z15 z6R z0y
abbrev Nm (x:Int):Prop:=0≤x∧x≤1048576
end Go.Proofs.YtniknicnnaiilaaGreat
end
section
namespace Go.Proofs.YtniknicnnaiilaaGreat
set_option maxRecDepth 100000
open Go.RowKit Go.Ext Go.BigFrame Go.Maps Go.MapKept
attribute [local go_sem] Ext.cell Ext.frozen Ext.lt Ext.le s1 s2 s3 s4 s5 s6 t1 t2 t3 t4 t5 t6
attribute [local go_sem ↓] Go.wp_at_zero Go.wp_at_succ
abbrev laF (n:Int) (L:List Ev) (task place begun turn:Int) (op:List (Int × Opn)):FS:=⟨9,1,1,n,L,task,place,begun,turn,false,false,op⟩
abbrev sE (s i:Int):Ev:=⟨2,s,0,0,1,i,[]⟩
def LS (n now s i k:Int) (L:List Ev):ES:=⟨0,1,now,[(9,⟨laF n (L++[sE s i]) 1 (k+1) 0 i [],0,0⟩)],[(1,[⟨9,1,k+1,i⟩])],[],[]⟩
def LB (n now s i k:Int) (L:List Ev):ES:=⟨0,1,now,[(9,⟨laF n (L++[sE s i,⟨3,now,k+1,0,0,0,[]⟩]) 2 (k+1) (k+2) i [],0,0⟩)],[],[],[(now+n,9,1,k+1,i,3)]⟩
def LC (n now s i k:Int) (L:List Ev):ES:=⟨0,1,now,[(9,⟨laF n (L++[sE s i,⟨3,now,k+1,0,0,0,[]⟩,⟨4,now,k+2,0,0,0,[]⟩,⟨7,now,0,1,4,n,[]⟩]) 0 (k+1) (k+2) 0 [(k+4,⟨7,1,0⟩)],0,0⟩)],[],[(4,[⟨9,1,k+4,-1⟩])],[(now+n,9,1,k+1,i,3)]⟩
def LD (n now s i k:Int) (L:List Ev):ES:=⟨0,1,now,[(9,⟨laF n (L++[sE s i,⟨3,now,k+1,0,0,0,[]⟩,⟨4,now,k+2,0,0,0,[]⟩,⟨7,now,0,1,4,n,[]⟩,⟨8,now,k+4,1,0,0,[]⟩]) 0 (k+1) (k+2) 0 [(k+4,⟨7,1,k+5⟩)],0,0⟩)],[],[],[(now+n,9,1,k+1,i,3),(now+n,9,1,k+4,0,4)]⟩
def LL (n now s i k:Int) (L:List Ev):List Ev:=L++[sE s i,⟨3,now,k+1,0,0,0,[]⟩,⟨4,now,k+2,0,0,0,[]⟩,⟨7,now,0,1,4,n,[]⟩,⟨8,now,k+4,1,0,0,[]⟩,⟨11,now+n,k+5,1,0,0,[]⟩,sE (now+n) 0]
def LE (n now s i k late:Int) (L:List Ev):ES:=⟨0,1,now+(n+late),[(9,⟨laF n (LL n now s i k L) 1 (k+7) 0 0 [],0,0⟩)],[(1,[⟨9,1,k+7,0⟩])],[],[]⟩
attribute [local simp] z13 z1Q z2l z3f sh0 doE z2n z0U newF z1L z07 putF z3h out0 z38 rowOf lk up rm popE z3A z2L popR setR z3G z1v z1y z2b z0k z2s z2Z z1z tryF z0Q z1n z2F outE z2P z3g z3j z0h z0x z2r ok z0T z0B z1P ans0 z0b tok0 e0 f0 numB z2o z18 z19 hasN z1J z17 hasL z16 z1Z askE z2p z1p badF badL z2j mayF takeB z37 isOf z2t zaO z0n z0d z0J z2X atF z1a z1m z15 z6R z0y z1M z1F z29 z1r z1x z2q z3F z2H z2N Int.add_assoc
section
variable {n now s i k late:Int} {L:List Ev}
end
end Go.Proofs.YtniknicnnaiilaaGreat
end
section
namespace Go.Proofs.YtniknicnnaiilaaGreat
set_option maxRecDepth 100000
open Go.RowKit Go.Ext Go.BigFrame Go.Maps Go.MapKept
attribute [local go_sem] Ext.cell Ext.frozen Ext.lt Ext.le s1 s2 s3 s4 s5 s6 t1 t2 t3 t4 t5 t6
attribute [local go_sem ↓] Go.wp_at_zero Go.wp_at_succ
structure HR (w:World) (k mk mi mo mf:Nat) (H:HS):Prop where
 cell:w.heap[k]?=some (.cells #[.int .i64 H.n,.int .i64 H.at_,.int .i64 H.closed,.map (some mk),.map (some mi),.int .i64 H.task,.bool H.begun,.map (some mo),.map (some mf)] 145 (0,0))
 kk:MI w mk (mp (.int .i64) H.kinds)
 ii:MI w mi (mp (.int .i64) H.ids)
 oo:MI w mo (mp (.int .i64) H.wof)
 ff:MI w mf (mp (.int .i64) H.wfr)
 o1:mk<mi
 o2:mi<mo
 o3:mo<mf
 o4:mf<k
theorem z2k {W:World} {B:Nat} {t:TypeId} {a b c d e f g h i:Value} (hh:W.heap[B]?=some (.cells #[a,b,c,d,e,f,g,h,i] t (0,0))):W.cell? ⟨B,0,none⟩=some a∧W.cell? ⟨B,1,none⟩=some b∧W.cell? ⟨B,2,none⟩=some c∧W.cell? ⟨B,3,none⟩=some d∧W.cell? ⟨B,4,none⟩=some e∧W.cell? ⟨B,5,none⟩=some f∧W.cell? ⟨B,6,none⟩=some g∧W.cell? ⟨B,7,none⟩=some h∧W.cell? ⟨B,8,none⟩=some i:=by
 refine ⟨?_,?_,?_,?_,?_,?_,?_,?_,?_⟩<;>simp [World.cell?,hh]
section
variable {w w':World} {k mk mi mo mf:Nat} {H:HS}
theorem HR.gr (h:HR w k mk mi mo mf H) (g:Gr w w'):HR w' k mk mi mo mf H :=
 ⟨(g.block k (block_lt h.cell)).trans h.cell,h.kk.gr g,h.ii.gr g,h.oo.gr g,h.ff.gr g,h.o1,h.o2,h.o3,h.o4⟩
end
theorem z8d {w:World} {b:Nat} {l:List (Int × Int)} (h:MI w b (mp (.int .i64) l)) (x:Int) (c:Bool) :
  (Instr.lookup 65 (.map (some b)) (.int .i64 x) c).run Tryz.prog w=.ok (if c then .tuple #[.int .i64 (lz l x),.bool (lk l x).isSome] else .int .i64 (lz l x)) w:=by
 have:=h.lookup (P:=Tryz.prog) Tryz.underlying65 Tryz.underlying3 (z:=.int .i64 0) (by kernel_rfl) x c
 rw [this,z45]
 unfold lz
 cases lk l x<;>cases c<;>rfl
theorem z8z (x:Int) (h1:0≤x) (h2:x≤1099511627776) (w:World):Calls Tryz.prog 165 #[.int .i64 x] w (RetE (.bool true) w):=by
 refine retE ?_
 go_enter Tryz.func165,Tryz.ntmps165
 go_wp2_with fail
 go_ret
 exact ⟨rfl,Gr.refl w⟩
theorem z1C (x:Int) (w:World):Calls Tryz.prog 82 #[.int .i64 x] w (RetE (.bool (decide (19≤x∧x≤23))) w):=by
 refine retE ?_
 by_cases h1:19≤x
 ·by_cases h2:x≤23
  ·rw [decide_eq_true ⟨h1,h2⟩]
   go_enter Tryz.func82,Tryz.ntmps82
   go_wp2_with fail
   go_ret
   exact ⟨rfl,Gr.refl w⟩
  ·rw [decide_eq_false (fun h=>h2 h.2)]
   go_enter Tryz.func82,Tryz.ntmps82
   go_wp2_with fail
   go_ret
   exact ⟨rfl,Gr.refl w⟩
 ·rw [decide_eq_false (fun h=>h1 h.1)]
  go_enter Tryz.func82,Tryz.ntmps82
  go_wp2_with fail
  go_ret
  exact ⟨rfl,Gr.refl w⟩
set_option maxHeartbeats 1000000 in
theorem zaU (e:Ev) (A:Option Addr) (c:Nat) (H:HS) (w:World) (f:FitP H e):Calls Tryz.prog 124 #[evV e (.slice A e.data.length c)] w (RetE (.bool true) w):=by
 have HB:=hid (fun x h1 h2 W=>z8z x h1 h2 W)
 obtain ⟨⟨k1,k2⟩,⟨t1,t2⟩,⟨r1,r2⟩,⟨i1,i2⟩,⟨l1,l2⟩,⟨n1,n2⟩,hd,_⟩:=f
 rcases e with ⟨ek,et,er,ei,el,en,ed⟩
 simp only at k1 k2 t1 t2 r1 r2 i1 i2 l1 l2 n1 n2 hd
 simp only [evV]
 generalize ed.length=dl at *
 have hdz:(dl:Int)≤4096:=by omega
 refine retE ?_
 obtain ⟨w1,hw1⟩:∃ w1,w.alloc (.cells #[.int .i64 ek,.int .i64 et,.int .i64 er,.int .i64 ei,.int .i64 el,.int .i64 en,.slice A dl c] 41)=w1:=⟨_,rfl⟩
 have HB1:=hid (hw1▸heap_alloc_new w (.cells #[.int .i64 ek,.int .i64 et,.int .i64 er,.int .i64 ei,.int .i64 el,.int .i64 en,.slice A dl c] 41))
 have G1:=hid (hw1▸(Gr.refl w).alloc (.cells #[.int .i64 ek,.int .i64 et,.int .i64 er,.int .i64 ei,.int .i64 el,.int .i64 en,.slice A dl c] 41))
 have l1':=block_lt HB1.o
 have HW1:=hid hw1
 clear hw1
 go_enter Tryz.func124,Tryz.ntmps124
 go_upto_region 1 with fail
 rw [HW1.o]
 obtain ⟨c0,c1,c2,c3,c4,c5,c6⟩:=z0p HB1.o
 have GG:=hid (Gr.refl w1)
 go_wp2_with fail
 refine (HB.o _ t1 t2 _).mono ?_
 rintro en _ ⟨rfl,y,rfl⟩
 have g:=GG.o.trans y.gr
 obtain ⟨W,hW⟩:∃ W,y.val=W:=⟨_,rfl⟩
 rw [hW] at g ⊢
 clear hW y c0 c1 c2 c3 c4 c5 c6
 obtain ⟨c0,c1,c2,c3,c4,c5,c6⟩:=z0p ((g.block _ l1').trans HB1.o)
 have lW:=Nat.lt_of_lt_of_le l1' g.size
 replace GG:=hid g
 clear g
 go_wp2_with fail
 refine (HB.o _ r1 r2 _).mono ?_
 rintro en _ ⟨rfl,y,rfl⟩
 have g:=GG.o.trans y.gr
 obtain ⟨W,hW⟩:∃ W,y.val=W:=⟨_,rfl⟩
 rw [hW] at g ⊢
 clear hW y c0 c1 c2 c3 c4 c5 c6
 obtain ⟨c0,c1,c2,c3,c4,c5,c6⟩:=z0p ((g.block _ l1').trans HB1.o)
 have lW:=Nat.lt_of_lt_of_le l1' g.size
 replace GG:=hid g
 clear g
 go_wp2_with fail
 refine (HB.o _ i1 i2 _).mono ?_
 rintro en _ ⟨rfl,y,rfl⟩
 have g:=GG.o.trans y.gr
 obtain ⟨W,hW⟩:∃ W,y.val=W:=⟨_,rfl⟩
 rw [hW] at g ⊢
 clear hW y c0 c1 c2 c3 c4 c5 c6
 obtain ⟨c0,c1,c2,c3,c4,c5,c6⟩:=z0p ((g.block _ l1').trans HB1.o)
 have lW:=Nat.lt_of_lt_of_le l1' g.size
 replace GG:=hid g
 clear g
 go_wp2_with fail
 refine (HB.o _ l1 l2 _).mono ?_
 rintro en _ ⟨rfl,y,rfl⟩
 have g:=GG.o.trans y.gr
 obtain ⟨W,hW⟩:∃ W,y.val=W:=⟨_,rfl⟩
 rw [hW] at g ⊢
 clear hW y c0 c1 c2 c3 c4 c5 c6
 obtain ⟨c0,c1,c2,c3,c4,c5,c6⟩:=z0p ((g.block _ l1').trans HB1.o)
 have lW:=Nat.lt_of_lt_of_le l1' g.size
 replace GG:=hid g
 clear g
 go_wp2_with fail
 refine (HB.o _ n1 n2 _).mono ?_
 rintro en _ ⟨rfl,y,rfl⟩
 have g:=GG.o.trans y.gr
 obtain ⟨W,hW⟩:∃ W,y.val=W:=⟨_,rfl⟩
 rw [hW] at g ⊢
 clear hW y c0 c1 c2 c3 c4 c5 c6
 obtain ⟨c0,c1,c2,c3,c4,c5,c6⟩:=z0p ((g.block _ l1').trans HB1.o)
 have lW:=Nat.lt_of_lt_of_le l1' g.size
 replace GG:=hid g
 clear g
 go_wp2_with fail
 go_ret
 exact ⟨rfl,G1.o.trans GG.o⟩
set_option maxHeartbeats 4000000 in
theorem zfE (k mk mi mo mf:Nat) (H:HS) (e:Ev) (A:Option Addr) (c:Nat) (w:World) (h:HR w k mk mi mo mf H) (f:FitP H e):Calls Tryz.prog 125 #[.pointer (some ⟨k,0,none⟩),evV e (.slice A e.data.length c)] w (RetE (.bool true) w):=by
 have rf:=f.rf
 have hk1:=f.k
 unfold RefP at rf
 rcases e with ⟨ek,et,er,ei,el,en,ed⟩
 simp only [evV]
 simp only at rf hk1
 clear f
 generalize ed.length=dl at *
 obtain ⟨w1,hw1⟩:∃ w1,w.alloc (.cells #[.int .i64 ek,.int .i64 et,.int .i64 er,.int .i64 ei,.int .i64 el,.int .i64 en,.slice A dl c] 41)=w1:=⟨_,rfl⟩
 have HB1:=hid (hw1▸heap_alloc_new w (.cells #[.int .i64 ek,.int .i64 et,.int .i64 er,.int .i64 ei,.int .i64 el,.int .i64 en,.slice A dl c] 41))
 have G1:=hid (hw1▸(Gr.refl w).alloc (.cells #[.int .i64 ek,.int .i64 et,.int .i64 er,.int .i64 ei,.int .i64 el,.int .i64 en,.slice A dl c] 41))
 have l1':=block_lt HB1.o
 have HW1:=hid hw1
 clear hw1
 have h1:=h.gr G1.o
 obtain ⟨a0,a1,a2,a3,a4,a5,a6,a7,a8⟩:=z2k h1.cell
 have lk':=block_lt h1.cell
 obtain ⟨c0,c1,c2,c3,c4,c5,c6⟩:=z0p HB1.o
 have HX:=hid (fun W (g:Gr w1 W)=>And.intro (z2k ((g.block _ lk').trans h1.cell)) (And.intro (z0p ((g.block _ l1').trans HB1.o)) (And.intro (z8d (h1.kk.gr g) er false) (And.intro (z8d (h1.ff.gr g) er true) (And.intro (z8d (h1.oo.gr g) er false) (And.intro (Nat.lt_of_lt_of_le lk' g.size) (Nat.lt_of_lt_of_le l1' g.size)))))))
 clear h h1
 rcases H with ⟨hn,hat,hcl,hks,his,ht,hb,hof,hfr⟩
 simp only [Bool.false_eq_true,if_false,if_true] at rf a0 a1 a2 a3 a4 a5 a6 a7 a8 HX
 have hkk:ek=3∨(ek=4∨ek=5∨ek=6)∨ek=8∨(ek=9∨ek=10∨ek=11)∨(ek=13∨ek=14)∨ek=18∨(¬ ek=3∧¬ ek=4∧¬ ek=5∧¬ ek=6∧¬ ek=8∧¬ ek=9∧¬ ek=10∧¬ ek=11∧¬ ek=13∧¬ ek=14∧¬ ek=18):=by omega
 refine retE ?_
 rcases hkk with rfl | e1 | rfl | e1 | e1 | rfl | ⟨n3,n4,n5,n6,n8,n9,n10,n11,n13,n14,n18⟩
 ·rw [if_pos rfl] at rf
  obtain ⟨r1,rfl,rfl⟩:=rf
  have r1':(er != 0)=true:=by simpa using r1
  go_enter Tryz.func125,Tryz.ntmps125
  go_upto_region 1 with fail
  rw [HW1.o]
  go_upto_region 5 with fail
  go_quiet (fail)
  go_wp2_with fail
  go_ret
  exact ⟨rfl,G1.o.drewN _⟩
 ·rw [if_neg (by omega),if_pos e1] at rf
  obtain ⟨r1,rfl,rfl⟩:=rf
  have r1':(er != 0)=true:=by simpa using r1
  rcases e1 with rfl | rfl | rfl
  all_goals (
   go_enter Tryz.func125,Tryz.ntmps125
   go_upto_region 1 with fail
   rw [HW1.o]
   go_upto_region 9 with fail
   go_quiet (fail)
   go_wp2_with fail
   go_ret
   exact ⟨rfl,G1.o.drewN _⟩)
 ·rw [if_neg (by omega),if_neg (by omega),if_pos rfl] at rf
  obtain ⟨r1,r2⟩:=rf
  have z1:lz hks er=7:=by unfold lz;rw [r1];rfl
  have z2:(lk hfr er).isSome=false:=by rw [r2];rfl
  go_enter Tryz.func125,Tryz.ntmps125
  go_upto_region 1 with fail
  rw [HW1.o]
  go_upto_region 11 with fail
  refine z01 [(0,false),(1,false),(2,false),(3,false),(4,false),(5,false),(6,false),(7,false),(8,false),(9,false),(10,false),(11,true)] (fun W=>Gr w1 W) (by kernel_rfl) (by kernel_rfl) (fun _ _ d _ _ h=>by cases d<;>exact h) (Gr.refl w1).drew (fun _=>?_)
  iterate 11 (refine z03 (v:=?_) rfl (by rfl) ?_ ?_;rotate_left;(focus (intro W9 hW9;obtain ⟨⟨a0,a1,a2,a3,a4,a5,a6,a7,a8⟩,⟨c0,c1,c2,c3,c4,c5,c6⟩,q1,q2,q3,la,lc⟩:=HX.o W9 hW9;rw [z2] at q2;go_simp;(try with_reducible rfl);done));(try simp only [AP]))
  refine z06 rfl (by rfl) (fun K hK=>?_)
  go_simp
  refine hK.o _ _ ?_
  clear hK K
  go_upto_region 12 with fail
  refine z01 [(0,false),(1,false),(2,false),(3,false),(4,false),(5,false),(6,false),(7,false),(8,false),(9,false),(10,false),(11,false),(12,true)] (fun W=>Gr w1 W) (by kernel_rfl) (by kernel_rfl) (fun _ _ d _ _ h=>by cases d<;>exact h) (Gr.refl w1).drew.drew (fun _=>?_)
  iterate 12 (refine z03 (v:=?_) rfl (by rfl) ?_ ?_;rotate_left;(focus (intro W9 hW9;obtain ⟨⟨a0,a1,a2,a3,a4,a5,a6,a7,a8⟩,⟨c0,c1,c2,c3,c4,c5,c6⟩,q1,q2,q3,la,lc⟩:=HX.o W9 hW9;rw [z1] at q1;go_simp;(try with_reducible rfl);done));(try simp only [AP]))
  refine z06 rfl (by rfl) (fun K hK=>?_)
  go_simp
  refine hK.o _ _ ?_
  clear hK K
  go_wp2_with fail
  go_ret
  exact ⟨rfl,G1.o.drew.drew⟩
 ·rw [if_neg (by omega),if_neg (by omega),if_neg (by omega),if_pos e1] at rf
  have r1':(lz hof er != 0)=true:=by simpa using rf
  rcases e1 with rfl | rfl | rfl
  all_goals (
   go_enter Tryz.func125,Tryz.ntmps125
   go_upto_region 1 with fail
   rw [HW1.o]
   go_upto_region 16 with fail
   refine z01 [(0,false),(1,false),(2,false),(3,false),(4,false),(5,false),(6,false),(7,false),(8,true)] (fun W=>Gr w1 W) (by kernel_rfl) (by kernel_rfl) (fun _ _ d _ _ h=>by cases d<;>exact h) (Gr.refl w1).drew (fun _=>?_)
   iterate 8 (refine z03 (v:=?_) rfl (by rfl) ?_ ?_;rotate_left;(focus (intro W9 hW9;obtain ⟨⟨a0,a1,a2,a3,a4,a5,a6,a7,a8⟩,⟨c0,c1,c2,c3,c4,c5,c6⟩,q1,q2,q3,la,lc⟩:=HX.o W9 hW9; go_simp;(try with_reducible rfl);done));(try simp only [AP]))
   refine z06 rfl (by rfl) (fun K hK=>?_)
   go_simp
   refine hK.o _ _ ?_
   clear hK K
   go_wp2_with fail
   go_ret
   exact ⟨rfl,G1.o.drew⟩)
 ·rw [if_neg (by omega),if_neg (by omega),if_neg (by omega),if_neg (by omega),if_pos e1] at rf
  have z1:lz hks er=12:=by unfold lz;rw [rf];rfl
  rcases e1 with rfl | rfl
  all_goals (
   go_enter Tryz.func125,Tryz.ntmps125
   go_upto_region 1 with fail
   rw [HW1.o]
   go_upto_region 22 with fail
   refine z01 [(0,false),(1,false),(2,false),(3,false),(4,false),(5,false),(6,false),(7,false),(8,false),(9,true)] (fun W=>Gr w1 W) (by kernel_rfl) (by kernel_rfl) (fun _ _ d _ _ h=>by cases d<;>exact h) (Gr.refl w1).drew (fun _=>?_)
   iterate 9 (refine z03 (v:=?_) rfl (by rfl) ?_ ?_;rotate_left;(focus (intro W9 hW9;obtain ⟨⟨a0,a1,a2,a3,a4,a5,a6,a7,a8⟩,⟨c0,c1,c2,c3,c4,c5,c6⟩,q1,q2,q3,la,lc⟩:=HX.o W9 hW9;rw [z1] at q1;go_simp;(try with_reducible rfl);done));(try simp only [AP]))
   refine z06 rfl (by rfl) (fun K hK=>?_)
   go_simp
   refine hK.o _ _ ?_
   clear hK K
   go_wp2_with fail
   go_ret
   exact ⟨rfl,G1.o.drew⟩)
 ·rw [if_neg (by omega),if_neg (by omega),if_neg (by omega),if_neg (by omega),if_neg (by omega),if_pos rfl] at rf
  have z1:lz hks er=17:=by unfold lz;rw [rf];rfl
  go_enter Tryz.func125,Tryz.ntmps125
  go_upto_region 1 with fail
  rw [HW1.o]
  go_upto_region 22 with fail
  refine z01 [(0,false),(1,false),(2,false),(3,false),(4,false),(5,false),(6,false),(7,false),(8,false),(9,true)] (fun W=>Gr w1 W) (by kernel_rfl) (by kernel_rfl) (fun _ _ d _ _ h=>by cases d<;>exact h) (Gr.refl w1).drew (fun _=>?_)
  iterate 9 (refine z03 (v:=?_) rfl (by rfl) ?_ ?_;rotate_left;(focus (intro W9 hW9;obtain ⟨⟨a0,a1,a2,a3,a4,a5,a6,a7,a8⟩,⟨c0,c1,c2,c3,c4,c5,c6⟩,q1,q2,q3,la,lc⟩:=HX.o W9 hW9;rw [z1] at q1;go_simp;(try with_reducible rfl);done));(try simp only [AP]))
  refine z06 rfl (by rfl) (fun K hK=>?_)
  go_simp
  refine hK.o _ _ ?_
  clear hK K
  go_wp2_with fail
  go_ret
  exact ⟨rfl,G1.o.drew⟩
 ·rw [if_neg (by omega),if_neg (by omega),if_neg (by omega),if_neg (by omega),if_neg (by omega),if_neg (by omega)] at rf
  subst rf
  go_enter Tryz.func125,Tryz.ntmps125
  go_upto_region 1 with fail
  rw [HW1.o]
  go_wp2_with fail
  go_ret
  exact ⟨rfl,G1.o⟩
set_option maxHeartbeats 2000000 in
theorem zeh (k mk mi mo mf:Nat) (H:HS) (kind id:Int) (w:World) (h:HR w k mk mi mo mf H) (hu:∀ x∈H.kinds,x.2=kind→lz H.ids x.1≠id) :
  Calls Tryz.prog 126 #[.pointer (some ⟨k,0,none⟩),.int .i64 kind,.int .i64 id] w (RetE (.bool false) w):=by
 have HH:=hid h
 have HU:=hid hu
 obtain ⟨a0,a1,a2,a3,a4,a5,a6,a7,a8⟩:=z2k h.cell
 have hkl:=block_lt h.cell
 obtain ⟨es,clock,hm,hst,he1,he2⟩:=MI.entries h.kk
 have hrg0:=run_range_map (P:=Tryz.prog) w 65 3 3 mk es clock Tryz.underlying65 hm
 clear h hu
 refine retE ?_
 go_enter Tryz.func126,Tryz.ntmps126
 go_wp2_with fail
 go_loopw [] (fun wr=>∃ seen:Array Nat,Gr w wr∧wr.heap[w.heap.size]?=some (.mapIter (some mk) clock seen clock)) (fun wr=>(leftOf es (wr.iterSeen w.heap.size)).size)
 case atStart=>exact ⟨#[],(Gr.refl w).alloc _,heap_alloc_new w _⟩
 case round =>
  obtain ⟨seen,hg,hit⟩:=hrel
  have HSN:=hid (z0Z hit)
  rcases z5F (P:=Tryz.prog) hit hm hst (Nat.le_refl _) hg with ⟨h0,hnx⟩ | ⟨e,he,W2,hg2,hit2,hnx,hen⟩
  ·go_wp2_with fail
   go_ret
   exact ⟨rfl,hg⟩
  ·obtain ⟨x,hx,ek,ev⟩:=he1 e (mem_left he).1
   have HIT:=hid hit2
   have HE:=hid he
   have HG2:=hid hg2
   rw [ek,ev] at hnx hen
   clear hit hit2 he ek ev
   rcases x with ⟨q,xk⟩
   have hux:=HU.o _ hx
   simp only at hux
   have hlk:=z8d (HH.o.gr hg2).ii q false
   obtain ⟨b0,b1,b2,b3,b4,b5,b6,b7,b8⟩:=z2k (HH.o.gr hg2).cell
   have hkl2:=block_lt (HH.o.gr hg2).cell
   simp only [Bool.false_eq_true,if_false] at hlk
   generalize lz H.ids q=z at *
   clear hg2
   by_cases hk1:xk=kind
   ·have hz:(z==id)=false:=by simpa using hux hk1
    subst hk1
    go_wp2_with fail
    go_roundw
    case rel=>exact ⟨_,HG2.o,HIT.o⟩
    case measure =>
     rw [HSN.o,z0Z HIT.o]
     exact left_shrinks es seen e HE.o
   ·go_wp2_with fail
    go_roundw
    case rel=>exact ⟨_,HG2.o,HIT.o⟩
    case measure =>
     rw [HSN.o,z0Z HIT.o]
     exact left_shrinks es seen e HE.o
set_option maxHeartbeats 4000000 in
theorem zbF (k mk mi mo mf:Nat) (H:HS) (e:Ev) (A:Option Addr) (c:Nat) (w:World) (h:HR w k mk mi mo mf H) (f:FitP H e):Calls Tryz.prog 80 #[.pointer (some ⟨k,0,none⟩),evV e (.slice A e.data.length c)] w (RetE (.string ⟨#[]⟩) w):=by
 obtain ⟨w1,hw1⟩:∃ w1,w.alloc (.cells #[.int .i64 e.kind,.int .i64 e.tick,.int .i64 e.ref,.int .i64 e.id,.int .i64 e.list,.int .i64 e.n,.slice A e.data.length c] 41)=w1:=⟨_,rfl⟩
 have HB1:=hid (hw1▸heap_alloc_new w (.cells #[.int .i64 e.kind,.int .i64 e.tick,.int .i64 e.ref,.int .i64 e.id,.int .i64 e.list,.int .i64 e.n,.slice A e.data.length c] 41))
 have G1:=hid (hw1▸(Gr.refl w).alloc (.cells #[.int .i64 e.kind,.int .i64 e.tick,.int .i64 e.ref,.int .i64 e.id,.int .i64 e.list,.int .i64 e.n,.slice A e.data.length c] 41))
 have HW1:=hid hw1
 have h1:=h.gr G1.o
 have lk':=block_lt h1.cell
 have l1':=block_lt HB1.o
 have HRIGHT:=hid (fun W=>zaU e A c H W f)
 have HREF:=hid (fun W (g:Gr w1 W)=>zfE k mk mi mo mf H e A c W (h1.gr g) f)
 have HUSES:=hid (fun W (g:Gr w1 W) (hk:e.kind=7∨e.kind=12∨e.kind=17)=>zeh k mk mi mo mf H e.kind e.id W (h1.gr g) (f.us hk))
 have HX:=hid (fun W (g:Gr w1 W)=>And.intro (z2k ((g.block _ lk').trans h1.cell)) (And.intro (z0p ((g.block _ l1').trans HB1.o)) (And.intro (Nat.lt_of_lt_of_le lk' g.size) (Nat.lt_of_lt_of_le l1' g.size))))
 have hat':=f.at_
 have hfi:=f.first
 have hcl:=f.cl
 have ht2:=f.t2
 clear h h1 f hw1
 rcases e with ⟨ek,et,er,ei,el,en,ed⟩
 rcases H with ⟨hn,hat,hcl',hks,his,ht,hb,hof,hfr⟩
 simp only [evV] at *
 generalize ed.length=dl at *
 subst hcl
 have HG:=hid (Gr.refl w1)
 obtain ⟨⟨a0,a1,a2,a3,a4,a5,a6,a7,a8⟩,⟨c0,c1,c2,c3,c4,c5,c6⟩,la,lc⟩:=HX.o w1 HG.o
 have hkk:(ek=2∧ht=0∧(hn==0)=false)∨((ek=7∨ek=12∨ek=17)∧(hn==0)=false)∨(¬ ek=2∧¬ ek=7∧¬ ek=12∧¬ ek=17∧(hn==0)=(ek==1)):=by
  by_cases e2:ek=2
  ·exact .inl ⟨e2,ht2 e2,by rw [beq_eq_false_iff_ne];intro e;have:=hfi.1 e;omega⟩
  by_cases e7:ek=7∨ek=12∨ek=17
  ·exact .inr (.inl ⟨e7,by rw [beq_eq_false_iff_ne];intro e;have:=hfi.1 e;omega⟩)
  ·refine .inr (.inr ⟨e2,fun e=>e7 (.inl e),fun e=>e7 (.inr (.inl e)),fun e=>e7 (.inr (.inr e)),?_⟩)
   rw [Bool.eq_iff_iff,beq_iff_eq,beq_iff_eq]
   exact hfi
 clear hfi ht2
 refine retE ?_
 rcases hkk with ⟨rfl,rfl,hb1⟩ | ⟨e7,hb1⟩ | ⟨n2,n7,n12,n17,hb1⟩
 ·go_enter Tryz.func80,Tryz.ntmps80
  go_upto_region 1 with fail
  rw [HW1.o]
  go_wp2_with fail
  refine (HRIGHT.o _).mono ?_
  rintro en _ ⟨rfl,y,rfl⟩
  have g:=HG.o.trans y.gr
  obtain ⟨W,hW⟩:∃ W,y.val=W:=⟨_,rfl⟩
  rw [hW] at g ⊢
  clear hW y a0 a1 a2 a3 a4 a5 a6 a7 a8 c0 c1 c2 c3 c4 c5 c6 la lc
  replace HG:=hid g
  clear g
  obtain ⟨⟨a0,a1,a2,a3,a4,a5,a6,a7,a8⟩,⟨c0,c1,c2,c3,c4,c5,c6⟩,la,lc⟩:=HX.o W HG.o
  go_upto_region 3 with fail
  go_quiet (fail)
  go_upto_region 5 with fail
  go_quiet (fail)
  go_wp2_with fail
  refine (HREF.o _ (HG.o.drewN _)).mono ?_
  rintro en _ ⟨rfl,y,rfl⟩
  have g:=(HG.o.drewN _).trans y.gr
  obtain ⟨W,hW⟩:∃ W,y.val=W:=⟨_,rfl⟩
  rw [hW] at g ⊢
  clear hW y a0 a1 a2 a3 a4 a5 a6 a7 a8 c0 c1 c2 c3 c4 c5 c6 la lc
  replace HG:=hid g
  clear g
  obtain ⟨⟨a0,a1,a2,a3,a4,a5,a6,a7,a8⟩,⟨c0,c1,c2,c3,c4,c5,c6⟩,la,lc⟩:=HX.o W HG.o
  go_wp2_with fail
  go_ret
  exact ⟨rfl,G1.o.trans HG.o⟩
 ·rcases e7 with rfl | rfl | rfl
  all_goals (
   go_enter Tryz.func80,Tryz.ntmps80
   go_upto_region 1 with fail
   rw [HW1.o]
   go_wp2_with fail
   refine (HRIGHT.o _).mono ?_
   rintro en _ ⟨rfl,y,rfl⟩
   have g:=HG.o.trans y.gr
   obtain ⟨W,hW⟩:∃ W,y.val=W:=⟨_,rfl⟩
   rw [hW] at g ⊢
   clear hW y a0 a1 a2 a3 a4 a5 a6 a7 a8 c0 c1 c2 c3 c4 c5 c6 la lc
   replace HG:=hid g
   clear g
   obtain ⟨⟨a0,a1,a2,a3,a4,a5,a6,a7,a8⟩,⟨c0,c1,c2,c3,c4,c5,c6⟩,la,lc⟩:=HX.o W HG.o
   go_upto_region 3 with fail
   go_quiet (fail)
   go_upto_region 5 with fail
   go_quiet (fail)
   go_wp2_with fail
   refine (HREF.o _ (HG.o.drewN _)).mono ?_
   rintro en _ ⟨rfl,y,rfl⟩
   have g:=(HG.o.drewN _).trans y.gr
   obtain ⟨W,hW⟩:∃ W,y.val=W:=⟨_,rfl⟩
   rw [hW] at g ⊢
   clear hW y a0 a1 a2 a3 a4 a5 a6 a7 a8 c0 c1 c2 c3 c4 c5 c6 la lc
   replace HG:=hid g
   clear g
   obtain ⟨⟨a0,a1,a2,a3,a4,a5,a6,a7,a8⟩,⟨c0,c1,c2,c3,c4,c5,c6⟩,la,lc⟩:=HX.o W HG.o
   go_wp2_with fail
   refine (HUSES.o _ HG.o (by decide)).mono ?_
   rintro en _ ⟨rfl,y,rfl⟩
   have g:=HG.o.trans y.gr
   obtain ⟨W,hW⟩:∃ W,y.val=W:=⟨_,rfl⟩
   rw [hW] at g ⊢
   clear hW y a0 a1 a2 a3 a4 a5 a6 a7 a8 c0 c1 c2 c3 c4 c5 c6 la lc
   replace HG:=hid g
   clear g
   obtain ⟨⟨a0,a1,a2,a3,a4,a5,a6,a7,a8⟩,⟨c0,c1,c2,c3,c4,c5,c6⟩,la,lc⟩:=HX.o W HG.o
   go_wp2_with fail
   go_ret
   exact ⟨rfl,G1.o.trans HG.o⟩)
 ·obtain ⟨b,hb2⟩:∃ b,(ek==1)=b:=⟨_,rfl⟩
  rw [hb2] at hb1
  go_enter Tryz.func80,Tryz.ntmps80
  go_upto_region 1 with fail
  rw [HW1.o]
  go_wp2_with fail
  refine (HRIGHT.o _).mono ?_
  rintro en _ ⟨rfl,y,rfl⟩
  have g:=HG.o.trans y.gr
  obtain ⟨W,hW⟩:∃ W,y.val=W:=⟨_,rfl⟩
  rw [hW] at g ⊢
  clear hW y a0 a1 a2 a3 a4 a5 a6 a7 a8 c0 c1 c2 c3 c4 c5 c6 la lc
  replace HG:=hid g
  clear g
  obtain ⟨⟨a0,a1,a2,a3,a4,a5,a6,a7,a8⟩,⟨c0,c1,c2,c3,c4,c5,c6⟩,la,lc⟩:=HX.o W HG.o
  go_upto_region 3 with fail
  go_quiet (fail)
  go_upto_region 5 with fail
  go_quiet (fail)
  go_wp2_with fail
  refine (HREF.o _ (HG.o.drewN _)).mono ?_
  rintro en _ ⟨rfl,y,rfl⟩
  have g:=(HG.o.drewN _).trans y.gr
  obtain ⟨W,hW⟩:∃ W,y.val=W:=⟨_,rfl⟩
  rw [hW] at g ⊢
  clear hW y a0 a1 a2 a3 a4 a5 a6 a7 a8 c0 c1 c2 c3 c4 c5 c6 la lc
  replace HG:=hid g
  clear g
  obtain ⟨⟨a0,a1,a2,a3,a4,a5,a6,a7,a8⟩,⟨c0,c1,c2,c3,c4,c5,c6⟩,la,lc⟩:=HX.o W HG.o
  go_wp2_with fail
  go_ret
  exact ⟨rfl,G1.o.trans HG.o⟩
theorem MI.entryNew {P:Program} {w:World} {b:Nat} {kv:List (Int × Value)} (h:MI w b kv) {T K E:TypeId} (hT:P.underlying T=some (.map K E)) (hK:P.underlying K=some (.int .i64)) {z:Value} (hz:(zeroValue E).run P w=.ok z w) {k:Int} (hn:lk kv k=none) (v:Value) :
  ∃ st w1,(Instr.mapEntry T (.map (some b)) (.int .i64 k)).run P w=.ok (.tuple #[z,st]) w1∧Mod (fun x=>x=b) w w1∧∀ w2,w2.heap[b]?=w1.heap[b]?→∃ w3,(Instr.entryStore T (.map (some b)) st v).run P w2=.ok () w3∧MI w3 b (up kv k v)∧Mod (fun x=>x=b) w2 w3:=by
 obtain ⟨es,clock,hb,h1,h2⟩:=h
 have hc:∀ e,(Instr.checkKey e 10000 K (.int .i64 k)).run P w=.ok () w:=fun e=>MapKept.run_checkKey (n:=9999) hK (by simp [IsKey]) e
 have hno:∀ x∈es.toList,x.key≠.int .i64 k:=fun x hx he=>by
  have:=congrArg (List.map Prod.fst) h1
  have hm:x.key∈es.toList.map (·.key):=List.mem_map.2 ⟨x,hx,rfl⟩
  have e1:es.toList.map (·.key)=kv.map (fun x=>Value.int .i64 x.1):=by simpa [kvs,List.map_map,Function.comp_def] using this
  rw [e1,he] at hm
  obtain ⟨y,hy,hyk⟩:=List.mem_map.1 hm
  injection hyk with _ hyk
  exact z73 hn (List.mem_map.2 ⟨y,hy,hyk⟩)
 rcases z3k k es.toList kv 0 h1 with ⟨h3,h4⟩ | ⟨j,e,h3,h4,h5,_⟩
 rotate_left
 ·rw [hn] at h5;cases h5
 have hf:(Instr.findKey K (.int .i64 k) es.toList).run P w=.ok none w:=MapKept.run_findKey hK h4
 obtain ⟨w1,hr,hb1,hm1⟩:=z4g (P:=P) hb (.map (es.push { key:=.int .i64 k,val:=z,born:=clock }) (clock+1))
 refine ⟨goInt clock,w1,?_,hm1,fun w2 hw2=>?_⟩
 ·simp [Instr.mapEntry,run_underlying hT,MapKept.run_getObj_map hb,hc,hf,hz,hr,Sem.run_bind,Result.andThen]
 ·have hb2:=hw2.trans hb1
  have hs:=stamped_push (val:=z) h2 hno
  have hidx:(es.push ⟨.int .i64 k,z,clock⟩).findIdx? (fun e=>((e.born:Nat):Int)==((clock:Nat):Int))=some es.size:=by
   rw [WideElems.findIdx_arr]
   exact WideElems.findIdx_born (l:=(es.push ⟨.int .i64 k,z,clock⟩).toList) (j:=es.size) (e0:=⟨.int .i64 k,z,clock⟩) hs.2.1 (by simp)
  have hmod:(es.push ⟨.int .i64 k,z,clock⟩).modify es.size (fun e=>{ e with val:=v })=es.push ⟨.int .i64 k,v,clock⟩:=by
   apply Array.ext'
   rw [Array.toList_modify,Array.toList_push,Array.toList_push,← Array.length_toList,WideElems.modify_last]
  obtain ⟨w3,hr3,hb3,hm3⟩:=z4g (P:=P) hb2 (.map (es.push { key:=.int .i64 k,val:=v,born:=clock }) (clock+1))
  refine ⟨w3,?_,⟨_,_,hb3,?_,stamped_push h2 hno⟩,hm3⟩
  ·simp [Instr.entryStore,MapKept.run_getObj_map hb2,asInt,asIntOf,goInt,hidx,hmod,hr3,Sem.run_bind,Result.andThen]
  ·rw [Go.Ext.up_new hn,Array.toList_push,List.map_append,h1]
   simp [kvs]
def zh7 (w:World) (en:Ending) (w':World):Prop:=∃ mk,w.heap.size≤mk∧en=.returned (.pointer (some ⟨mk+4,0,none⟩))∧HR w' (mk+4) mk (mk+1) (mk+2) (mk+3) h00∧Gr w w'
theorem zai (w:World):Calls Tryz.prog 45 #[] w (zh7 w):=by
 have hmm:=@run_makeMap Tryz.prog
 go_enter Tryz.func45,Tryz.ntmps45
 go_wp2_with fail
 go_ret
 have g4:=(((Gr.refl w).alloc (.map #[] 0)).alloc (.map #[] 0)).alloc (.map #[] 0) |>.alloc (.map #[] 0)
 have m0:=MI.made w
 have m1:=MI.made (w.alloc (.map #[] 0))
 have m2:=MI.made ((w.alloc (.map #[] 0)).alloc (.map #[] 0))
 have m3:=MI.made (((w.alloc (.map #[] 0)).alloc (.map #[] 0)).alloc (.map #[] 0))
 have g5:=(Gr.refl ((((w.alloc (.map #[] 0)).alloc (.map #[] 0)).alloc (.map #[] 0)).alloc (.map #[] 0))).alloc (.cells #[.int .i64 0,.int .i64 0,.int .i64 0,.map (some w.heap.size),.map (some (w.heap.size+1)),.int .i64 0,.bool false,.map (some (w.heap.size+2)),.map (some (w.heap.size+3))] 145)
 have hc:=heap_alloc_new ((((w.alloc (.map #[] 0)).alloc (.map #[] 0)).alloc (.map #[] 0)).alloc (.map #[] 0)) (.cells #[.int .i64 0,.int .i64 0,.int .i64 0,.map (some w.heap.size),.map (some (w.heap.size+1)),.int .i64 0,.bool false,.map (some (w.heap.size+2)),.map (some (w.heap.size+3))] 145)
 simp only [World.size_alloc] at m1 m2 m3 hc
 refine ⟨w.heap.size,Nat.le_refl _,rfl,⟨hc,?_,?_,?_,?_,by omega,by omega,by omega,by omega⟩,g4.trans g5⟩
 ·exact (m0.gr ((((Gr.refl _).alloc _).alloc _).alloc _)).gr g5
 ·exact (m1.gr (((Gr.refl _).alloc _).alloc _)).gr g5
 ·exact (m2.gr ((Gr.refl _).alloc _)).gr g5
 ·exact m3.gr g5
theorem z9B (k mk mi mo mf:Nat) (H:HS) (x:Int) (w:World) (h:HR w k mk mi mo mf H) :
  Calls Tryz.prog 81 #[.pointer (some ⟨k,0,none⟩),.int .i64 x] w (fun en w'=>en=.returned (.tuple #[])∧HR w' k mk mi mo mf { H with kinds:=rm H.kinds x,ids:=rm H.ids x }∧Mod (fun b=>b=mk∨b=mi) w w'):=by
 obtain ⟨a0,a1,a2,a3,a4,a5,a6,a7,a8⟩:=z2k h.cell
 have hkl:=block_lt h.cell
 have hH:=hid h
 have o1:=h.o1
 have o2:=h.o2
 have o3:=h.o3
 have o4:=h.o4
 obtain ⟨w1,hd1,hm1,md1⟩:=h.kk.delete (P:=Tryz.prog) Tryz.underlying65 Tryz.underlying3 x 0 3
 have i1:=h.ii.keep (md1.block mi h.ii.lt (by omega))
 obtain ⟨w2,hd2,hm2,md2⟩:=i1.delete (P:=Tryz.prog) Tryz.underlying65 Tryz.underlying3 x 0 3
 have c1:=(md1.block k (block_lt h.cell) (by omega)).trans h.cell
 obtain ⟨b0,b1,b2,b3,b4,b5,b6,b7,b8⟩:=z2k c1
 have hk1:=block_lt c1
 have MD1:=hid md1
 have MD2:=hid md2
 have HM1:=hid hm1
 have HM2:=hid hm2
 clear h i1 hm1 hm2 md1 md2 o1 o2 o3 o4 c1
 go_enter Tryz.func81,Tryz.ntmps81
 go_wp2_with fail
 refine bodyPost_end (v:=.tuple #[]) (by simp [results,Tryz.results81,go_sem]) rfl ⟨rfl,?_,?_⟩
 ·obtain ⟨hc,hkk,hii,hoo,hff,o1,o2,o3,o4⟩:=hH.o
  have e1:=HM1.o
  have e2:=HM2.o
  rw [z4Z] at e1 e2
  have n1:=MD1.o.size
  exact ⟨(MD2.o.block k (Nat.lt_of_lt_of_le (block_lt hc) n1) (by omega)).trans ((MD1.o.block k (block_lt hc) (by omega)).trans hc),e1.keep (MD2.o.block mk e1.lt (by omega)),e2,
   (hoo.keep (MD1.o.block mo hoo.lt (by omega))).keep (MD2.o.block mo (Nat.lt_of_lt_of_le hoo.lt n1) (by omega)),(hff.keep (MD1.o.block mf hff.lt (by omega))).keep (MD2.o.block mf (Nat.lt_of_lt_of_le hff.lt n1) (by omega)),o1,o2,o3,o4⟩
 ·exact (MD1.o.mono fun b _ e=>.inl e).trans (MD2.o.mono fun b _ e=>.inr e) (fun _ _ e=>e)
end Go.Proofs.YtniknicnnaiilaaGreat
end
