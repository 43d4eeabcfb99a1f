/- Lemmas of the engine. -/
import Derived.Test.YtniknicnnaiilaaGreatX01
import Derived.Test.YtniknicnnaiilaaGreatX02
import Derived.Test.YtniknicnnaiilaaGreatX03
import Derived.Test.YtniknicnnaiilaaGreatX05
import Derived.Test.YtniknicnnaiilaaGreatX06
import Derived.Test.YtniknicnnaiilaaGreatX09
section
namespace Go.Proofs.YtniknicnnaiilaaGreat
open Go.RowKit Go.Ext
structure RunS where
 f:FS
 pf:Int
 pr:Int
structure Task where
 flow:Int
 run:Int
 ref:Int
 turn:Int
abbrev Rows:=List (Int × List Task)
structure ES where
 shard:Int
 groups:Int
 now:Int
 runs:List (Int × RunS)
 dec:Rows
 act:Rows
 due:List It
structure Tok where
 flow:Int
 run:Int
 event:Int
 turn:Int
deriving DecidableEq
structure Call where
 kind:Int
 flow:Int
 list:Int
 n:Int
 tok:Tok
 data:List UInt8
 l:List Dec
structure Ans where
 err:Int
 run:Int
 status:Int
 given:Bool
 tok:Tok
 data:List UInt8
 events:List Ev
def tok0:Tok:=⟨0,0,0,0⟩
def ans0:Ans:=⟨0,0,0,false,tok0,[],[]⟩
def z0b (x:Int):Ans:={ ans0 with err:=x }
def rowOf (m:Rows) (list:Int):List Task:=(lk m list).getD []
def setR (m:Rows) (list:Int) (l:List Task):Rows:=if l.isEmpty then rm m list else up m list l
def z38 (m:Rows) (list:Int) (t:Task):Option Rows:=if 1024≤(rowOf m list).length then none else some (up m list (rowOf m list++[t]))
def popR (m:Rows) (list:Int):Rows:=match rowOf m list with | []=>m | _::r=>setR m list r
def addD (L:List It) (x:It):List It:=if has L x then L else ins L x
def z20 (L:List It) (flow run:Int):List It:=L.filter fun x=>!(x.2.1==flow && x.2.2.1==run)
def out0 (E:ES) (id n:Int) (o:Out):Option ES :=
 if o.kind=1 then (z38 E.dec o.list ⟨id,n,o.ref,o.turn⟩).map fun m=>{ E with dec:=m }
 else if o.kind=2 then (z38 E.act o.list ⟨id,n,o.ref,-1⟩).map fun m=>{ E with act:=m }
 else some { E with due:=addD E.due (o.tick,id,n,o.ref,o.turn,o.kind) }
def z3h:ES→Int→Int→List Out→Option ES
 | E,_,_,[]=>some E
 | E,id,n,o::r=>(out0 E id n o).bind fun E'=>z3h E' id n r
def z0U (E:ES) (id list n:Int) (data:List UInt8) (pf pr now:Int):Option (ES × Int) :=
 let next:=match lk E.runs id with | some r=>r.f.run+1 | none=>1
 match newF id next list n data now with
 | none=>none
 | some (f,os)=>(z3h { E with runs:=up E.runs id ⟨f,pf,pr⟩ } id next os).map fun E'=>(E',next)
def z3j (E:ES) (id now child status:Int) (data:List UInt8):Option ES :=
 match lk E.runs id with
 | none=>some E
 | some r =>
  match z0h r.f child status data now with
  | (f,os,e)=>if e=0 then z3h { E with runs:=up E.runs id { r with f:=f } } id r.f.run os else if e=4 then none else some E
def z3g (E:ES) (id:Int):Bool:=match lk E.runs id with | some r=>z0B r.f.l==1 | none=>false
def z2P (E:ES) (id n now:Int) (o:Out):Option ES :=
 if z3g E o.id then z3j E id now o.id 0 [] else (z0U E o.id o.list o.n o.data id n now).map (·.1)
def outE (E:ES) (id n now:Int) (o:Out):Option ES :=
 if o.kind=1∨o.kind=2∨o.kind=3∨o.kind=4∨o.kind=5 then out0 E id n o else
 if o.kind=6 then z2P E id n now o else
 let E1:={ E with due:=z20 E.due id n }
 match lk E.runs id with
 | none=>none
 | some r =>
  if o.kind=8 then
   match r.f.l with
   | []=>none
   | first::_=>(z0U E1 id first.list first.n o.data r.pf r.pr now).map (·.1)
  else
   match lk E.runs r.pf with
   | none=>some E1
   | some p=>if r.pr=0∨p.f.run≠r.pr then some E1 else z3j E1 r.pf now id o.n o.data
def z2F:ES→Int→Int→Int→List Out→Option ES
 | E,_,_,_,[]=>some E
 | E,id,n,now,o::r=>(outE E id n now o).bind fun E'=>z2F E' id n now r
def z0k (E:ES) (id:Int) (act:FS→FR):Int × Option ES :=
 match lk E.runs id with
 | none=>(0,none)
 | some r =>
  match act r.f with
  | (f,os,e)=>if e=4 then (4,none) else (e,z2F { E with runs:=up E.runs id { r with f:=f } } id f.run E.now os)
def z2L (E:ES) (d:Bool):Rows:=if d then E.dec else E.act
def z3A (E:ES) (d:Bool) (m:Rows):ES:=if d then { E with dec:=m } else { E with act:=m }
def popE (E:ES) (d:Bool) (list:Int):ES:=z3A E d (popR (z2L E d) list)
def z2n (E:ES) (c:Call):Ans × Option ES :=
 if z3g E c.flow then (z0b 3,some E) else
 match z0U E c.flow c.list c.n c.data 0 0 E.now with
 | none=>(ans0,none)
 | some (E',n)=>({ ans0 with run:=n },some E')
def z1y (E:ES) (t:Task):Bool:=match lk E.runs t.flow with | some r=>r.f.run==t.run && z1n r.f t.ref t.turn | none=>false
def z2s (d:Bool) (t:Task) (now:Int) (F:FS):FR:=if d then z1z F t.ref t.turn now else z3F F t.ref now
def z2Z (d:Bool) (t:Task) (F:FS):Ans:={ ans0 with given:=true,tok:=⟨t.flow,t.run,t.ref,max t.turn 0⟩,data:=if d then [] else (match z15 F t.ref with | []=>[] | e::_=>e.data) }
def z2b (E:ES) (d:Bool) (t:Task):Option (Ans × ES) :=
 match lk E.runs t.flow with
 | none=>none
 | some r =>
  match z0k E t.flow (z2s d t E.now) with
  | (e,some E')=>if e=0 then some (z2Z d t r.f,E') else none
  | (_,none)=>none
def z1v (d:Bool) (list:Int):ES→List Task→Ans × ES
 | E,[]=>(ans0,E)
 | E,t::r =>
  if z1y E t then
   match z2b E d t with
   | none=>(ans0,E)
   | some (a,E')=>(a,popE E' d list)
  else z1v d list (popE E d list) r
def z3G (E:ES) (d:Bool) (list:Int):Ans × ES:=z1v d list E (rowOf (z2L E d) list)
def zaO (shardOf:Int→Int) (shard:Int) (l:List Dec):List Dec:=l.map fun d=>if d.kind=4∧shardOf d.id≠shard then { d with kind:=0 } else d
def askE (shardOf:Int→Int) (E:ES) (c:Call) (F:FS):FR :=
 if c.kind=2 then z3B F c.data E.now else
 if c.kind=3 then z3q F E.now else
 if c.kind=4 then z1a F c.data E.now else
 if c.kind=8 then z2p F c.tok.event c.tok.turn (zaO shardOf E.shard c.l) E.now else
 z2N F c.tok.event c.data (c.kind==10) E.now
def z16 (c:Call):Int:=if c.tok=tok0 then c.flow else c.tok.flow
def z1Z (E:ES) (c:Call):Bool :=
 (c.kind==8 || c.kind==10 || c.kind==11) && (match lk E.runs c.tok.flow with | none=>true | some r=>r.f.run != c.tok.run || (c.kind != 8 && c.tok.turn != 0))
def doE (shardOf:Int→Int) (E:ES) (c:Call):Ans × Option ES :=
 if c.kind=1 then z2n E c else
 if c.kind=7∨c.kind=9 then ((z3G E (c.kind==7) c.list).1,some (z3G E (c.kind==7) c.list).2) else
 if z1Z E c then (z0b 21,some E) else
 match lk E.runs (z16 c) with
 | none=>(z0b 2,some E)
 | some r =>
  if c.kind=5 then ({ ans0 with run:=r.f.run,status:=z0B r.f.l,data:=z4K r.f },some E) else
  if c.kind=6 then ({ ans0 with run:=r.f.run,events:=z15 r.f c.n },some E) else
  (z0b (z0k E (z16 c) (askE shardOf E c)).1,(z0k E (z16 c) (askE shardOf E c)).2)
def z18 (k:Int):Bool:=k==1 || k==2 || k==4 || k==3 || k==5 || k==6
def z19 (k:Int):Bool:=k==1 || k==7 || k==9
def hasN (k:Int):Bool:=k==1 || k==6
def z1J (k:Int):Bool:=k==8 || k==10 || k==11
def z17 (k:Int):Bool:=k==1 || k==2 || k==4 || k==10 || k==11
def hasL (k:Int):Bool:=k==8
def z2l (c:Call):Bool :=
 decide (1≤c.kind) && decide (c.kind≤11) && (z18 c.kind || c.flow==0) && (z19 c.kind || c.list==0) && (hasN c.kind || c.n==0) && (z1J c.kind || decide (c.tok=tok0)) && (z17 c.kind || c.data.isEmpty) && (hasL c.kind || c.l.isEmpty) &&
 numB c.flow && numB c.list && numB c.n && (c.kind != 1 || decide (1≤c.n)) && numB c.tok.flow && numB c.tok.run && numB c.tok.event && numB c.tok.turn &&
 decide (c.data.length≤4096) && decide (c.l.length≤32) && c.l.all fun d=>decide (d.data.length≤4096)
def z3f (shardOf listShard:Int→Int) (c:Call):Int:=if c.kind=7∨c.kind=9 then listShard c.list else if c.kind=8∨c.kind=10∨c.kind=11 then shardOf c.tok.flow else shardOf c.flow
def z1Q (shardOf:Int→Int) (E:ES) (c:Call):Int:=if z2l c=false∨(c.kind≠7∧c.kind≠9∧z3f shardOf shardOf c≠E.shard) then 1 else 0
def z13 (shardOf:Int→Int) (E:ES) (c:Call):Ans × ES :=
 if z1Q shardOf E c≠0 then (z0b (z1Q shardOf E c),E) else
 match doE shardOf E c with
 | (a,some E')=>(a,E')
 | (_,none)=>(z0b 4,E)
def z1M (E:ES) (i:It):Option ES :=
 match lk E.runs i.2.1 with
 | none=>some E
 | some r =>
  if r.f.run≠i.2.2.1 then some E else
  match z1F r.f i.2.2.2.2.2 i.2.2.2.1 i.2.2.2.2.1 i.1 with
  | (f,os,e)=>if e=0 then z2F { E with runs:=up E.runs i.2.1 { r with f:=f } } i.2.1 f.run i.1 os else if e=4 then none else some E
def z1t (end_:Int):Nat→ES→ES
 | 0,E=>E
 | n+1,E =>
  match E.due with
  | []=>E
  | i::r =>
   if end_<i.1 then E else
   match z1M { E with due:=r } i with
   | some E'=>z1t end_ n E'
   | none=>z1t end_ n { E with due:=addD r (end_+1,i.2) }
def e0 (shard groups:Int):ES:=⟨shard,groups,0,[],[],[],[]⟩
end Go.Proofs.YtniknicnnaiilaaGreat
end
section
namespace Go.Proofs.YtniknicnnaiilaaGreat
set_option maxRecDepth 100000
open Go.RowKit Go.Ext Go.BigFrame Go.Maps Go.MapKept
attribute [local go_sem] Ext.cell Ext.frozen Ext.lt Ext.le s1 s2 s3 s4 s5 s6 t1 t2 t3 t4 t5 t6
attribute [local go_sem ↓] Go.wp_at_zero Go.wp_at_succ
def Rel {α:Type} (R:α→Value→Prop):List (Int × α)→List (Int × Value)→Prop
 | [],[]=>True
 | x::xs,y::ys=>x.1=y.1∧R x.2 y.2∧Rel R xs ys
 | _,_=>False
section
variable {α:Type} {R R':α→Value→Prop}
theorem Rel.mono (h:∀ a v,R a v→R' a v):∀ {m:List (Int × α)} {kv:List (Int × Value)},Rel R m kv→Rel R' m kv
 | [],[],_=>trivial
 | _::_,_::_,k=>⟨k.1,h _ _ k.2.1,Rel.mono h k.2.2⟩
 | [],_::_,k=>k.elim
 | _::_,[],k=>k.elim
theorem Rel.lk (k:Int):∀ {m:List (Int × α)} {kv:List (Int × Value)},Rel R m kv→(Go.Ext.lk m k=none∧Go.Ext.lk kv k=none)∨∃ a v,Go.Ext.lk m k=some a∧Go.Ext.lk kv k=some v∧R a v
 | [],[],_=>.inl ⟨rfl,rfl⟩
 | x::xs,y::ys,h=>by
  obtain ⟨h1,h2,h3⟩:=h
  simp only [Go.Ext.lk,← h1]
  by_cases hx:x.1=k
  ·simp only [if_pos hx]
   exact .inr ⟨_,_,rfl,rfl,h2⟩
  ·simp only [if_neg hx]
   exact Rel.lk k h3
 | [],_::_,k=>k.elim
 | _::_,[],k=>k.elim
theorem Rel.up {k:Int} {a:α} {v:Value} (hv:R a v):∀ {m:List (Int × α)} {kv:List (Int × Value)},Rel R m kv→Rel R (Go.Ext.up m k a) (Go.Ext.up kv k v)
 | [],[],_=>⟨rfl,hv,trivial⟩
 | x::xs,y::ys,h=>by
  obtain ⟨h1,h2,h3⟩:=h
  simp only [Go.Ext.up,← h1]
  by_cases hx:x.1=k
  ·simp only [if_pos hx]
   exact ⟨rfl,hv,h3⟩
  ·simp only [if_neg hx]
   exact ⟨h1,h2,Rel.up hv h3⟩
 | [],_::_,k=>k.elim
 | _::_,[],k=>k.elim
theorem Rel.rm {k:Int}:∀ {m:List (Int × α)} {kv:List (Int × Value)},Rel R m kv→Rel R (Go.Ext.rm m k) (Go.Ext.rm kv k)
 | [],[],_=>trivial
 | x::xs,y::ys,h=>by
  obtain ⟨h1,h2,h3⟩:=h
  simp only [Go.Ext.rm,← h1]
  by_cases hx:x.1=k
  ·simp only [if_pos hx]
   exact h3
  ·simp only [if_neg hx]
   exact ⟨h1,h2,Rel.rm h3⟩
 | [],_::_,k=>k.elim
 | _::_,[],k=>k.elim
theorem Rel.len:∀ {m:List (Int × α)} {kv:List (Int × Value)},Rel R m kv→kv.length=m.length
 | [],[],_=>rfl
 | _::_,_::_,k=>by simp [Rel.len k.2.2]
 | [],_::_,k=>k.elim
 | _::_,[],k=>k.elim
end
def tkC (t:Task):List Value:=[.int .i64 t.flow,.int .i64 t.run,.int .i64 t.ref,.int .i64 t.turn]
def tkV (t:Task):Value:=.agg #[.int .i64 t.flow,.int .i64 t.run,.int .i64 t.ref,.int .i64 t.turn]
def tksC (l:List Task):List Value:=l.flatMap tkC
theorem z5c:∀ l:List Task,(tksC l).length=l.length * 4
 | []=>rfl
 | t::r=>by
  have:=z5c r
  simp only [tksC,List.flatMap_cons,List.length_append,List.length_cons] at this ⊢
  simp only [tkC,List.length_cons,List.length_nil]
  omega
theorem zaa (l:List Task):∀ u∈tksC l,u.oneCell'=true:=by
 intro u hu
 simp only [tksC,List.mem_flatMap,tkC] at hu
 obtain ⟨t,_,hu⟩:=hu
 simp only [List.mem_cons,List.not_mem_nil,or_false] at hu
 rcases hu with rfl | rfl | rfl | rfl<;>rfl
theorem zeg (l m:List Task):tksC (l++m)=tksC l++tksC m:=by simp [tksC]
def TsM (w:World) (M:Bl) (v:Value) (l:List Task):Prop:=∃ A c,v=.slice A l.length c∧l.length≤c∧RdM w M A (tksC l)∧(A=none→c=0)
section
variable {w w':World} {M M':Bl} {v:Value} {l:List Task}
theorem TsM.up (h:TsM w M v l) (u:Up M w M' w'):TsM w' M' v l:=by
 obtain ⟨A,c,e,hc,h2,h3⟩:=h
 exact ⟨A,c,e,hc,h2.up u,h3⟩
theorem TsM.nil (w:World) (M:Bl):TsM w M (.slice none 0 0) []:=⟨none,0,rfl,Nat.le_refl _,RdM.nil _ _ _,fun _=>rfl⟩
theorem TsM.first {A:Option Addr} {n c:Nat} {t:Task} {r:List Task} (h:TsM w M (.slice A n c) (t::r)):∃ b off,A=some ⟨b,off,none⟩∧b<w.heap.size∧¬ M b∧n=r.length+1∧n≤c ∧
  w.cell? ⟨b,off,none⟩=some (.int .i64 t.flow)∧w.cell? ⟨b,off+1,none⟩=some (.int .i64 t.run)∧w.cell? ⟨b,off+2,none⟩=some (.int .i64 t.ref)∧w.cell? ⟨b,off+3,none⟩=some (.int .i64 t.turn) ∧
  RdM w M (some ⟨b,off+4,none⟩) (tksC r):=by
 obtain ⟨A',c',e,hc,h2,_⟩:=h
 injection e with e1 e2 e3
 subst e1 e3
 obtain ⟨b,off,rfl,hM,hcell⟩:=h2 (by simp [tksC,tkC])
 have c0:=hcell 0 (.int .i64 t.flow) rfl
 have c1:=hcell 1 (.int .i64 t.run) rfl
 have c2:=hcell 2 (.int .i64 t.ref) rfl
 have c3:=hcell 3 (.int .i64 t.turn) rfl
 rw [Nat.add_zero] at c0
 refine ⟨b,off,rfl,World.block_lt_of_cell? w _ c0,hM,e2,by rw [e2];exact hc,c0,c1,c2,c3,fun _=>⟨b,off+4,rfl,hM,fun j u hu=>?_⟩⟩
 have:=hcell (j+4) u (by
  have e:tksC (t::r)=tkC t++tksC r:=rfl
  rw [e,List.getElem?_append_right (by simp [tkC])]
  simpa [tkC] using hu)
 rw [show off+4+j=off+(j+4) by omega]
 exact this
end
structure z1e (w:World) (M:Bl) (k mb:Nat) (m:Rows):Prop where
 cell:w.heap[k]?=some (.cells #[.int .i64 1024,.map (some mb)] 135 (0,0))
 map:∃ kv,MI w mb kv∧Rel (fun ts v=>TsM w M v ts) m kv
section
variable {w w':World} {M M':Bl} {k mb:Nat} {m:Rows}
theorem z1e.lt (h:z1e w M k mb m):k<w.heap.size∧mb<w.heap.size:=by
 obtain ⟨kv,h1,_⟩:=h.map
 exact ⟨block_lt h.cell,h1.lt⟩
theorem z1e.ne (h:z1e w M k mb m):k≠mb:=fun e=>by
 obtain ⟨kv,⟨es,c,h1,_⟩,_⟩:=h.map
 have:=h.cell
 rw [e,h1] at this
 cases this
theorem z1e.up (h:z1e w M k mb m) (u:Up M w M' w') (hk:w'.heap[k]?=w.heap[k]?) (hm:w'.heap[mb]?=w.heap[mb]?):z1e w' M' k mb m:=by
 obtain ⟨kv,h1,h2⟩:=h.map
 exact ⟨hk.trans h.cell,kv,h1.keep hm,h2.mono fun a v ht=>ht.up u⟩
theorem z1e.gr (h:z1e w M k mb m) (g:Gr w w'):z1e w' M k mb m:=h.up (Gr.up g M) (g.block _ h.lt.1) (g.block _ h.lt.2)
theorem z1e.c0 (h:z1e w M k mb m):w.cell? ⟨k,0,none⟩=some (.int .i64 1024):=by simp [World.cell?,h.cell]
theorem z1e.c1 (h:z1e w M k mb m):w.cell? ⟨k,1,none⟩=some (.map (some mb)):=by simp [World.cell?,h.cell]
theorem zdc (w:World):(zeroValue 198).run Tryz.prog w=.ok (.slice none 0 0) w:=by kernel_rfl
theorem z1e.look (h:z1e w M k mb m) (list:Int):∃ A c,(∀ W,Gr w W→(Instr.lookup 133 (.map (some mb)) (.int .i64 list) false).run Tryz.prog W=.ok (.slice A (rowOf m list).length c) W)∧TsM w M (.slice A (rowOf m list).length c) (rowOf m list):=by
 obtain ⟨kv,h1,h2⟩:=h.map
 have hrun:=fun W (g:Gr w W)=>(h1.gr g).lookup (P:=Tryz.prog) Tryz.underlying133 Tryz.underlying3 (zdc W) list false
 unfold rowOf
 rcases h2.lk list with ⟨e1,e2⟩ | ⟨ts,v,e1,e2,ht⟩
 ·rw [e2] at hrun
  rw [e1]
  exact ⟨none,0,hrun,TsM.nil _ _⟩
 ·rw [e2] at hrun
  rw [e1]
  obtain ⟨A,c,rfl,r⟩:=id ht
  exact ⟨A,c,hrun,ht⟩
end
theorem zdR (k mb:Nat) (m:Rows) (list:Int) (M:Bl) (w:World) (h:z1e w M k mb m):Calls Tryz.prog 202 #[.pointer (some ⟨k,0,none⟩),.int .i64 list] w (RetE (.int .i64 (rowOf m list).length) w):=by
 obtain ⟨A,c,hlk',ht⟩:=h.look list
 have hlk:=hlk' w (Gr.refl w)
 have c1:=h.c1
 have hk:=h.lt.1
 clear h ht
 refine z31 ?_
 go_enter Tryz.func202,Tryz.ntmps202
 go_wp2_with fail
 go_ret
 exact ⟨rfl,rfl⟩
theorem zbQ (k mb:Nat) (m:Rows) (list:Int) (M:Bl) (w:World) (h:z1e w M k mb m):Calls Tryz.prog 188 #[.pointer (some ⟨k,0,none⟩),.int .i64 list] w (RetE (.bool (decide (1024≤(rowOf m list).length))) w):=by
 have HL:=hid (fun W (y:Gr w W)=>zdR k mb m list M W (h.gr y))
 have c0:=h.c0
 have hk:=h.lt.1
 clear h
 refine retE ?_
 generalize (rowOf m list).length=n at *
 have hn:decide (1024≤n)=decide ((1024:Int)≤(n:Int)):=decide_eq_decide.2 (by omega)
 rw [hn]
 go_enter Tryz.func188,Tryz.ntmps188
 go_wp2_with fail
 refine z0a (by kernel_rfl) (by kernel_rfl) ?_
 repeat (go_big_quiet_step (first | (go_at_call 202;exact z1u _ (HL.o _ (Ext.gr _)))))
 refine wpQuiet_nil ?_
 rintro _ ⟨x,rfl⟩
 go_wp2_with fail
 go_ret
 exact ⟨rfl,x.gr⟩
def RetL (M:Bl) (k mb:Nat) (m':Rows) (r:Value) (w:World) (e:Ending) (w':World):Prop:=e=.returned r∧z1e w' M k mb m'∧Mod (fun b=>b=mb) w w'
theorem za6 (k mb:Nat) (m:Rows) (list:Int) (v:Value) (ts:List Task) (M:Bl) (w:World) (h:z1e w M k mb m) (hmb:M mb) (hv:TsM w M v ts) :
  Calls Tryz.prog 140 #[.pointer (some ⟨k,0,none⟩),.int .i64 list,v] w (RetL M k mb (setR m list ts) (.tuple #[]) w):=by
 have H:=hid h
 have HV:=hid hv
 obtain ⟨A,c,rfl,hlc,_⟩:=hv
 obtain ⟨kv,hmi,hrel⟩:=h.map
 have HREL:=hid hrel
 have c1:=h.c1
 have hk:=h.lt.1
 unfold setR
 rcases ts with _ | ⟨t,r⟩
 ·obtain ⟨w',hrun,r1,r2⟩:=hmi.delete (P:=Tryz.prog) Tryz.underlying133 Tryz.underlying3 list 0 3
  simp only [List.isEmpty_nil,if_true]
  have R1:=hid r1
  have R2:=hid r2
  clear h hmi hrel r1 r2
  go_enter Tryz.func140,Tryz.ntmps140
  go_wp2_with fail
  (first | go_end0 | ((try simp only [Exit.inBlock,Exit.then]);refine bodyPost_ret (results_none rfl _ _ _) rfl ?_))
  exact ⟨rfl,⟨(R2.o.block k hk (H.o.ne)).trans H.o.cell,_,R1.o,(HREL.o.mono fun a v ht=>ht.up (Mod.up R2.o (fun b _ e=>e▸hmb))).rm⟩,R2.o⟩
 ·obtain ⟨w',hrun,r1,r2⟩:=hmi.update (P:=Tryz.prog) Tryz.underlying133 Tryz.underlying3 list (.slice A (t::r).length c)
  simp only [List.isEmpty_cons,Bool.false_eq_true,if_false]
  have R1:=hid r1
  have R2:=hid r2
  have HLEN:=hid (show (t::r).length=r.length+1 from rfl)
  have hz:¬ ((r.length+1:Nat):Int)=0:=by omega
  clear h hmi hrel r1 r2
  rw [HLEN.o] at hrun ⊢
  generalize r.length=n at hrun hz ⊢
  go_enter Tryz.func140,Tryz.ntmps140
  go_wp2_with fail
  (first | go_end0 | ((try simp only [Exit.inBlock,Exit.then]);refine bodyPost_ret (results_none rfl _ _ _) rfl ?_))
  have U:=Mod.up (M:=M) R2.o (fun b _ e=>e▸hmb)
  exact ⟨rfl,⟨(R2.o.block k hk (H.o.ne)).trans H.o.cell,_,R1.o,(HREL.o.mono fun a v ht=>ht.up U).up (HV.o.up U)⟩,R2.o⟩
end Go.Proofs.YtniknicnnaiilaaGreat
end
section
namespace Go.Proofs.YtniknicnnaiilaaGreat
set_option maxRecDepth 100000
open Go.RowKit Go.Ext Go.BigFrame
attribute [local go_sem] Ext.cell Ext.frozen Ext.lt Ext.le s1 s2 s3 s4 s5 s6 t1 t2 t3 t4 t5 t6
attribute [local go_sem ↓] Go.wp_at_zero Go.wp_at_succ
def z8K (L:List It) (flow run:Int):List It:=z4u (gone flow run) L
set_option maxHeartbeats 1000000 in
theorem z9A (base g:Nat) (v:Value) (L:List It) (flow run:Int) (w:World) (h:HB base w g v L) (hl:L.length≤1000000) :
    Calls Tryz.prog 161 #[.pointer (some ⟨g,0,none⟩),.int .i64 flow,.int .i64 run] w (RetH base g v (z8K L flow run) (.int .i64 ((L.length:Int)-(z8K L flow run).length)) w):=by
  obtain ⟨A,cp,rfl⟩:=h.shape
  have H:=hid h
  have c0:=h.c0
  have hlt:=h.lt
  have hol:=fun k e=>(h.row.lt k e).2
  have hKl:(z8K L flow run).length≤L.length:=List.length_filter_le _ _
  have HD:=hid (show z8K L flow run=z4u (gone flow run) L from rfl)
  generalize z8K L flow run=K at *
  clear h
  go_enter Tryz.func161,Tryz.ntmps161
  go_wp2_with (go_at_call 190
               refine (zbp base flow run (.slice A L.length cp) L w.heap.size (w.heap.size+1) _ (H.o.gr (((Gr.refl w).alloc (.cells #[.int .i64 flow] 3)).alloc (.cells #[.int .i64 run] 3))).row hl (by go_simp) (by go_simp) (fun e=>by have:=hol _ e;omega) (fun e=>by have:=hol _ e;omega)).mono ?_
               rintro e w2 ⟨v2,rfl,hr2,hm2,hw2⟩
               rw [← HD.o] at hr2
               have HR2:=hid hr2
               have HM2:=hid hm2
               have HW2:=hid hw2
               clear hr2 hm2 hw2
               have HC2:=hid (show w2.heap[g]?=some (.cells #[.slice A L.length cp] 132 (0,0)) from (HM2.o.block g (by simp;omega) H.o.ne).trans (H.o.gr (((Gr.refl w).alloc (.cells #[.int .i64 flow] 3)).alloc (.cells #[.int .i64 run] 3))).cell)
               have k0:w2.cell? ⟨g,0,none⟩=some (.slice A L.length cp):=by simp [World.cell?,HC2.o]
               have f0:w2.frozen? ⟨g,0,none⟩=false:=by simp [World.frozen?,HC2.o]
               have hsh:∃ A2 c2,v2=.slice A2 K.length c2:=by
                 rcases HR2.o.2 with ⟨rfl,h0⟩ | ⟨g',cap,cur,rfl,_⟩
                 · exact ⟨none,0,by rw [h0]⟩
                 · exact ⟨_,_,rfl⟩
               obtain ⟨A2,c2,rfl⟩:=hsh)
  go_ret
  refine ⟨_,rfl,HB.set H.o.lo HC2.o HR2.o,?_,?_⟩
  · have M:=(((((Gr.refl w).alloc (.cells #[.int .i64 flow] 3)).alloc (.cells #[.int .i64 run] 3)).mod (fun k=>k=g∨some k=(Value.slice A L.length cp).ownBlock)).trans HM2.o (fun _ _ h=>.inr h))
    exact M.set (fun _=>.inl rfl) _
  · rcases HW2.o with h | ⟨k,h1,h2⟩
    · exact .inl h
    · refine .inr ⟨k,h1,?_⟩
      simp at h2
      omega
def Its (w:World) (v:Value) (L:List It):Prop:=∃ A c,v=.slice A L.length c∧Row w A L∧(A=none→c=0)
end Go.Proofs.YtniknicnnaiilaaGreat
end
section
namespace Go.Proofs.YtniknicnnaiilaaGreat
set_option maxRecDepth 100000
open Go.RowKit Go.Ext Go.BigFrame Go.Maps Go.MapKept
attribute [local go_sem] Ext.cell Ext.frozen Ext.lt Ext.le s1 s2 s3 s4 s5 s6 t1 t2 t3 t4 t5 t6
attribute [local go_sem ↓] Go.wp_at_zero Go.wp_at_succ
set_option maxHeartbeats 1000000 in
theorem zas (v:Value) (l:List Task) (M:Bl) (w:World) (h:TsM w M v l) (hl:l.length≤100000) (hM:∀ b,M b→b<w.heap.size) :
  Calls Tryz.prog 129 #[v] w (fun e w'=>∃ v',e=.returned v'∧Gr w w'∧TsM w' M v' l):=by
 obtain ⟨A,c,rfl,hc,hr,hn⟩:=h
 obtain ⟨i0,hi0,hz0,hz1,hz2⟩:=info_parts zci
 have he:=fun (w:World) (n c n' c':Nat) (a:Option Addr)=>Lib.run_eql_slice_nil (P:=Tryz.prog) w 198 84 a n c n' c' Tryz.underlying198
 rcases A with _ | ad
 ·have hL:l=[]:=by
   have:=hn rfl
   exact List.eq_nil_of_length_eq_zero (by omega)
  subst hL
  have hc0:=hn rfl
  subst hc0
  go_enter Tryz.func129,Tryz.ntmps129
  go_wp2_with fail
  go_ret
  exact ⟨_,rfl,Gr.refl w,TsM.nil _ _⟩
 ·have hr1:=hid (hr.rd.gr ((Gr.refl w).alloc (.cells #[] 84)))
  have HM:=hid hM
  clear hr hn hM
  go_enter Tryz.func129,Tryz.ntmps129
  go_wp2_with (at_builtin;refine wpList_append_own _ rfl _ _ 198 rfl w.heap.size 84 i0 _ 4 32 Tryz.underlying198 hi0 hz0 hz1 hz2 rfl (by decide) (.slice (some ⟨w.heap.size,0,none⟩) 0 0) 0 [] rfl (World.ownsRow_made w #[] 0 (Nat.le_refl _) (by decide) rfl) ad l.length c (tksC l) rfl (z5c l) hr1.o.add (zaa l) (by unfold maxLen;omega) (by omega) (by simp) ?_;intro v1 w1 hown1 hg1 _)
  go_ret
  have hgr:Gr w w1:=z39 ((Gr.refl w).alloc _) hg1 (by intro k hk;simp [Value.ownBlock] at hk;omega)
  have ho:w1.ownsRow w.heap.size 84 4 v1 l.length (tksC l):=by simpa using hown1
  refine ⟨v1,rfl,hgr,?_⟩
  rcases id ho.2 with ⟨rfl,h0⟩ | ⟨g,cap,cur,rfl,hb,_,hnc,_⟩
  ·have:l=[]:=List.eq_nil_of_length_eq_zero h0
   subst this
   exact TsM.nil _ _
  ·exact ⟨_,_,rfl,hnc,Rd.m (Rd.of_own ho) (by
    rintro b off e _ hb2
    injection e with e
    injection e with e1
    subst e1
    have:=HM.o _ hb2
    omega),fun e=>by cases e⟩
def tk0:Task:=⟨0,0,0,0⟩
theorem z3T (k mb:Nat) (m:Rows) (list:Int) (M:Bl) (w:World) (h:z1e w M k mb m):Calls Tryz.prog 101 #[.pointer (some ⟨k,0,none⟩),.int .i64 list] w
  (RetE (.tuple #[tkV ((rowOf m list).headD tk0),.bool (!(rowOf m list).isEmpty)]) w):=by
 obtain ⟨A,c,hlk',ht⟩:=h.look list
 have HLK:=hid (fun W (y:Gr w W)=>hlk' W y)
 have c1:=h.c1
 have hk:=h.lt.1
 clear h hlk'
 refine retE ?_
 rcases hrow:rowOf m list with _ | ⟨t,r⟩
 ·rw [hrow] at HLK
  have hlk:=HLK.o _ ((Gr.refl w).alloc (.cells #[.int .i64 0,.int .i64 0,.int .i64 0,.int .i64 0] 84))
  clear hrow ht
  simp only [List.headD,List.isEmpty_nil,Bool.not_true,tk0,tkV,List.length_nil] at *
  go_enter Tryz.func101,Tryz.ntmps101
  go_wp2_with fail
  go_loopw [16] (fun iv wr=>iv=.int .i64 0∧wr=w.alloc (.cells #[.int .i64 0,.int .i64 0,.int .i64 0,.int .i64 0] 84)) (fun _ _=>0)
  case atStart=>exact ⟨rfl,rfl⟩
  case round =>
   obtain ⟨rfl,rfl⟩:=hrel
   go_wp2_with fail
   refine bodyPost_ret (v:=.tuple #[.agg #[.int .i64 0,.int .i64 0,.int .i64 0,.int .i64 0],.bool false]) (by simp [results,Tryz.results101,go_sem]) rfl ⟨rfl,?_⟩
   repeat (first | exact Gr.refl _ | refine Gr.alloc ?_ _ | refine Gr.set ?_ (by simp) _)
 ·rw [hrow] at HLK ht
  have hlk:=HLK.o _ ((Gr.refl w).alloc (.cells #[.int .i64 0,.int .i64 0,.int .i64 0,.int .i64 0] 84))
  obtain ⟨b,off,rfl,hb,_,hn,hnc,d0,d1,d2,d3,_⟩:=ht.first
  clear hrow ht
  have hnz:(0:Int)<((t::r).length:Int):=by omega
  rcases t with ⟨t0,t1,t2,t3⟩
  simp only [List.headD,List.isEmpty_cons,Bool.not_false,tkV] at *
  generalize (Task.mk t0 t1 t2 t3::r).length=n at *
  go_enter Tryz.func101,Tryz.ntmps101
  go_wp2_with fail
  go_loopw [16] (fun iv wr=>iv=.int .i64 0∧wr=w.alloc (.cells #[.int .i64 0,.int .i64 0,.int .i64 0,.int .i64 0] 84)) (fun _ _=>0)
  case atStart=>exact ⟨rfl,rfl⟩
  case round =>
   obtain ⟨rfl,rfl⟩:=hrel
   go_wp2_with fail
   refine bodyPost_ret (v:=.tuple #[.agg #[.int .i64 t0,.int .i64 t1,.int .i64 t2,.int .i64 t3],.bool true]) (by simp [results,Tryz.results101,go_sem]) rfl ⟨rfl,?_⟩
   repeat (first | exact Gr.refl _ | refine Gr.alloc ?_ _ | refine Gr.set ?_ (by simp) _)
theorem mod4 (w:World) (B:Nat) (u0 u1 u2 u3:Value):Mod (fun k=>k=B) w ((((w.setCell ⟨B,0,none⟩ u0).setCell ⟨B,1,none⟩ u1).setCell ⟨B,2,none⟩ u2).setCell ⟨B,3,none⟩ u3) :=
 ((((((Gr.refl w).mod (fun k=>k=B)).set (p:=⟨B,0,none⟩) (fun _=>rfl) u0).set (p:=⟨B,1,none⟩) (fun _=>rfl) u1).set (p:=⟨B,2,none⟩) (fun _=>rfl) u2).set (p:=⟨B,3,none⟩) (fun _=>rfl) u3)
theorem up_new {M:Bl} {w W:World} (g:Gr w W):Up M w (fun b=>M b∨b=w.heap.size) W:=⟨g.mod M,fun b hb h=>by
 rcases h with h | h
 ·exact h
 ·omega⟩
theorem zfL {M M':Bl} (w:World) (h:∀ b,M b→M' b):Up M' w M w:=⟨(Gr.refl w).mod _,fun b _ e=>h b e⟩
theorem z1e.upg {w W:World} {M M':Bl} {k mb:Nat} {m:Rows} (h:z1e w M k mb m) (g:Gr w W) (hM:∀ b,b<w.heap.size→M' b→M b):z1e W M' k mb m:=h.up ⟨g.mod M,hM⟩ (g.block _ h.lt.1) (g.block _ h.lt.2)
theorem zec {m:Rows} {list:Int} {t:Task} {r:List Task} (h:rowOf m list=t::r):popR m list=setR m list r:=by
 unfold popR
 rw [h]
set_option maxHeartbeats 1000000 in
theorem z43 (k mb:Nat) (m:Rows) (list:Int) (M:Bl) (w:World) (h:z1e w M k mb m) (hmb:M mb) (hM:∀ b,M b→b<w.heap.size) (hl:(rowOf m list).length≤100000):Calls Tryz.prog 104 #[.pointer (some ⟨k,0,none⟩),.int .i64 list] w
    (RetL M k mb (popR m list) (.tuple #[tkV ((rowOf m list).headD tk0),.bool (!(rowOf m list).isEmpty)]) w):=by
  have H:=hid h
  have HP:=hid (fun W (y:Gr w W)=>z3T k mb m list M W (h.gr y))
  obtain ⟨A,c,hlk',ht⟩:=h.look list
  have HLK:=hid hlk'
  have HM:=hid hM
  have HMB:=hid hmb
  have c1:=h.c1
  have hk:=h.lt.1
  clear h hlk' hM hmb
  rcases hrow:rowOf m list with _ | ⟨t,r⟩
  · have HE:=hid (show popR m list=m by unfold popR;rw [hrow])
    rw [HE.o]
    rw [hrow] at HP
    simp only [List.headD,List.isEmpty_nil,Bool.not_true,tk0,tkV] at *
    clear HLK ht hrow
    go_enter Tryz.func104,Tryz.ntmps104
    go_wp2_with (go_at_call 101;(with_reducible refine (HP.o _ ((Gr.refl w).alloc _)).mono ?_);rintro en _ ⟨rfl,y1,rfl⟩)
    have g1:=hid (((Gr.refl w).alloc (.cells #[.int .i64 0,.int .i64 0,.int .i64 0,.int .i64 0] 84)).ext y1)
    refine bodyPost_ret (v:=.tuple #[.agg #[.int .i64 0,.int .i64 0,.int .i64 0,.int .i64 0],.bool false]) (by simp [results,Tryz.results104,go_sem]) rfl ⟨rfl,?_⟩
    refine (fun G:Gr w _=>⟨H.o.gr G,G.mod _⟩) ?_
    repeat (first | exact g1.o | refine Gr.alloc ?_ _ | refine Gr.set ?_ (by simp) _)
  · rw [zec hrow]
    rw [hrow] at HP HLK ht hl
    have hnz:(1:Int)≤((t::r).length:Int):=by simp only [List.length_cons];omega
    have HLEN:=hid (show ((t::r).length:Int)-1=((r.length:Nat):Int) by simp only [List.length_cons];omega)
    obtain ⟨b,off,rfl,hb,hMb,hn,hnc,_,_,_,_,hrd⟩:=ht.first
    have HRD:=hid hrd
    clear hrow ht hrd
    rcases t with ⟨t0,t1,t2,t3⟩
    simp only [List.headD,List.isEmpty_cons,Bool.not_false,tkV] at *
    have hl2:r.length≤100000:=by simp only [List.length_cons] at hl;omega
    have hc2:r.length+1≤c:=by omega
    generalize (Task.mk t0 t1 t2 t3::r).length=n at *
    go_enter Tryz.func104,Tryz.ntmps104
    go_upto_region 3 with (go_at_call 101;(with_reducible refine (HP.o _ ((Gr.refl w).alloc _)).mono ?_);rintro en _ ⟨rfl,y1,rfl⟩)
    have G3:=hid ((((Gr.refl w).alloc (.cells #[.int .i64 0,.int .i64 0,.int .i64 0,.int .i64 0] 84)).ext y1).alloc (.cells #[.int .i64 t0,.int .i64 t1,.int .i64 t2,.int .i64 t3] 84))
    have HN3:=hid (heap_alloc_new y1.val (.cells #[.int .i64 t0,.int .i64 t1,.int .i64 t2,.int .i64 t3] 84))
    have HR3:=hid (show (y1.val.alloc (.cells #[.int .i64 t0,.int .i64 t1,.int .i64 t2,.int .i64 t3] 84)).heap[w.heap.size]?=some (.cells #[.int .i64 0,.int .i64 0,.int .i64 0,.int .i64 0] 84 (0,0)) from
      (((Gr.refl _).ext y1).alloc _ |>.block _ (by simp)).trans (heap_alloc_new w _))
    obtain ⟨B3,hB3⟩:∃ B3,y1.val.heap.size=B3:=⟨_,rfl⟩
    have hBB:w.heap.size<B3:=hB3▸y1.lt_alloc
    obtain ⟨W3,hW3⟩:∃ W3,y1.val.alloc (.cells #[.int .i64 t0,.int .i64 t1,.int .i64 t2,.int .i64 t3] 84)=W3:=⟨_,rfl⟩
    rw [hW3] at G3 HN3 HR3 ⊢
    rw [hB3] at HN3 ⊢
    clear hW3 hB3 HP
    have hlk:=HLK.o W3 G3.o
    have d1:W3.cell? ⟨k,1,none⟩=some (.map (some mb)):=(G3.o.cell (p:=⟨k,1,none⟩) hk).trans c1
    have hk3:k<W3.heap.size:=Nat.lt_of_lt_of_le hk G3.o.size
    obtain ⟨A',hA'⟩:∃ A':Option Addr,(if c=1 then some (⟨b,off,none⟩:Addr) else some ⟨b,off+4,none⟩)=A':=⟨_,rfl⟩
    have HM3:=hid (show ∀ b,(M b∨b=w.heap.size)→b<W3.heap.size from fun b e=>by
      rcases e with e | e
      · exact Nat.lt_of_lt_of_le (HM.o b e) G3.o.size
      · rw [e];exact block_lt HR3.o)
    have HT3:=hid (show TsM W3 (fun b=>M b∨b=w.heap.size) (.slice A' r.length (c-1)) r from by
      refine ⟨A',c-1,rfl,by omega,?_,?_⟩
      · by_cases h1:c=1
        · have:r=[]:=List.eq_nil_of_length_eq_zero (by omega)
          subst this
          exact RdM.nil _ _ _
        · rw [if_neg h1] at hA'
          rw [← hA']
          exact HRD.o.up (up_new G3.o)
      · intro e
        rw [e] at hA'
        split at hA'<;>cases hA')
    go_wp2_with (first
      | (go_at_call 129
         refine (zas _ r _ W3 HT3.o hl2 HM3.o).mono ?_
         rintro en w4 ⟨v4,rfl,g4,ht4⟩
         have G4:=hid g4
         have HS:=hid (za6 k mb m list v4 r _ w4 (H.o.upg (G3.o.trans g4) (up_new G3.o).old) (.inl HMB.o) ht4)
         clear ht4 g4)
      | (go_at_call 140
         refine HS.o.mono ?_
         rintro en w5 ⟨rfl,hl5,hm5⟩
         have HL5:=hid hl5
         have HM5:=hid (((G3.o.trans G4.o).mod (fun b=>b=mb)).trans hm5 (fun _ _ e=>e))
         have hmlt:=H.o.lt.2
         have e1:w5.heap[B3]?=some (.cells #[.int .i64 t0,.int .i64 t1,.int .i64 t2,.int .i64 t3] 84 (0,0)):=(hm5.block B3 (Nat.lt_of_lt_of_le (block_lt HN3.o) G4.o.size) (by show ¬ B3=mb;omega)).trans ((G4.o.block _ (block_lt HN3.o)).trans HN3.o)
         have e2:w5.heap[w.heap.size]?=some (.cells #[.int .i64 0,.int .i64 0,.int .i64 0,.int .i64 0] 84 (0,0)):=(hm5.block _ (Nat.lt_of_lt_of_le (block_lt HR3.o) G4.o.size) (by show ¬ w.heap.size=mb;omega)).trans ((G4.o.block _ (block_lt HR3.o)).trans HR3.o)
         have E2:=hid e2
         obtain ⟨p0,p1,p2,p3⟩:w5.cell? ⟨B3,0,none⟩=some (.int .i64 t0)∧w5.cell? ⟨B3,1,none⟩=some (.int .i64 t1)∧w5.cell? ⟨B3,2,none⟩=some (.int .i64 t2)∧w5.cell? ⟨B3,3,none⟩=some (.int .i64 t3):=by
           refine ⟨?_,?_,?_,?_⟩<;>simp [World.cell?,e1]
         obtain ⟨q0,q1,q2,q3⟩:w5.cell? ⟨w.heap.size,0,none⟩=some (.int .i64 0)∧w5.cell? ⟨w.heap.size,1,none⟩=some (.int .i64 0)∧w5.cell? ⟨w.heap.size,2,none⟩=some (.int .i64 0)∧w5.cell? ⟨w.heap.size,3,none⟩=some (.int .i64 0):=by
           refine ⟨?_,?_,?_,?_⟩<;>simp [World.cell?,e2]
         have hl5':w.heap.size<w5.heap.size:=block_lt e2
         have hl6':B3<w5.heap.size:=block_lt e1
         have z0:w5.frozen? ⟨w.heap.size,0,none⟩=false:=z00 e2
         have z1:w5.frozen? ⟨w.heap.size,1,none⟩=false:=z00 e2
         have z2:w5.frozen? ⟨w.heap.size,2,none⟩=false:=z00 e2
         have z3:w5.frozen? ⟨w.heap.size,3,none⟩=false:=z00 e2
         clear hl5 hm5 e1 e2))
    refine bodyPost_ret (v:=.tuple #[.agg #[.int .i64 t0,.int .i64 t1,.int .i64 t2,.int .i64 t3],.bool true]) (by simp [results,Tryz.results104,go_sem,q0,q1,q2,q3]) rfl ⟨rfl,?_⟩
    have hwl:=H.o.lt
    have m4:=mod4 w5 w.heap.size (.int .i64 t0) (.int .i64 t1) (.int .i64 t2) (.int .i64 t3)
    have hk5:=HL5.o.lt
    refine ⟨(HL5.o.up (Mod.up m4 (fun b _ e=>.inr e)) (m4.block k hk5.1 (by show ¬ k=w.heap.size;omega)) (m4.block mb hk5.2 (by show ¬ mb=w.heap.size;omega))).up (zfL _ (fun b e=>.inl e)) rfl rfl,?_⟩
    exact HM5.o.trans m4 (fun b hb e=>by omega)
set_option maxHeartbeats 1000000 in
theorem zao (v:Value) (l:List Dec) (M:Bl) (w:World) (h:z08 decR w M v l) (hl:l.length≤100000) (hM:∀ b,M b→b<w.heap.size) :
  Calls Tryz.prog 153 #[v] w (fun e w'=>∃ v',e=.returned v'∧Gr w w'∧z08 decR w' M v' l):=by
 obtain ⟨A,c,ds,rfl,hc,hdat,hr,hn⟩:=h
 obtain ⟨i0,hi0,hz0,hz1,hz2⟩:=info_parts zgr
 have he:=fun (w:World) (n c n' c':Nat) (a:Option Addr)=>Lib.run_eql_slice_nil (P:=Tryz.prog) w 33 39 a n c n' c' Tryz.underlying33
 rcases A with _ | ad
 ·have hc0:=hn rfl
  subst hc0
  have hL:l=[]:=List.eq_nil_of_length_eq_zero (by omega)
  subst hL
  go_enter Tryz.func153,Tryz.ntmps153
  go_wp2_with fail
  go_ret
  exact ⟨_,rfl,Gr.refl w,z08.none _ _ _⟩
 ·have hr1:=hid (hr.rd.gr ((Gr.refl w).alloc (.cells #[] 39)))
  have HM:=hid hM
  have HD:=hid hdat
  have hlen:(rowC (l.map decR) ds).length=l.length * 5:=by
   rw [z5b (m:=4) _ _ (fun x hx=>by obtain ⟨y,_,rfl⟩:=List.mem_map.1 hx;rfl) (by have:=hdat.len;simpa using this)]
   simp
  have hone:=za4 (l.map decR) ds hdat.one
  have HLEN:=hid hlen
  have HONE:=hid hone
  clear hr hn hM hdat hlen hone
  go_enter Tryz.func153,Tryz.ntmps153
  go_wp2_with (at_builtin;refine wpList_append_own _ rfl _ _ 33 rfl w.heap.size 39 i0 _ 5 56 Tryz.underlying33 hi0 hz0 hz1 hz2 rfl (by decide) (.slice (some ⟨w.heap.size,0,none⟩) 0 0) 0 [] rfl (World.ownsRow_made w #[] 0 (Nat.le_refl _) (by decide) rfl) ad l.length c (rowC (l.map decR) ds) rfl HLEN.o hr1.o.add HONE.o (by unfold maxLen;omega) (by omega) (by simp) ?_;intro v1 w1 hown1 hg1 _)
  go_ret
  have hgr:Gr w w1:=z39 ((Gr.refl w).alloc _) hg1 (by intro k hk;simp [Value.ownBlock] at hk;omega)
  have ho:w1.ownsRow w.heap.size 39 5 v1 l.length (rowC (l.map decR) ds):=by simpa using hown1
  refine ⟨v1,rfl,hgr,?_⟩
  rcases id ho.2 with ⟨rfl,h0⟩ | ⟨g,cap,cur,rfl,hb,_,hnc,_⟩
  ·have:l=[]:=List.eq_nil_of_length_eq_zero h0
   subst this
   exact z08.none _ _ _
  ·exact ⟨_,_,ds,rfl,hnc,HD.o.up (Gr.up hgr M),Rd.m (Rd.of_own ho) (by
    rintro b off e _ hb2
    injection e with e
    injection e with e1
    subst e1
    have:=HM.o _ hb2
    omega),fun e=>by cases e⟩
theorem z4N (id:Int):z09 1 id=0:=by
 obtain ⟨h1,h2,h3⟩:=z8m (g:=1) id (by omega)
 omega
set_option maxHeartbeats 2000000 in
theorem zdW (k kd ka mr kh:Nat) (now:Int) (v:Value) (l:List Dec) (M:Bl) (w:World) (hk:w.heap[k]?=some (.cells #[.pointer (some ⟨kd,0,none⟩),.pointer (some ⟨ka,0,none⟩),.int .i64 0,.int .i64 1,.int .i64 now,.map (some mr),.pointer (some ⟨kh,0,none⟩)] 79 (0,0)))
  (h:z08 decR w M v l) (hl:l.length≤100000) (hM:∀ b,M b→b<w.heap.size) :
  Calls Tryz.prog 110 #[.pointer (some ⟨k,0,none⟩),v] w (fun e w'=>∃ v',e=.returned v'∧Gr w w'∧z08 decR w' M v' l):=by
 have HCL:=hid (zao v l M w h hl hM)
 obtain ⟨A,c,rfl,hlc⟩:=h.shape
 have HK:=hid hk
 have HLL:=hid hl
 have hsh:=hid (fun (id:Int) (W:World)=>z8n id 1 W (by omega))
 simp only [z4N] at hsh
 clear h hk
 go_enter Tryz.func110,Tryz.ntmps110
 go_wp2_with (go_at_call 153;refine HCL.o.mono ?_;rintro en w1 ⟨v1,rfl,g1,hr1⟩;have HR:=hid hr1;have G1:=hid g1;obtain ⟨A1,c1,rfl,hlc1⟩:=hr1.shape;clear hr1 g1)
 go_loopw [12] (fun iv wr=>∃ i:Nat,iv=.int .i64 i∧i≤l.length∧Gr w1 wr) (fun iv _=>l.length-(intOf iv).toNat)
 case atStart=>exact ⟨0,rfl,Nat.zero_le _,Gr.refl w1⟩
 case round =>
  obtain ⟨i,rfl,hi,hgr⟩:=hrel
  have HG:=hid hgr
  clear hgr
  by_cases hlt:i<l.length
  ·have hget:l[i]?=some l[i]:=List.getElem?_eq_getElem hlt
   obtain ⟨b,off,A',c',rfl,hb,hMb,hdat,c0,c1_,c2,c3,c4⟩:=z6g (HR.o.up (Gr.up HG.o M)) hget
   generalize l[i]=o at *
   clear hdat hget
   rcases o with ⟨dk,di,dl,dn,dd⟩
   simp only at c0 c1_ c2 c3 c4
   generalize dd.length=dlen at *
   have hlz:(i:Int)<(l.length:Int):=by omega
   have hLL:(l.length:Int)≤100000:=by have:=HLL.o;omega
   go_upto_region 5 with fail
   have HB4:=hid (heap_alloc_new wr (.cells #[.int .i64 dk,.int .i64 di,.int .i64 dl,.int .i64 dn,.slice A' dlen c'] 39))
   have G4:=hid ((Gr.refl wr).alloc (.cells #[.int .i64 dk,.int .i64 di,.int .i64 dl,.int .i64 dn,.slice A' dlen c'] 39))
   obtain ⟨w4,hw4⟩:∃ w4,wr.alloc (.cells #[.int .i64 dk,.int .i64 di,.int .i64 dl,.int .i64 dn,.slice A' dlen c'] 39)=w4:=⟨_,rfl⟩
   obtain ⟨B4,hb4⟩:∃ B4,wr.heap.size=B4:=⟨_,rfl⟩
   rw [hw4] at HB4 G4 ⊢
   rw [hb4] at HB4 ⊢
   clear hw4 hb4
   obtain ⟨x0,x1,x2,x3,x4⟩:=cells5 HB4.o
   have hbl:=block_lt HB4.o
   have HK4:=hid (((G1.o.trans HG.o).trans G4.o).block k (block_lt HK.o) |>.trans HK.o)
   have y1:w4.cell? ⟨k,1,none⟩=some (.pointer (some ⟨ka,0,none⟩)):=by simp [World.cell?,HK4.o]
   have y2:w4.cell? ⟨k,2,none⟩=some (.int .i64 0):=by simp [World.cell?,HK4.o]
   have y3:w4.cell? ⟨k,3,none⟩=some (.int .i64 1):=by simp [World.cell?,HK4.o]
   have hkl:=block_lt HK4.o
   by_cases h4:dk=4
   ·subst h4
    refine z0w [(0,false),(1,false),(2,false),(3,false),(4,false),(5,false),(6,false),(7,false),(8,false),(9,false),(11,false),(12,false),(13,false),(14,false),(10,true),(15,false),(16,false)] (fun W=>Gr w4 W) (by kernel_rfl) (by kernel_rfl) (fun _ _ d _ _ h=>by cases d<;>exact h) (Gr.refl w4).drew (fun _=>?_)
    iterate 14 (first | (refine z0A (v:=?_) rfl (by rfl) ?_ ?_;rotate_left;(focus (intro W9 hW9;obtain ⟨x9,rfl⟩:∃ x:Ext w4,W9=x.val:=⟨⟨W9,hW9⟩,rfl⟩;go_simp;(try with_reducible rfl);done));(try simp only [AP])) | (refine z0D rfl (by rfl) ?_;(try simp only [AP])))
    refine z1s rfl (by rfl) (fun K hK=>?_)
    go_simp
    go_at_call 37
    refine (hsh.o _ _).mono ?_
    rintro en _ ⟨rfl,y5,rfl⟩
    have G5:=hid ((Gr.refl w4).drew.ext y5)
    refine hK.o (fun W=>Gr w4 W) _ _ G5.o (fun W h=>h) (fun _=>?_)
    clear hK K
    (try simp only [AP])
    iterate 2 (first | (refine z0A (v:=?_) rfl (by rfl) ?_ ?_;rotate_left;(focus (intro W9 hW9;obtain ⟨x9,rfl⟩:∃ x:Ext w4,W9=x.val:=⟨⟨W9,hW9⟩,rfl⟩;go_simp;(try with_reducible rfl);done));(try simp only [AP])) | (refine z0D rfl (by rfl) ?_;(try simp only [AP])))
    refine z2K ?_
    go_wp2_with fail
    go_roundw
    case rel=>exact ⟨i+1,by go_num,by omega,(HG.o.trans G4.o).trans G5.o⟩
    case measure=>simp [intOf];omega
   ·have hd4:(dk==4)=false:=by simpa using h4
    refine z0w [(0,false),(1,false),(2,false),(3,false),(4,false),(5,false),(6,false),(7,false),(8,false),(9,false),(11,false),(12,false),(13,false),(14,false),(10,true),(15,false),(16,false)] (fun W=>Gr w4 W) (by kernel_rfl) (by kernel_rfl) (fun _ _ d _ _ h=>by cases d<;>exact h) (Gr.refl w4).drew (fun _=>?_)
    iterate 14 (first | (refine z0A (v:=?_) rfl (by rfl) ?_ ?_;rotate_left;(focus (intro W9 hW9;obtain ⟨x9,rfl⟩:∃ x:Ext w4,W9=x.val:=⟨⟨W9,hW9⟩,rfl⟩;go_simp;(try with_reducible rfl);done));(try simp only [AP])) | (refine z0D rfl (by rfl) ?_;(try simp only [AP])))
    refine z7a rfl (by rfl) ?_
    (try simp only [AP])
    iterate 2 (first | (refine z0A (v:=?_) rfl (by rfl) ?_ ?_;rotate_left;(focus (intro W9 hW9;obtain ⟨x9,rfl⟩:∃ x:Ext w4,W9=x.val:=⟨⟨W9,hW9⟩,rfl⟩;go_simp;(try with_reducible rfl);done));(try simp only [AP])) | (refine z0D rfl (by rfl) ?_;(try simp only [AP])))
    refine z2K ?_
    go_wp2_with fail
    go_roundw
    case rel=>exact ⟨i+1,by go_num,by omega,(HG.o.trans G4.o).drew⟩
    case measure=>simp [intOf];omega
  ·have hLL:(l.length:Int)≤100000:=by have:=HLL.o;omega
   go_wp2_with fail
   go_ret
   exact ⟨_,rfl,G1.o.trans HG.o,HR.o.up (Gr.up HG.o M)⟩
end Go.Proofs.YtniknicnnaiilaaGreat
end
