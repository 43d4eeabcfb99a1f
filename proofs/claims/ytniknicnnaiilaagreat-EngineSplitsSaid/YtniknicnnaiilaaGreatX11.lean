/- Lemmas of the engine. -/
import Derived.Test.YtniknicnnaiilaaGreatX02
import Derived.Test.YtniknicnnaiilaaGreatX06
import Derived.Test.YtniknicnnaiilaaGreatX10
section
namespace Go.Proofs.YtniknicnnaiilaaGreat
set_option maxRecDepth 100000
open Go.RowKit Go.Ext Go.BigFrame Go.Maps Go.MapKept
attribute [local go_sem] Ext.cell Ext.frozen Ext.lt Ext.le s1 s2 s3 s4 s5 s6 t1 t2 t3 t4 t5 t6
attribute [local go_sem ↓] Go.wp_at_zero Go.wp_at_succ
theorem zgg (b:Nat) (w:World):(binOp .eql 133 (.map (some b)) (.map none)).run Tryz.prog w=.ok (.bool false) w:=by kernel_rfl
theorem zhj (b:Nat) (w:World):(binOp .eql 76 (.map (some b)) (.map none)).run Tryz.prog w=.ok (.bool false) w:=by kernel_rfl
theorem z7E (mb:Nat) (kv:List (Int × Value)) (w:World) (h:MI w mb kv):Calls Tryz.prog 127 #[.map (some mb)] w (fun e w'=>∃ b',e=.returned (.map (some b'))∧w.heap.size≤b'∧Gr w w'∧MI w' b' kv):=by
 obtain ⟨o,hcl,hmi⟩:=h.clone (P:=Tryz.prog) 133
 have HMI:=hid hmi
 have he:=zgg mb w
 have hcf:(callFunc 84 #[.iface 133 (.map (some mb))]).run Tryz.prog w=.ok (.value (.iface 133 (.map (some w.heap.size)))) (w.alloc o):=by
  rw [run_callFunc_extern Tryz.func84 (by kernel_rfl) (by kernel_rfl) (by kernel_rfl) (e:=Extern.MapsClone.clone) (by kernel_rfl),hcl]
  rfl
 have hta:(Instr.typeAssert (.iface 133 (.map (some w.heap.size))) 20 133 false).run Tryz.prog (w.alloc o)=.ok (.map (some w.heap.size)) (w.alloc o):=by
  simp [Instr.typeAssert,run_underlying Tryz.underlying133,Result.andThen]
 clear h hmi hcl
 go_enter Tryz.func127,Tryz.ntmps127
 go_wp2_with fail
 go_ret
 exact ⟨_,rfl,Nat.le_refl _,(Gr.refl w).alloc _,HMI.o⟩
theorem z8C (mb:Nat) (kv:List (Int × Value)) (w:World) (h:MI w mb kv):Calls Tryz.prog 48 #[.map (some mb)] w (fun e w'=>∃ b',e=.returned (.map (some b'))∧w.heap.size≤b'∧Gr w w'∧MI w' b' kv):=by
 obtain ⟨o,hcl,hmi⟩:=h.clone (P:=Tryz.prog) 76
 have HMI:=hid hmi
 have he:=zhj mb w
 have hcf:(callFunc 84 #[.iface 76 (.map (some mb))]).run Tryz.prog w=.ok (.value (.iface 76 (.map (some w.heap.size)))) (w.alloc o):=by
  rw [run_callFunc_extern Tryz.func84 (by kernel_rfl) (by kernel_rfl) (by kernel_rfl) (e:=Extern.MapsClone.clone) (by kernel_rfl),hcl]
  rfl
 have hta:(Instr.typeAssert (.iface 76 (.map (some w.heap.size))) 20 76 false).run Tryz.prog (w.alloc o)=.ok (.map (some w.heap.size)) (w.alloc o):=by
  simp [Instr.typeAssert,run_underlying Tryz.underlying76,Result.andThen]
 clear h hmi hcl
 go_enter Tryz.func48,Tryz.ntmps48
 go_wp2_with fail
 go_ret
 exact ⟨_,rfl,Nat.le_refl _,(Gr.refl w).alloc _,HMI.o⟩
def TwL (w:World) (M:Bl) (m:Rows) (k' mb':Nat) (w':World):Prop :=
 w.heap.size≤k'∧w.heap.size≤mb'∧k'<w'.heap.size∧mb'<w'.heap.size∧k'≠mb'∧Gr w w'∧∀ M':Bl,(∀ b,b<w.heap.size→M' b→M b)→z1e w' M' k' mb' m
set_option maxHeartbeats 1000000 in
theorem z8s (k mb:Nat) (m:Rows) (M:Bl) (w:World) (h:z1e w M k mb m) :
  Calls Tryz.prog 83 #[.pointer (some ⟨k,0,none⟩)] w (fun e w'=>∃ k' mb',e=.returned (.pointer (some ⟨k',0,none⟩))∧TwL w M m k' mb' w'):=by
 have H:=hid h
 have c0:=h.c0
 have c1:=h.c1
 have hk:=h.lt.1
 obtain ⟨kv,h1,h2⟩:=h.map
 have HC:=hid (fun W (y:Gr w W)=>z7E mb kv W (h1.gr y))
 have HR:=hid h2
 clear h h1 h2
 go_enter Tryz.func83,Tryz.ntmps83
 go_wp2_with fail
 refine z01 [(0,false),(1,false),(2,false),(3,false),(4,false),(5,false),(6,false),(7,false),(8,true),(9,false),(10,true),(11,true)] (fun W=>Gr w W) (by kernel_rfl) (by kernel_rfl) (fun _ _ d _ _ h=>by cases d<;>exact h) (Gr.refl w).drew (fun _=>?_)
 iterate 8 (refine z03 (v:=?_) rfl (by rfl) ?_ ?_;rotate_left;(focus (intro W9 hW9;obtain ⟨x9,rfl⟩:∃ x:Ext w,W9=x.val:=⟨⟨W9,hW9⟩,rfl⟩;go_simp;(try with_reducible rfl);done));(try simp only [AP]))
 refine z05 rfl (by rfl) (fun K hK=>?_)
 go_simp
 go_at_call 127
 refine (HC.o _ (Gr.refl w).drew).mono ?_
 rintro en w2 ⟨b',rfl,hb',g2,hm2⟩
 have G2:=hid ((Gr.refl w).drew.trans g2)
 have HM2:=hid hm2
 refine hK.o (fun W=>Gr w W) _ _ G2.o (fun _ g=>g) (fun _=>?_)
 clear hK K g2 hm2
 (try simp only [AP])
 iterate 1 (refine z03 (v:=?_) rfl (by rfl) ?_ ?_;rotate_left;(focus (intro W9 hW9;obtain ⟨x9,rfl⟩:∃ x:Ext w,W9=x.val:=⟨⟨W9,hW9⟩,rfl⟩;go_simp;(try with_reducible rfl);done));(try simp only [AP]))
 refine z05 rfl (by rfl) (fun K hK=>?_)
 go_simp
 refine hK.o (fun W=>Gr w W) _ _ (G2.o.alloc _) (fun _ g=>g) (fun _=>?_)
 clear hK K
 (try simp only [AP])
 refine z06 rfl (by rfl) (fun K hK=>?_)
 go_simp
 refine hK.o _ _ ?_
 clear hK K
 go_wp2_with fail
 go_ret
 have hlt:=HM2.o.lt
 have hsz:=G2.o.size
 have hb'':w.heap.size≤b':=by simpa using hb'
 refine ⟨w2.heap.size,b',rfl,hsz,hb'',by simp,by simp;omega,by omega,G2.o.alloc _,fun M' hM=>⟨heap_alloc_new w2 _,kv,HM2.o.gr ((Gr.refl _).alloc _),HR.o.mono fun a v ht=>ht.up ⟨(G2.o.alloc _).mod M,hM⟩⟩⟩
set_option maxHeartbeats 1000000 in
theorem zaq (A:Option Addr) (c:Nat) (L:List It) (w:World) (hr:Row w A L) (hn:A=none→c=0) (hl:L.length≤1000000) :
  Calls Tryz.prog 85 #[.slice A L.length c] w (fun e w'=>∃ v',e=.returned v'∧Gr w w'∧w'.ownsRow w.heap.size 92 6 v' L.length (cs6 L)):=by
 obtain ⟨i0,hi0,hz0,hz1,hz2⟩:=info_parts z5E
 have he:=fun (w:World) (n c n' c':Nat) (a:Option Addr)=>Lib.run_eql_slice_nil (P:=Tryz.prog) w 115 92 a n c n' c' Tryz.underlying115
 rcases A with _ | ad
 ·have hL:L=[]:=by
   by_cases h0:L=[]
   ·exact h0
   ·obtain ⟨_,_,e,_⟩:=hr h0;cases e
  subst hL
  have hc0:=hn rfl
  subst hc0
  go_enter Tryz.func85,Tryz.ntmps85
  go_wp2_with fail
  go_ret
  exact ⟨.slice none 0 0,rfl,Gr.refl _,World.ownsRow_nil _ _ _ _⟩
 ·have hnews:∀ W,Gr w W→∀ j u,(cs6 L)[j]?=some u→W.cell? (ad.add j)=some u:=by
   intro W g j u hu
   have hj:=(List.getElem?_eq_some_iff.1 hu).1
   rw [z0l] at hj
   obtain ⟨b,off,e,hc⟩:=(hr.gr g) (by rintro rfl;simp at hj)
   injection e with e
   subst e
   have e2:j=j / 6 * 6+j % 6:=by omega
   rw [e2,z4d L (j / 6) (j % 6) (by omega) (Nat.mod_lt _ (by omega))] at hu
   have:=hc (j / 6) (by omega) (j % 6) u hu
   rw [Addr.add_lit,e2,← Nat.add_assoc]
   exact this
  have HN:=hid hnews
  clear hr hn hnews
  go_enter Tryz.func85,Tryz.ntmps85
  go_wp2_with (at_builtin;refine wpList_append_own _ rfl _ _ 115 rfl w.heap.size 92 i0 _ 6 48 Tryz.underlying115 hi0 hz0 hz1 hz2 rfl (by decide) (.slice (some ⟨w.heap.size,0,none⟩) 0 0) 0 [] rfl (World.ownsRow_made w #[] 0 (Nat.le_refl _) (by decide) rfl) ad L.length c (cs6 L) rfl (z0l L) (HN.o _ ((Gr.refl w).alloc _)) (z4G L) (by unfold maxLen;omega) (by omega) (by simp) ?_;intro v1 w1 hown1 hg1 _)
  go_ret
  have hgr:Gr w w1:=z39 ((Gr.refl w).alloc _) hg1 (by intro k hk;simp [Value.ownBlock] at hk;omega)
  exact ⟨v1,rfl,hgr,by simpa using hown1⟩
def TwH (w:World) (L:List It) (g':Nat) (v':Value) (w':World):Prop :=
 w.heap.size≤g'∧(∀ b,v'.ownBlock=some b→w.heap.size≤b)∧Gr w w'∧HB 0 w' g' v' L
theorem zd4 (g:Nat) (v:Value) (L:List It) (w:World) (h:HB 0 w g v L) (hl:L.length≤1000000) :
  Calls Tryz.prog 49 #[.pointer (some ⟨g,0,none⟩)] w (fun e w'=>∃ g' v',e=.returned (.pointer (some ⟨g',0,none⟩))∧TwH w L g' v' w'):=by
 obtain ⟨A,cp,rfl⟩:=h.shape
 have c0:=h.c0
 have hlt:=h.lt
 have hn:A=none→cp=0:=by
  rintro rfl
  rcases h.row.2 with ⟨e,_⟩ | ⟨g',cap,cur,e,_⟩
  ·injection e with _ _ e
  ·cases e
 have HC:=hid (zaq A cp L w (h.arow rfl) hn hl)
 clear h
 go_enter Tryz.func49,Tryz.ntmps49
 go_wp2_with (go_at_call 85;refine HC.o.mono ?_;rintro e w2 ⟨v1,rfl,g1,ho⟩;obtain ⟨A',c',rfl,_⟩:=z1c ho;have HO:=hid ho;have G1:=hid g1;clear ho g1)
 go_ret
 refine ⟨w2.heap.size,.slice A' L.length c',rfl,G1.o.size,fun b e=>(HO.o.lt b e).1,G1.o.alloc _,Nat.zero_le _,heap_alloc_new w2 _,?_⟩
 exact (z3S HO.o ((Gr.refl _).alloc _)).mono (Nat.zero_le _)
theorem z4l {L:List It} (h:Srt L) (x:It):Srt (addD L x):=by
 unfold addD
 split
 ·exact h
 ·rename_i hx;exact zfm h (by simpa using hx)
theorem z4k (L:List It) (x:It):(addD L x).length≤L.length+1:=by
 unfold addD
 split
 ·omega
 ·rw [zaF];exact Nat.le_refl _
theorem z2Y (L:List It) (f r:Int):(z20 L f r).length≤L.length:=List.length_filter_le _ _
theorem z3K {L:List It} (h:Srt L) (f r:Int):Srt (z20 L f r):=List.Pairwise.sublist List.filter_sublist h
structure ROk (m:Rows):Prop where
 nodup:(m.map (·.1)).Nodup
 len:∀ x∈m,0<x.2.length∧x.2.length≤1024
theorem z2h {m:Rows} (h:ROk m) (list:Int):(rowOf m list).length≤1024:=by
 unfold rowOf
 cases hx:lk m list with
 | none=>simp
 | some l=>exact (h.len _ (z0K hx)).2
theorem ROk.push {m m':Rows} {list:Int} {t:Task} (h:ROk m) (hp:z38 m list t=some m'):ROk m':=by
 unfold z38 at hp
 split at hp
 ·cases hp
 ·rename_i hl
  injection hp with hp
  subst hp
  refine ⟨z3d h.nodup _ _,fun x hx=>?_⟩
  rcases z1K hx with rfl | hx
  ·simp only [List.length_append,List.length_cons,List.length_nil];omega
  ·exact h.len x hx
theorem ROk.pop {m:Rows} {list:Int} (h:ROk m):ROk (popR m list):=by
 have hl:=z2h h list
 unfold popR
 split
 ·exact h
 ·rename_i t r e
  rw [e] at hl
  unfold setR
  split
  ·exact ⟨z5a h.nodup _,fun x hx=>h.len x ((z2Q _ _).subset hx)⟩
  ·rename_i hr
   refine ⟨z3d h.nodup _ _,fun x hx=>?_⟩
   rcases z1K hx with rfl | hx
   ·simp only [List.length_cons] at hl
    rcases r with _ | ⟨a,r⟩
    ·simp at hr
    ·simp only [List.length_cons] at hl ⊢;omega
   ·exact h.len x hx
structure AOk (m:Rows):Prop extends ROk m where
 one:∀ x∈m,∀ t∈x.2,t.turn=-1
theorem AOk.row {m:Rows} (h:AOk m) (list:Int):∀ t∈rowOf m list,t.turn=-1:=by
 unfold rowOf
 cases hx:lk m list with
 | none=>simp
 | some l=>exact h.one _ (z0K hx)
theorem AOk.push {m m':Rows} {list:Int} {t:Task} (h:AOk m) (ht:t.turn=-1) (hp:z38 m list t=some m'):AOk m':=by
 refine ⟨h.toROk.push hp,?_⟩
 unfold z38 at hp
 split at hp
 ·cases hp
 ·injection hp with hp
  subst hp
  intro x hx
  rcases z1K hx with rfl | hx
  ·intro u hu
   rcases List.mem_append.1 hu with hu | hu
   ·exact h.row list u hu
   ·rw [List.mem_singleton.1 hu];exact ht
  ·exact h.one x hx
theorem AOk.pop {m:Rows} {list:Int} (h:AOk m):AOk (popR m list):=by
 refine ⟨h.toROk.pop,?_⟩
 have hr:=h.row list
 unfold popR
 split
 ·exact h.one
 ·rename_i t r e
  rw [e] at hr
  unfold setR
  split
  ·exact fun x hx=>h.one x ((z2Q _ _).subset hx)
  ·intro x hx
   rcases z1K hx with rfl | hx
   ·exact fun u hu=>hr u (List.mem_cons_of_mem _ hu)
   ·exact h.one x hx
structure EOk (E:ES):Prop where
 sh:0≤E.shard∧E.shard<E.groups∧E.groups≤8
 now:0≤E.now∧E.now≤1099511627776
 rn:(E.runs.map (·.1)).Nodup
 run:∀ x∈E.runs,FOk x.2.f∧x.2.f.id=x.1
 d:ROk E.dec
 a:AOk E.act
 due:Srt E.due
theorem EOk.get {E:ES} (h:EOk E) {id:Int} {r:RunS} (hr:lk E.runs id=some r):FOk r.f∧r.f.id=id:=h.run _ (z0K hr)
structure Nx (m:Nat) (E E':ES):Prop where
 ok:EOk E→EOk E'
 due:E'.due.length≤E.due.length+m
 now:E'.now=E.now
 shard:E'.shard=E.shard
 groups:E'.groups=E.groups
theorem Nx.refl (m:Nat) (E:ES):Nx m E E:=⟨id,by omega,rfl,rfl,rfl⟩
theorem Nx.trans {a b:Nat} {E E' E'':ES} (h:Nx a E E') (k:Nx b E' E''):Nx (a+b) E E'' :=
 ⟨fun e=>k.ok (h.ok e),by have:=h.due;have:=k.due;omega,k.now.trans h.now,k.shard.trans h.shard,k.groups.trans h.groups⟩
theorem Nx.mono {a b:Nat} {E E':ES} (h:Nx a E E') (hab:a≤b):Nx b E E':=⟨h.ok,by have:=h.due;omega,h.now,h.shard,h.groups⟩
theorem z1Y {E:ES} {id:Int} {r:RunS} (h:EOk E→FOk r.f∧r.f.id=id):Nx 0 E { E with runs:=up E.runs id r } :=
 ⟨fun e=>⟨e.sh,e.now,z3d e.rn _ _,fun x hx=>by
  rcases z1K hx with rfl | hx
  ·exact h e
  ·exact e.run x hx,e.d,e.a,e.due⟩,by simp,rfl,rfl,rfl⟩
theorem z3D {E:ES} {L:List It} {m:Nat} (h:Srt E.due→Srt L) (hl:L.length≤E.due.length+m):Nx m E { E with due:=L } :=
 ⟨fun e=>⟨e.sh,e.now,e.rn,e.run,e.d,e.a,h e.due⟩,hl,rfl,rfl,rfl⟩
theorem zeu {E:ES} {m:Rows} (h:ROk E.dec→ROk m):Nx 0 E { E with dec:=m }:=⟨fun e=>⟨e.sh,e.now,e.rn,e.run,h e.d,e.a,e.due⟩,by simp,rfl,rfl,rfl⟩
theorem zet {E:ES} {m:Rows} (h:AOk E.act→AOk m):Nx 0 E { E with act:=m }:=⟨fun e=>⟨e.sh,e.now,e.rn,e.run,e.d,h e.a,e.due⟩,by simp,rfl,rfl,rfl⟩
theorem z5N {E E':ES} {id n:Int} {o:Out} (h:out0 E id n o=some E'):Nx 1 E E'∧E'.runs=E.runs:=by
 unfold out0 at h
 split at h
 ·obtain ⟨m,hm,rfl⟩:=Option.map_eq_some_iff.1 h
  exact ⟨(zeu fun e=>e.push hm).mono (by omega),rfl⟩
 split at h
 ·obtain ⟨m,hm,rfl⟩:=Option.map_eq_some_iff.1 h
  exact ⟨(zet fun e=>e.push rfl hm).mono (by omega),rfl⟩
 ·injection h with h
  subst h
  exact ⟨z3D (fun e=>z4l e _) (z4k _ _),rfl⟩
theorem z3v {id n:Int}:∀ {l:List Out} {E E':ES},z3h E id n l=some E'→Nx l.length E E'∧E'.runs=E.runs
 | [],E,E',h=>by injection h with h;subst h;exact ⟨Nx.refl _ _,rfl⟩
 | o::r,E,E',h=>by
  obtain ⟨E1,h1,h2⟩:=Option.bind_eq_some_iff.1 h
  obtain ⟨a,b⟩:=z5N h1
  obtain ⟨c,d⟩:=z3v h2
  exact ⟨(a.trans c).mono (by simp only [List.length_cons];omega),d.trans b⟩
theorem z5K {id run list n now:Int} {data:List UInt8} {F:FS} {os:List Out} (h:newF id run list n data now=some (F,os)):os=[⟨1,list,2,0,0,0,0,[]⟩]:=by
 unfold newF at h
 split at h
 ·injection h with h
  have:os=(z07 (putF (f0 id run) ⟨1,now,0,0,list,n,data⟩) now).2:=by rw [h]
  rw [this]
  rfl
 ·cases h
theorem z75 {E E':ES} {id list n pf pr now k:Int} {data:List UInt8} (h:z0U E id list n data pf pr now=some (E',k)):Nx 1 E E':=by
 unfold z0U at h
 simp only at h
 split at h
 ·cases h
 ·rename_i f os hn
  obtain ⟨E1,h1,h2⟩:=Option.map_eq_some_iff.1 h
  injection h2 with h2 _
  subst h2
  have ho:=z5K hn
  subst ho
  have a:=z1Y (E:=E) (id:=id) (r:=⟨f,pf,pr⟩) (fun _=>⟨(FOk.new hn).1,(FOk.new hn).2.1⟩)
  exact (a.trans (z3v h1).1).mono (by simp)
structure z3H (act:FS→FR):Prop where
 ok:∀ F,FOk F→FOk (act F).1∧(act F).1.id=F.id∧(act F).1.run=F.run
 outs:∀ F,(act F).2.1.length≤100
theorem z1B {data:List UInt8} {now:Int} {act:FS→FR} (hg:data.length≤4096→Good act) (ho:∀ F,(act F).2.1.length≤100):z3H (fun F=>tryF F data now act):=by
 constructor
 ·intro F hF
  by_cases hr:z1L F data now=false
  ·unfold tryF;rw [if_pos hr];exact ⟨hF,rfl,rfl⟩
  ·have hd:data.length≤4096:=by
    unfold z1L at hr
    simp only [Bool.not_eq_false,Bool.and_eq_true,decide_eq_true_eq] at hr
    exact hr.1.1.1
   refine ⟨hF.tryF (hg hd),?_⟩
   obtain ⟨_,_,_,h4,h5⟩:=hg hd F hF
   unfold tryF
   repeat' split
   all_goals first | exact ⟨rfl,rfl⟩ | exact ⟨h4,h5⟩
 ·intro F
  unfold tryF
  repeat' split
  all_goals first | exact ho F | simp
theorem z2U (F:FS) (now:Int):(z0T F now).2.length≤1:=by
 unfold z0T
 split<;>simp [z07]
theorem z7Q (kind ref:Int) (data:List UInt8) (now:Int) (F:FS):(z2q kind ref data now F).2.1.length≤100:=by
 unfold z2q
 repeat' split
 all_goals first | (simp;done) | exact Nat.le_trans (z2U _ _) (by omega)
theorem z6h (now:Int):∀ (l:List Dec) (x:FS × List Out),(z0n now x l).2.length≤x.2.length+l.length
 | [],x=>by simp [z0n]
 | d::r,x=>by
  refine Nat.le_trans (z6h now r _) ?_
  have:(z0d x.1 d now).2.length≤1:=by
   unfold z0d z0J
   repeat' split
   all_goals simp
  simp only [List.length_append,List.length_cons]
  omega
theorem z5z (data:List UInt8) (now:Int):z3H (fun F=>z3B F data now):=z1B z9a fun F=>Nat.le_trans (z2U _ _) (by omega)
theorem z5x (now:Int):z3H (fun F=>z3q F now):=z1B (fun _=>z8A) fun F=>by
 unfold z21
 split
 ·simp
 ·exact Nat.le_trans (z2U _ _) (by omega)
theorem z49 (data:List UInt8) (now:Int):z3H (fun F=>z1a F data now):=z1B z6a fun F=>by
 simp [z1m,z0J,ok]
theorem z82 (ref turn now:Int):z3H (fun F=>z1z F ref turn now):=z1B (fun _=>z7H) fun F=>by
 unfold z0Q
 split<;>simp
theorem zaB (ref now:Int):z3H (fun F=>z3F F ref now):=z1B (fun _=>zb1) fun F=>by
 unfold z2H
 repeat' split
 all_goals simp
theorem z5A (ref:Int) (data:List UInt8) (good:Bool) (now:Int):z3H (fun F=>z2N F ref data good now):=z1B (z7O (by cases good<;>simp)) fun F=>z7Q _ _ _ _ _
theorem z2y (id status:Int) (data:List UInt8) (now:Int):z3H (fun F=>z0h F id status data now):=by
 have h:=z1B (data:=data) (now:=now) (z62 (id:=id) (status:=status) (now:=now)) fun F=>by
  unfold z0x
  repeat' split
  all_goals first | (simp;done) | exact Nat.le_trans (z2U _ _) (by omega)
 constructor
 ·intro F hF
  unfold z0h
  split
  ·exact ⟨hF,rfl,rfl⟩
  ·exact h.ok F hF
 ·intro F
  unfold z0h
  split
  ·simp
  ·exact h.outs F
theorem z5y (ref turn:Int) (l:List Dec) (now:Int):z3H (fun F=>z2p F ref turn l now):=z1B (fun _=>z8G) fun F=>by
 unfold z1p
 split
 ·simp
 split
 ·simp [z0y,z07]
 rename_i hbad
 have hl:l.length≤32:=by
  unfold badF at hbad
  simp only [Bool.or_eq_true,decide_eq_true_eq,not_or,Bool.not_eq_true] at hbad
  omega
 have hd:=fun x=>z6h now l x
 split
 ·simp [z0y,z07]
 split
 ·have:=hd (putF F ⟨4,now,F.begun,0,0,0,[]⟩,[])
  simp only [ok,List.length_append,z07,List.length_cons,List.length_nil] at this ⊢
  omega
 ·have:=hd (putF F ⟨4,now,F.begun,0,0,0,[]⟩,[])
  simp only [ok,List.length_nil] at this ⊢
  omega
theorem z4s (kind ref turn now:Int):z3H (fun F=>z1F F kind ref turn now):=by
 have h1:=z1B (data:=[]) (now:=now) (fun _=>z8Y (ref:=ref) (turn:=turn) (now:=now)) fun F=>by
  unfold z1r
  split<;>simp [ok,z07]
 have h2:=z1B (data:=[]) (now:=now) (fun _=>z8W (ref:=ref) (turn:=turn) (now:=now)) fun F=>by
  unfold z1x
  split
  ·simp
  ·exact z7Q _ _ _ _ _
 have h3:=z1B (data:=[]) (now:=now) (fun _=>zaw (ref:=ref) (turn:=turn) (now:=now)) fun F=>by
  unfold z29
  repeat' split
  all_goals first | (simp;done) | exact Nat.le_trans (z2U _ _) (by omega)
 constructor
 ·intro F hF
  unfold z1F
  split
  ·exact h1.ok F hF
  split
  ·exact h2.ok F hF
  split
  ·exact h3.ok F hF
  ·exact ⟨hF,rfl,rfl⟩
 ·intro F
  unfold z1F
  split
  ·exact h1.outs F
  split
  ·exact h2.outs F
  split
  ·exact h3.outs F
  ·simp
theorem z48 (id status:Int) (data:List UInt8) (now:Int) (F:FS):(z0h F id status data now).2.1.length≤1:=by
 have h:(z0x id status data now F).2.1.length≤1:=by
  unfold z0x
  repeat' split
  all_goals first | (simp;done) | exact z2U _ _
 unfold z0h tryF
 repeat' split
 all_goals first | exact h | simp
theorem zcB {E E':ES} {id now child status:Int} {data:List UInt8} (h:z3j E id now child status data=some E'):Nx 1 E E':=by
 unfold z3j at h
 split at h
 ·injection h with h;subst h;exact Nx.refl _ _
 ·rename_i r hr
  simp only at h
  have g:=z2y child status data now
  split at h
  ·have a:=z1Y (E:=E) (id:=id) (r:={ r with f:=(z0h r.f child status data now).1 }) (fun e=>⟨(g.ok _ (e.get hr).1).1,(g.ok _ (e.get hr).1).2.1.trans (e.get hr).2⟩)
   have b:=(z3v h).1
   exact (a.trans b).mono (Nat.le_trans (Nat.le_of_eq (Nat.zero_add _)) (z48 child status data now r.f))
  split at h
  ·cases h
  ·injection h with h;subst h;exact Nx.refl _ _
theorem zdZ {E E':ES} {id n now:Int} {o:Out} (h:z2P E id n now o=some E'):Nx 1 E E':=by
 unfold z2P at h
 split at h
 ·exact zcB h
 ·obtain ⟨⟨E1,k⟩,h1,rfl⟩:=Option.map_eq_some_iff.1 h
  exact z75 h1
theorem z9W {E E':ES} {id n now:Int} {o:Out} (h:outE E id n now o=some E'):Nx 1 E E':=by
 unfold outE at h
 split at h
 ·exact (z5N h).1
 split at h
 ·exact zdZ h
 have d:Nx 0 E { E with due:=z20 E.due id n }:=z3D (fun e=>z3K e _ _) (Nat.le_trans (z2Y _ _ _) (by omega))
 simp only at h
 split at h
 ·cases h
 ·rename_i r hr
  split at h
  ·split at h
   ·cases h
   ·obtain ⟨⟨E1,k⟩,h1,rfl⟩:=Option.map_eq_some_iff.1 h
    exact (d.trans (z75 h1)).mono (by omega)
  ·split at h
   ·injection h with h;subst h;exact d.mono (by omega)
   ·split at h
    ·injection h with h;subst h;exact d.mono (by omega)
    ·exact (d.trans (zcB h)).mono (by omega)
theorem z93 {id n now:Int}:∀ {l:List Out} {E E':ES},z2F E id n now l=some E'→Nx l.length E E'
 | [],E,E',h=>by injection h with h;subst h;exact Nx.refl _ _
 | o::r,E,E',h=>by
  obtain ⟨E1,h1,h2⟩:=Option.bind_eq_some_iff.1 h
  exact ((z9W h1).trans (z93 h2)).mono (by simp only [List.length_cons];omega)
theorem z8f {E E':ES} {id e:Int} {act:FS→FR} (g:z3H act) (h:z0k E id act=(e,some E')):Nx 100 E E':=by
 unfold z0k at h
 split at h
 ·cases h
 ·rename_i r hr
  simp only at h
  split at h
  ·cases h
  ·injection h with _ h
   have a:=z1Y (E:=E) (id:=id) (r:={ r with f:=(act r.f).1 }) (fun e=>⟨(g.ok _ (e.get hr).1).1,(g.ok _ (e.get hr).1).2.1.trans (e.get hr).2⟩)
   exact (a.trans (z93 h)).mono (Nat.le_trans (Nat.le_of_eq (Nat.zero_add _)) (g.outs r.f))
theorem z4U {E:ES} {d:Bool} {list:Int}:Nx 0 E (popE E d list):=by
 unfold popE z3A z2L
 cases d
 ·exact zet fun e=>e.pop
 ·exact zeu fun e=>e.pop
theorem z4t (d:Bool) (t:Task) (now:Int):z3H (z2s d t now):=by
 cases d
 ·exact zaB _ _
 ·exact z82 _ _ _
theorem z5M {E E':ES} {d:Bool} {t:Task} {a:Ans} (h:z2b E d t=some (a,E')):Nx 100 E E':=by
 unfold z2b at h
 split at h
 ·cases h
 ·split at h
  ·rename_i e E1 hc
   split at h
   ·injection h with h
    injection h with _ h
    subst h
    exact z8f (z4t _ _ _) hc
   ·cases h
  ·cases h
theorem z9X {d:Bool} {list:Int}:∀ (l:List Task) (E:ES),Nx 100 E (z1v d list E l).2
 | [],E=>Nx.refl _ _
 | t::r,E=>by
  unfold z1v
  split
  ·split
   ·exact Nx.refl _ _
   ·rename_i a E' h
    exact ((z5M h).trans z4U).mono (by omega)
  ·exact (z4U.trans (z9X r _)).mono (by omega)
theorem z3Y (sh:Int→Int) (E:ES) (c:Call):z3H (askE sh E c):=by
 unfold askE
 constructor
 ·intro F hF
  repeat' split
  ·exact (z5z _ _).ok F hF
  ·exact (z5x _).ok F hF
  ·exact (z49 _ _).ok F hF
  ·exact (z5y _ _ _ _).ok F hF
  ·exact (z5A _ _ _ _).ok F hF
 ·intro F
  repeat' split
  ·exact (z5z _ _).outs F
  ·exact (z5x _).outs F
  ·exact (z49 _ _).outs F
  ·exact (z5y _ _ _ _).outs F
  ·exact (z5A _ _ _ _).outs F
theorem zhz {sh:Int→Int} {E E':ES} {c:Call} {a:Ans} (h:doE sh E c=(a,some E')):Nx 100 E E':=by
 unfold doE at h
 split at h
 ·unfold z2n at h
  split at h
  ·injection h with _ h;injection h with h;subst h;exact Nx.refl _ _
  ·split at h
   ·cases h
   ·rename_i E1 n hb
    injection h with _ h;injection h with h;subst h
    exact (z75 hb).mono (by omega)
 split at h
 ·injection h with _ h;injection h with h;subst h;exact z9X _ _
 split at h
 ·injection h with _ h;injection h with h;subst h;exact Nx.refl _ _
 split at h
 ·injection h with _ h;injection h with h;subst h;exact Nx.refl _ _
 split at h
 ·injection h with _ h;injection h with h;subst h;exact Nx.refl _ _
 split at h
 ·injection h with _ h;injection h with h;subst h;exact Nx.refl _ _
 ·injection h with h1 h2
  exact z8f (e:=(z0k E (z16 c) (askE sh E c)).1) (z3Y sh E c) (Prod.ext rfl h2)
theorem z92 (sh:Int→Int) (E:ES) (c:Call):Nx 100 E (z13 sh E c).2:=by
 unfold z13
 split
 ·exact Nx.refl _ _
 ·split
  ·rename_i a E' h;exact zhz h
  ·exact Nx.refl _ _
theorem z2E (F:FS) (now:Int):∀ o∈(ok (z0T F now)).2.1,o.kind=1:=by
 unfold z0T
 split<;>simp [z07,ok]
theorem z7P (kind ref:Int) (data:List UInt8) (now:Int) (F:FS):∀ o∈(z2q kind ref data now F).2.1,o.kind=1:=by
 unfold z2q
 repeat' split
 all_goals first | (simp;done) | exact z2E _ _
theorem z5d {data:List UInt8} {now:Int} {act:FS→FR} {F:FS} (h:∀ o∈(act F).2.1,o.kind=1):∀ o∈(tryF F data now act).2.1,o.kind=1:=by
 unfold tryF
 repeat' split
 all_goals first | exact h | simp
theorem z3M (F:FS) (kind ref turn now:Int):∀ o∈(z1F F kind ref turn now).2.1,o.kind=1:=by
 unfold z1F
 split
 ·refine z5d ?_
  unfold z1r
  split<;>simp [z07,ok]
 split
 ·refine z5d ?_
  unfold z1x
  split
  ·simp
  ·exact z7P _ _ _ _ _
 split
 ·refine z5d ?_
  unfold z29
  repeat' split
  all_goals first | (simp;done) | exact z2E _ _
 ·simp
theorem z65 (F:FS) (id status:Int) (data:List UInt8) (now:Int):∀ o∈(z0h F id status data now).2.1,o.kind=1:=by
 unfold z0h
 split
 ·simp
 refine z5d ?_
 unfold z0x
 repeat' split
 all_goals first | (simp;done) | exact z2E _ _
theorem z5O {id n now:Int}:∀ {l:List Out} {E E':ES},(∀ o∈l,o.kind=1)→z2F E id n now l=some E'→E'.due=E.due
 | [],E,E',_,h=>by injection h with h;subst h;rfl
 | o::r,E,E',hk,h=>by
  obtain ⟨E1,h1,h2⟩:=Option.bind_eq_some_iff.1 h
  have k:=hk o (List.mem_cons_self ..)
  have e2:=z5O (fun o ho=>hk o (List.mem_cons_of_mem _ ho)) h2
  rw [e2]
  unfold outE at h1
  rw [if_pos (.inl k)] at h1
  unfold out0 at h1
  rw [if_pos k] at h1
  obtain ⟨m,hm,rfl⟩:=Option.map_eq_some_iff.1 h1
  rfl
theorem z4J {E E':ES} {i:It} (h:z1M E i=some E'):Nx 0 E E'∧E'.due=E.due:=by
 unfold z1M at h
 split at h
 ·injection h with h;subst h;exact ⟨Nx.refl _ _,rfl⟩
 ·rename_i r hr
  split at h
  ·injection h with h;subst h;exact ⟨Nx.refl _ _,rfl⟩
  ·simp only at h
   have g:=z4s i.2.2.2.2.2 i.2.2.2.1 i.2.2.2.2.1 i.1
   split at h
   ·have a:=z1Y (E:=E) (id:=i.2.1) (r:={ r with f:=(z1F r.f i.2.2.2.2.2 i.2.2.2.1 i.2.2.2.2.1 i.1).1 }) (fun e=>⟨(g.ok _ (e.get hr).1).1,(g.ok _ (e.get hr).1).2.1.trans (e.get hr).2⟩)
    have hd:=z5O (z3M _ _ _ _ _) h
    obtain ⟨k1,k2,k3,k4,k5⟩:=a.trans (z93 h)
    exact ⟨⟨k1,by rw [hd];simp,k3,k4,k5⟩,hd⟩
   split at h
   ·cases h
   ·injection h with h;subst h;exact ⟨Nx.refl _ _,rfl⟩
theorem z76 (end_:Int):∀ (n:Nat) (E:ES),Nx 0 E (z1t end_ n E)
 | 0,E=>Nx.refl _ _
 | n+1,E=>by
  unfold z1t
  split
  ·exact Nx.refl _ _
  ·rename_i i r hd
   split
   ·exact Nx.refl _ _
   ·have a:Nx 0 E { E with due:=r }:=z3D (fun e=>by rw [hd] at e;exact (List.pairwise_cons.1 e).2) (by rw [hd];simp only [List.length_cons];omega)
    split
    ·rename_i E1 h
     exact ((a.trans (z4J h).1).trans (z76 end_ n E1)).mono (by omega)
    ·have b:Nx 0 E { E with due:=addD r (end_+1,i.2) }:=z3D (fun e=>by rw [hd] at e;exact z4l (List.pairwise_cons.1 e).2 _) (by have:=z4k r (end_+1,i.2);rw [hd];simp only [List.length_cons];omega)
     exact (b.trans (z76 end_ n _)).mono (by omega)
end Go.Proofs.YtniknicnnaiilaaGreat
end
section
namespace Go.Proofs.YtniknicnnaiilaaGreat
set_option maxRecDepth 100000
open Go.RowKit Go.Ext Go.BigFrame Go.Maps Go.MapKept
attribute [local go_sem] Ext.cell Ext.frozen Ext.lt Ext.le s1 s2 s3 s4 s5 s6 t1 t2 t3 t4 t5 t6
attribute [local go_sem ↓] Go.wp_at_zero Go.wp_at_succ
def runV (k:Nat) (pf pr:Int):Value:=.agg #[.pointer (some ⟨k,0,none⟩),.int .i64 pf,.int .i64 pr]
def RunM (w:World) (M:Bl) (r:RunS) (v:Value):Prop:=∃ k,v=runV k r.pf r.pr∧z7s w M k r.f
theorem RunM.up {w w':World} {M M':Bl} {r:RunS} {v:Value} (h:RunM w M r v) (u:Up M w M' w'):RunM w' M' r v:=by
 obtain ⟨k,e,hf⟩:=h
 exact ⟨k,e,hf.up u⟩
structure EngP (w:World) (M S:Bl) (k:Nat) (E:ES) (kd ka md ma mr kh:Nat) (hv:Value):Prop where
 cell:w.heap[k]?=some (.cells #[.pointer (some ⟨kd,0,none⟩),.pointer (some ⟨ka,0,none⟩),.int .i64 E.shard,.int .i64 E.groups,.int .i64 E.now,.map (some mr),.pointer (some ⟨kh,0,none⟩)] 79 (0,0))
 d:z1e w M kd md E.dec
 a:z1e w M ka ma E.act
 r:∃ kv,MI w mr kv∧Rel (fun r v=>RunM w M r v) E.runs kv
 h:HB 0 w kh hv E.due
 sk:S k
 smd:S md
 sma:S ma
 smr:S mr
 skh:S kh
 shv:∀ b,hv.ownBlock=some b→S b
 nd:¬ M kd
 na:¬ M ka
 ne1:md≠ma
 ne2:md≠mr
 ne3:ma≠mr
 SM:∀ b,S b→M b
 lt:∀ b,M b→b<w.heap.size
def EngR (w:World) (M S:Bl) (k:Nat) (E:ES):Prop:=∃ kd ka md ma mr kh hv,EngP w M S k E kd ka md ma mr kh hv
section
variable {w w':World} {M M' S S':Bl} {k kd ka md ma mr kh:Nat} {hv:Value} {E:ES}
theorem EngP.mrlt (h:EngP w M S k E kd ka md ma mr kh hv):mr<w.heap.size:=by
 obtain ⟨kv,h1,_⟩:=h.r
 exact h1.lt
theorem MI.isMap {b:Nat} {kv:List (Int × Value)} (h:MI w b kv):∃ es c,w.heap[b]?=some (.map es c):=by
 obtain ⟨es,c,h1,_⟩:=h
 exact ⟨es,c,h1⟩
theorem z0u {b c:Nat} {kv:List (Int × Value)} {cs:Array Value} {t:TypeId} {fz:Nat × Nat} (h:MI w b kv) (h2:w.heap[c]?=some (.cells cs t fz)):b≠c:=by
 rintro rfl
 obtain ⟨es,cl,h1⟩:=MI.isMap h
 rw [h1] at h2
 cases h2
theorem z9T {b c:Nat} {cs cs':Array Value} {t t':TypeId} {fz fz':Nat × Nat} (h:w.heap[b]?=some (.cells cs t fz)) (h2:w.heap[c]?=some (.cells cs' t' fz')) (ht:t≠t'):b≠c:=by
 rintro rfl
 rw [h] at h2
 injection h2 with h2
 injection h2 with _ h2 _
 exact ht h2
theorem EngP.keep (h:EngP w M S k E kd ka md ma mr kh hv) (u:Up M w M' w') (hS:∀ b,S b→w'.heap[b]?=w.heap[b]?) (SM:∀ b,S b→M' b) (lt:∀ b,M' b→b<w'.heap.size):EngP w' M' S k E kd ka md ma mr kh hv:=by
 obtain ⟨kv,h1,h2⟩:=h.r
 refine ⟨(hS k h.sk).trans h.cell,h.d.up u (u.block h.d.lt.1 h.nd) (hS md h.smd),h.a.up u (u.block h.a.lt.1 h.na) (hS ma h.sma),⟨kv,h1.keep (hS mr h.smr),h2.mono fun a v hr=>hr.up u⟩,?_,h.sk,h.smd,h.sma,h.smr,h.skh,h.shv,u.not h.d.lt.1 h.nd,u.not h.a.lt.1 h.na,h.ne1,h.ne2,h.ne3,SM,lt⟩
 refine ⟨h.h.lo,(hS kh h.skh).trans h.h.cell,h.h.row.1,?_⟩
 rcases h.h.row.2 with h3 | ⟨g',cap,cur,hv',hb,hh,r⟩
 ·exact .inl h3
 ·exact .inr ⟨g',cap,cur,hv',hb,(hS g' (h.shv g' (by rw [hv'];rfl))).trans hh,r⟩
theorem EngR.keep (h:EngR w M S k E) (u:Up M w M' w') (hS:∀ b,S b→w'.heap[b]?=w.heap[b]?) (SM:∀ b,S b→M' b) (lt:∀ b,M' b→b<w'.heap.size):EngR w' M' S k E:=by
 obtain ⟨kd,ka,md,ma,mr,kh,hv,h⟩:=h
 exact ⟨kd,ka,md,ma,mr,kh,hv,h.keep u hS SM lt⟩
theorem EngP.gr (h:EngP w M S k E kd ka md ma mr kh hv) (g:Gr w w'):EngP w' M S k E kd ka md ma mr kh hv :=
 h.keep (Gr.up g M) (fun b hb=>g.block b (h.lt b (h.SM b hb))) h.SM (fun b hb=>Nat.lt_of_lt_of_le (h.lt b hb) g.size)
theorem EngR.gr (h:EngR w M S k E) (g:Gr w w'):EngR w' M S k E:=by
 obtain ⟨kd,ka,md,ma,mr,kh,hv,h⟩:=h
 exact ⟨kd,ka,md,ma,mr,kh,hv,h.gr g⟩
theorem EngR.lt (h:EngR w M S k E):(∀ b,M b→b<w.heap.size)∧(∀ b,S b→M b)∧S k:=by
 obtain ⟨kd,ka,md,ma,mr,kh,hv,h⟩:=h
 exact ⟨h.lt,h.SM,h.sk⟩
theorem EngP.cells (h:EngP w M S k E kd ka md ma mr kh hv):w.cell? ⟨k,0,none⟩=some (.pointer (some ⟨kd,0,none⟩))∧w.cell? ⟨k,1,none⟩=some (.pointer (some ⟨ka,0,none⟩))∧w.cell? ⟨k,2,none⟩=some (.int .i64 E.shard)∧w.cell? ⟨k,3,none⟩=some (.int .i64 E.groups) ∧
  w.cell? ⟨k,4,none⟩=some (.int .i64 E.now)∧w.cell? ⟨k,5,none⟩=some (.map (some mr))∧w.cell? ⟨k,6,none⟩=some (.pointer (some ⟨kh,0,none⟩))∧k<w.heap.size:=by
 refine ⟨?_,?_,?_,?_,?_,?_,?_,block_lt h.cell⟩<;>simp [World.cell?,h.cell]
theorem zfS (w:World):(zeroValue 109).run Tryz.prog w=.ok (.agg #[.pointer none,.int .i64 0,.int .i64 0]) w:=by kernel_rfl
theorem EngP.look (h:EngP w M S k E kd ka md ma mr kh hv) (id:Int) (c:Bool) :
  (lk E.runs id=none∧∀ W,Gr w W→(Instr.lookup 76 (.map (some mr)) (.int .i64 id) c).run Tryz.prog W=.ok (if c then .tuple #[.agg #[.pointer none,.int .i64 0,.int .i64 0],.bool false] else .agg #[.pointer none,.int .i64 0,.int .i64 0]) W) ∨
  ∃ r kf,lk E.runs id=some r∧z7s w M kf r.f∧∀ W,Gr w W→(Instr.lookup 76 (.map (some mr)) (.int .i64 id) c).run Tryz.prog W=.ok (if c then .tuple #[runV kf r.pf r.pr,.bool true] else runV kf r.pf r.pr) W:=by
 obtain ⟨kv,h1,h2⟩:=h.r
 have hrun:=fun W (g:Gr w W)=>(h1.gr g).lookup (P:=Tryz.prog) Tryz.underlying76 Tryz.underlying3 (zfS W) id c
 rcases h2.lk id with ⟨e1,e2⟩ | ⟨r,v,e1,e2,kf,rfl,hf⟩
 ·rw [e2] at hrun
  exact .inl ⟨e1,hrun⟩
 ·rw [e2] at hrun
  exact .inr ⟨r,kf,e1,hf,hrun⟩
end
def RetS (M S:Bl) (k:Nat) (R:Option ES) (vok:Value) (vfull:Value→Prop) (w:World) (e:Ending) (w':World):Prop :=
 Mod S w w'∧match R with
 | some E'=>e=.returned vok∧∃ M' S',EngR w' M' S' k E'∧(∀ b,b<w.heap.size→S' b→S b)∧(∀ b,b<w.heap.size→M' b→M b)∧∀ b,M b→M' b
 | none=>∃ v,e=.returned v∧vfull v
section
variable {w w1 w2:World} {M M' S S':Bl} {k:Nat}
theorem RetS.after {R:Option ES} {vok:Value} {vfull:Value→Prop} {en:Ending} (hm:Mod S w w1) (hS:∀ b,b<w.heap.size→S' b→S b) (hM1:∀ b,b<w.heap.size→M' b→M b) (hM2:∀ b,M b→M' b) (h:RetS M' S' k R vok vfull w1 en w2):RetS M S k R vok vfull w en w2:=by
 obtain ⟨h1,h2⟩:=h
 refine ⟨hm.trans h1 hS,?_⟩
 cases R with
 | none=>exact h2
 | some E' =>
  obtain ⟨e,M2,S2,a,b,c,d⟩:=h2
  exact ⟨e,M2,S2,a,fun x hx hs=>hS x hx (b x (Nat.lt_of_lt_of_le hx hm.size) hs),fun x hx hs=>hM1 x hx (c x (Nat.lt_of_lt_of_le hx hm.size) hs),fun x hx=>d x (hM2 x hx)⟩
theorem RetS.grow {R:Option ES} {vok:Value} {vfull:Value→Prop} {en:Ending} (g:Gr w w1) (h:RetS M S k R vok vfull w1 en w2):RetS M S k R vok vfull w en w2 :=
 h.after (g.mod S) (fun _ _ e=>e) (fun _ _ e=>e) (fun _ e=>e)
theorem RetS.done {E:ES} {vok:Value} {vfull:Value→Prop} (h:EngR w1 M S k E) (m:Mod S w w1):RetS M S k (some E) vok vfull w (.returned vok) w1 :=
 ⟨m,rfl,M,S,h,fun _ _ e=>e,fun _ _ e=>e,fun _ e=>e⟩
theorem RetS.full {vok v:Value} {vfull:Value→Prop} (m:Mod S w w1) (hv:vfull v):RetS M S k none vok vfull w (.returned v) w1:=⟨m,v,rfl,hv⟩
end
end Go.Proofs.YtniknicnnaiilaaGreat
end
section
namespace Go.Proofs.YtniknicnnaiilaaGreat
set_option maxRecDepth 100000
open Go.RowKit Go.Ext Go.BigFrame Go.Maps Go.MapKept
attribute [local go_sem] Ext.cell Ext.frozen Ext.lt Ext.le s1 s2 s3 s4 s5 s6 t1 t2 t3 t4 t5 t6
attribute [local go_sem ↓] Go.wp_at_zero Go.wp_at_succ
set_option maxHeartbeats 4000000 in
theorem z8l (k mb:Nat) (m:Rows) (list:Int) (t:Task) (M:Bl) (w:World) (h:z1e w M k mb m) (hmb:M mb) (hM:∀ b,M b→b<w.heap.size) (hl:(rowOf m list).length≤100000) :
  Calls Tryz.prog 159 #[.pointer (some ⟨k,0,none⟩),.int .i64 list,tkV t] w
   (fun e w'=>match z38 m list t with | none=>e=.returned (.int .i64 4)∧Gr w w' | some m'=>RetL M k mb m' (.int .i64 0) w e w'):=by
 have H:=hid h
 have hlt:=h.lt
 have hne:=h.ne
 have HF:=hid (fun W (y:Gr w W)=>zbQ k mb m list M W (h.gr y))
 have HM:=hid hM
 have HMB:=hid hmb
 have c0:=h.c0
 have c1:=h.c1
 obtain ⟨i0,hi0,hz0,hz1,hz2⟩:=info_parts zci
 clear h hM hmb
 rcases t with ⟨t0,t1,t2,t3⟩
 simp only [tkV]
 unfold z38
 by_cases hfull:1024≤(rowOf m list).length
 ·rw [if_pos hfull]
  rw [decide_eq_true hfull] at HF
  clear hfull
  go_enter Tryz.func159,Tryz.ntmps159
  go_wp2_with (go_at_call 188;(with_reducible refine (HF.o _ ((Gr.refl w).alloc _)).mono ?_);rintro en _ ⟨rfl,y1,rfl⟩)
  go_ret
  exact ⟨rfl,((Gr.refl w).alloc _).ext y1⟩
 rw [if_neg hfull]
 rw [decide_eq_false hfull] at HF
 clear hfull
 simp only
 obtain ⟨ts,hts⟩:∃ ts,rowOf m list=ts:=⟨_,rfl⟩
 have HTSE:=hid hts
 rw [hts] at hl ⊢
 clear hts
 rw [show up m list (ts++[⟨t0,t1,t2,t3⟩])=setR m list (ts++[⟨t0,t1,t2,t3⟩]) by unfold setR;simp]
 go_enter Tryz.func159,Tryz.ntmps159
 go_upto_region 3 with (go_at_call 188;(with_reducible refine (HF.o _ ((Gr.refl w).alloc _)).mono ?_);rintro en _ ⟨rfl,y1,rfl⟩)
 have G1:=hid (((Gr.refl w).alloc (.cells #[.int .i64 t0,.int .i64 t1,.int .i64 t2,.int .i64 t3] 84)).ext y1)
 have HB1:=hid (show y1.val.heap[w.heap.size]?=some (.cells #[.int .i64 t0,.int .i64 t1,.int .i64 t2,.int .i64 t3] 84 (0,0)) from (y1.gr.block _ (by simp)).trans (heap_alloc_new w _))
 obtain ⟨W2,hW2⟩:∃ W2,y1.val=W2:=⟨_,rfl⟩
 rw [hW2] at HB1 G1 ⊢
 clear hW2
 have hk2:k<W2.heap.size:=Nat.lt_of_lt_of_le hlt.1 G1.o.size
 have hm2:mb<W2.heap.size:=Nat.lt_of_lt_of_le hlt.2 G1.o.size
 obtain ⟨b0,b1,b2,b3⟩:W2.cell? ⟨w.heap.size,0,none⟩=some (.int .i64 t0)∧W2.cell? ⟨w.heap.size,1,none⟩=some (.int .i64 t1)∧W2.cell? ⟨w.heap.size,2,none⟩=some (.int .i64 t2)∧W2.cell? ⟨w.heap.size,3,none⟩=some (.int .i64 t3):=by
  refine ⟨?_,?_,?_,?_⟩<;>simp [World.cell?,HB1.o]
 have hBlt:w.heap.size<W2.heap.size:=block_lt HB1.o
 have d1:W2.cell? ⟨k,1,none⟩=some (.map (some mb)):=(G1.o.cell (p:=⟨k,1,none⟩) hlt.1).trans c1
 have H2:=hid (H.o.gr G1.o)
 obtain ⟨A,c,hlook,ht⟩:=H2.o.look list
 have HLOOK:=hid hlook
 have HT:=hid ht
 obtain ⟨A',c',e',hc,hrd,hAc⟩:=ht
 injection e' with e1 _ e3
 subst e1 e3
 have HRD:=hid hrd
 have HMM:=hid (fun (W:World) (g:Gr W2 W)=>(show ∀ b,M b→b<W.heap.size from fun b hb=>Nat.lt_of_lt_of_le (HM.o b hb) (Nat.le_trans G1.o.size g.size)))
 rw [HTSE.o] at HLOOK HRD hc
 clear HT hlook hrd HTSE
 have HLEN:=hid (show (tksC ts).length=ts.length * 4 from z5c ts)
 have HTS:=hid (show ∀ (W:World) (B cap:Nat),RdM W M (some ⟨B,0,none⟩) (tksC ts++[.int .i64 t0,.int .i64 t1,.int .i64 t2,.int .i64 t3])→ts.length+1≤cap→TsM W M (.slice (some ⟨B,0,none⟩) (ts.length+1) cap) (ts++[⟨t0,t1,t2,t3⟩]) from fun W B cap hrd hcap =>
  ⟨some ⟨B,0,none⟩,cap,by simp,by simpa using hcap,by rw [zeg];exact hrd,fun e=>by cases e⟩)
 have HSET:=hid (fun (W:World) (g:Gr W2 W) (v:Value) (hv:TsM W M v (ts++[⟨t0,t1,t2,t3⟩]))=>za6 k mb m list v (ts++[⟨t0,t1,t2,t3⟩]) M W (H2.o.gr g) HMB.o hv)
 have FIN:=hid (show ∀ (W W':World) (en:Ending),Gr W2 W→RetL M k mb (setR m list (ts++[⟨t0,t1,t2,t3⟩])) (.tuple #[]) W en W'→RetL M k mb (setR m list (ts++[⟨t0,t1,t2,t3⟩])) (.int .i64 0) w (.returned (.int .i64 0)) W' from
  fun W W' en g ⟨_,h2,h3⟩=>⟨rfl,h2,((G1.o.trans g).mod _).trans h3 (fun _ _ e=>e)⟩)
 clear H2 HM HMB H HF
 generalize ts.length=n at *
 have hpure:∀ W W':World,W=W'→W'=W:=fun _ _ e=>e.symm
 clear hpure
 refine z1i [0,1,2,3,4,5,6,7,9] 4 (fun W=>Gr W2 W) (by kernel_rfl) (by kernel_rfl) (fun _ _ d _ _ h=>by cases d<;>exact h) (Gr.refl W2).drew (fun _=>?_)
 iterate 9 (refine z3x (v:=?_) rfl (by rfl) ?_ ?_;rotate_left;(focus (intro W9 hW9;have hl9:=HLOOK.o W9 hW9;obtain ⟨x9,rfl⟩:∃ x:Ext W2,W9=x.val:=⟨⟨W9,hW9⟩,rfl⟩;go_simp;(try with_reducible rfl);done));(try simp only [AP]))
 intro hcl
 refine z1X hcl (i:=8) (j:=10) (by kernel_rfl) (fun hcl1=>?_) (fun hcl1=>?_)
 ·refine z0N rfl (by rfl) (fun K hK=>?_)
  go_simp
  go_at_call 189
  refine (z5i A n c _ hc hAc).mono ?_
  rintro en _ ⟨rfl,y3,rfl⟩
  have G3:=hid ((Gr.refl W2).drew.ext y3)
  refine hK.o (fun W=>Gr W2 W) _ _ G3.o (fun _ g=>g) (fun _=>?_)
  clear hK K
  (try simp only [AP])
  refine z1d [(10,true),(11,true),(12,true)] hcl1 (by kernel_rfl) (fun _ _ d _ _ h=>by cases d<;>exact h) G3.o ?_
  refine z05 rfl (by rfl) (fun K hK=>?_)
  go_simp
  refine hK.o (fun W=>Gr W2 W) _ _ (G3.o.alloc _) (fun _ g=>g) (fun _=>?_)
  clear hK K
  (try simp only [AP])
  have HBB:=hid (heap_alloc_new y3.val (.cells #[.int .i64 t0,.int .i64 t1,.int .i64 t2,.int .i64 t3] 84))
  have G4:=hid (G3.o.alloc (.cells #[.int .i64 t0,.int .i64 t1,.int .i64 t2,.int .i64 t3] 84))
  obtain ⟨W4,hW4⟩:∃ W4,y3.val.alloc (.cells #[.int .i64 t0,.int .i64 t1,.int .i64 t2,.int .i64 t3] 84)=W4:=⟨_,rfl⟩
  obtain ⟨B4,hB4⟩:∃ B4,y3.val.heap.size=B4:=⟨_,rfl⟩
  rw [hW4] at HBB G4
  rw [hB4] at HBB
  rw [hW4,hB4]
  clear hW4 hB4
  refine z3E rfl (by rfl) (fun K hK=>?_)
  obtain ⟨cap,W5,hrun,g5,hcap,hr5⟩:=z34 (P:=Tryz.prog) (t:=198) (e:=84) Tryz.underlying198 hi0 hz0 hz1 (by omega) (by omega) (HRD.o.up (Gr.up G4.o M)) HLEN.o (B:=B4) (e':=84) (news:=[.int .i64 t0,.int .i64 t1,.int .i64 t2,.int .i64 t3]) HBB.o rfl (by intro u hu;simp only [List.mem_cons,List.not_mem_nil,or_false] at hu;rcases hu with rfl | rfl | rfl | rfl<;>rfl) (by omega) (HMM.o _ G4.o)
  refine z0s (by rfl) (.tmp 18) (.tmp 20) 198 198 (by rfl) _ _ (by rfl) (by rfl) (hrun _) ?_
  have G5:=hid (G4.o.trans g5)
  have HT5:=hid (HTS.o W5 _ cap hr5 hcap)
  refine hK.o (fun W=>Gr W2 W) _ _ G5.o (fun _ g=>g) (fun _=>?_)
  clear hK K hrun g5 hr5
  (try simp only [AP])
  refine z06 rfl (by rfl) (fun K hK=>?_)
  go_simp
  go_at_call 140
  refine (HSET.o W5 G5.o _ HT5.o).mono ?_
  rintro en w6 ⟨rfl,hl6,hm6⟩
  have F6:=hid (FIN.o _ _ _ G5.o ⟨rfl,hl6,hm6⟩)
  clear hl6 hm6
  refine hK.o _ _ ?_
  clear hK K
  go_wp2_with fail
  go_ret
  exact F6.o
 ·refine z0N rfl (by rfl) (fun K hK=>?_)
  go_simp
  refine hK.o (fun W=>Gr W2 W) _ _ ((Gr.refl W2).alloc _).drew (fun _ g=>g) (fun _=>?_)
  clear hK K
  (try simp only [AP])
  have G3:=hid ((Gr.refl W2).alloc (.cells #[.int .i64 t0,.int .i64 t1,.int .i64 t2,.int .i64 t3] 84)).drew
  have HBC:(W2.alloc (.cells #[.int .i64 t0,.int .i64 t1,.int .i64 t2,.int .i64 t3] 84)).drew.heap[W2.heap.size]?=some (.cells #[.int .i64 t0,.int .i64 t1,.int .i64 t2,.int .i64 t3] 84 (0,0)):=heap_alloc_new W2 (.cells #[.int .i64 t0,.int .i64 t1,.int .i64 t2,.int .i64 t3] 84)
  obtain ⟨W3,hW3⟩:∃ W3,(W2.alloc (.cells #[.int .i64 t0,.int .i64 t1,.int .i64 t2,.int .i64 t3] 84)).drew=W3:=⟨_,rfl⟩
  rw [hW3] at HBC G3
  rw [hW3]
  clear hW3
  refine z1d [(8,true),(11,true),(12,true)] hcl1 (by kernel_rfl) (fun _ _ d _ _ h=>by cases d<;>exact h) G3.o ?_
  refine z05 rfl (by rfl) (fun K hK=>?_)
  go_simp
  go_at_call 189
  refine (z5i A n c _ hc hAc).mono ?_
  rintro en _ ⟨rfl,y4,rfl⟩
  have G4:=hid (G3.o.ext y4)
  have HBB:=hid ((y4.gr.block W2.heap.size (block_lt HBC)).trans HBC)
  clear HBC
  obtain ⟨W4,hW4⟩:∃ W4,y4.val=W4:=⟨_,rfl⟩
  obtain ⟨B4,hB4⟩:∃ B4,W2.heap.size=B4:=⟨_,rfl⟩
  rw [hW4] at HBB G4
  rw [hB4] at HBB
  refine hK.o (fun W=>Gr W2 W) _ _ (hW4▸G4.o) (fun _ g=>g) (fun _=>?_)
  clear hK K
  (try simp only [AP])
  rw [hW4,hB4]
  clear hW4 hB4
  refine z3E rfl (by rfl) (fun K hK=>?_)
  obtain ⟨cap,W5,hrun,g5,hcap,hr5⟩:=z34 (P:=Tryz.prog) (t:=198) (e:=84) Tryz.underlying198 hi0 hz0 hz1 (by omega) (by omega) (HRD.o.up (Gr.up G4.o M)) HLEN.o (B:=B4) (e':=84) (news:=[.int .i64 t0,.int .i64 t1,.int .i64 t2,.int .i64 t3]) HBB.o rfl (by intro u hu;simp only [List.mem_cons,List.not_mem_nil,or_false] at hu;rcases hu with rfl | rfl | rfl | rfl<;>rfl) (by omega) (HMM.o _ G4.o)
  refine z0s (by rfl) (.tmp 18) (.tmp 20) 198 198 (by rfl) _ _ (by rfl) (by rfl) (hrun _) ?_
  have G5:=hid (G4.o.trans g5)
  have HT5:=hid (HTS.o W5 _ cap hr5 hcap)
  refine hK.o (fun W=>Gr W2 W) _ _ G5.o (fun _ g=>g) (fun _=>?_)
  clear hK K hrun g5 hr5
  (try simp only [AP])
  refine z06 rfl (by rfl) (fun K hK=>?_)
  go_simp
  go_at_call 140
  refine (HSET.o W5 G5.o _ HT5.o).mono ?_
  rintro en w6 ⟨rfl,hl6,hm6⟩
  have F6:=hid (FIN.o _ _ _ G5.o ⟨rfl,hl6,hm6⟩)
  clear hl6 hm6
  refine hK.o _ _ ?_
  clear hK K
  go_wp2_with fail
  go_ret
  exact F6.o
end Go.Proofs.YtniknicnnaiilaaGreat
end
