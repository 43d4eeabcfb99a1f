/- Lemmas of the engine. -/
import Derived.Lib.SlBytesConst
import Derived.Test.YtniknicnnaiilaaGreatX29
import Derived.Test.YtniknicnnaiilaaGreatX30
import Derived.Test.YtniknicnnaiilaaGreatX31
import Derived.Test.YtniknicnnaiilaaGreatX32
import Derived.Test.YtniknicnnaiilaaGreatX33
import Derived.Test.YtniknicnnaiilaaGreatX34
import Derived.Test.YtniknicnnaiilaaGreatX35
section
namespace Go.Proofs.YtniknicnnaiilaaGreat
set_option maxRecDepth 100000
open Go.RowKit Go.Ext Go.BigFrame Go.Maps Go.MapKept
attribute [local go_sem] Ext.cell Ext.frozen Ext.lt Ext.le s1 s2 s3 s4 s5 s6 t1 t2 t3 t4 t5 t6
attribute [local go_sem ↓] Go.wp_at_zero Go.wp_at_succ
theorem z5P (k mb:Nat) (F:FS) (e:Ev) (d:Value) (M:Bl) (w:World) (h:z0H w M k mb F) (hk:M k) (hmb:M mb) (hne:k≠mb) (hM:∀ b,M b→b<w.heap.size) (hd:Bys w d e.data) (hl:F.l.length≤1000000) (hi:FI F) (h1:1≤e.kind) (hw:e.kind=9∨e.kind=10∨e.kind=11→e.ref≠0) :
  Calls Tryz.prog 143 #[.pointer (some ⟨k,0,none⟩),evV e d] w (fun en w'=>en=.returned (.int .i64 (atF F))∧z0H w' M k mb (putF F e)∧Mod (fun b=>b=k∨b=mb) w w'):=by
 have hc:((e.kind=1)∨(e.kind=2)∨(e.kind=3)∨(e.kind=4)∨(e.kind=5∨e.kind=6)∨(e.kind=8))∨((e.kind=14)∨(e.kind=7∨e.kind=12∨e.kind=17)∨(19≤e.kind))∨((e.kind=16)∨(e.kind=15))∨(e.kind=9∨e.kind=10∨e.kind=11)∨(e.kind=13∨e.kind=18):=by omega
 rcases hc with hc | hc | hc | hc | hc
 ·exact zgO k mb F e d M w h hk hmb hne hM hd hl hc hi hw
 ·exact zgP k mb F e d M w h hk hmb hne hM hd hl hc hi hw
 ·exact zgQ k mb F e d M w h hk hmb hne hM hd hl hc hi hw
 ·exact zgR k mb F e d M w h hk hmb hne hM hd hl hc hi hw
 ·exact zgS k mb F e d M w h hk hmb hne hM hd hl hc hi hw
theorem zgX:z09 1=sh0:=funext fun id=>z4N id
theorem EngR.nS {w:World} {M S:Bl} {k:Nat} {E:ES} (h:EngR w M S k E) {b:Nat} (hb:w.heap.size≤b):¬ S b:=fun e=>by have:=h.lt.1 b (h.lt.2.1 b e);omega
theorem EngR.nM {w:World} {M S:Bl} {k:Nat} {E:ES} (h:EngR w M S k E) {b:Nat} (hb:w.heap.size≤b):¬ M b:=fun e=>by have:=h.lt.1 b e;omega
structure E1 (E:ES) (n:Nat):Prop where
 ok:EOk E
 g:E.groups=1
 due:E.due.length≤n
theorem E1.call {E:ES} {n:Nat} (h:E1 E n) (c:Call):E1 (z0z E c).2 (n+100):=by
 have hx:=z92 sh0 E c
 exact ⟨hx.ok h.ok,hx.groups.trans h.g,Nat.le_trans hx.due (Nat.add_le_add_right h.due _)⟩
theorem z4n (k:Nat) (E:ES) (c:Call) (d l:Value) (M S:Bl) (w:World) {n:Nat} (h:EngR w M S k E) (h1:E1 E n) (hn:n≤998000) (hc:z0P w M c d l) (hll:c.l.length≤140737488351232) (hdd:∀ d∈c.l,d.data.length≤140737488351232) :
  Calls Tryz.prog 14 #[.pointer (some ⟨k,0,none⟩),z0E c d l] w (z4D M S k (z0z E c).1 (z0z E c).2 w):=by
 have hs:=h1.ok.sh
 have hg:=h1.g
 have:=z9q (fun k mb F e d M w h hk hmb hne hM hd hl hi h1 hw=>z5P k mb F e d M w h hk hmb hne hM hd hl hi h1 hw) k E c d l M S w h h1.ok (Nat.le_trans h1.due hn) hc hll hdd (fun _=>⟨hg,by omega⟩)
 rw [hg,zgX] at this
 exact this
theorem z4x (M:Bl) (w:World) (hM:∀ b,M b→b<w.heap.size):Calls Tryz.prog 17 #[.int .i64 0,.int .i64 1] w (RetN M (e0 0 1) w):=z74 0 1 M w hM ⟨by decide,by decide⟩ ⟨by decide,by decide⟩
theorem zbu:E1 (e0 0 1) 0:=⟨ze1 0 1 ⟨by decide,by decide,by decide⟩,rfl,Nat.le_refl _⟩
structure Law (w0 w:World) (M S:Bl) (k:Nat) (E:ES) (n:Nat):Prop where
 eng:EngR w M S k E
 e1:E1 E n
 g:Gr w0 w
 s:∀ b,S b→w0.heap.size≤b
section
variable {w0 w w' w2:World} {M S M2 S2:Bl} {k n:Nat} {E E':ES}
theorem Law.gr (h:Law w0 w M S k E n) (g:Gr w w'):Law w0 w' M S k E n:=⟨h.eng.gr g,h.e1,h.g.trans g,h.s⟩
theorem Law.step {m:Nat} (h:Law w0 w M S k E n) (hal:z0j w M S w2 M2 S2) (heng:EngR w2 M2 S2 k E') (he:E1 E' m):Law w0 w2 M2 S2 k E' m :=
 ⟨heng,he,z2c h.g hal.mod h.s,fun b e=>by
  by_cases hb:b<w.heap.size
  ·exact h.s b (hal.s b hb e)
  ·have:=h.g.size
   omega⟩
theorem Law.born (h:RetN M (e0 0 1) w (.returned (.tuple #[.pointer (some ⟨k,0,none⟩),.int .i64 0])) w'):∃ M' S',Law w w' M' S' k (e0 0 1) 0:=by
 obtain ⟨M',S',k',e,g,h,_,_,hs⟩:=h
 injection e with e
 have:k'=k:=by
  injection e with e
  have:=congrArg (fun x:Array Value=>x[0]?) e
  simp at this
  exact this.symm
 exact ⟨M',S',this▸h,zbu,g,hs⟩
end
def zhc (w0:World) (M S:Bl) (k:Nat) (x:Ans × ES) (n:Nat) (w:World) (en:Ending) (w2:World):Prop :=
 ∃ A c A' c' M' S',en=.returned (ansV x.1 (.slice A x.1.data.length c) (.slice A' x.1.events.length c'))∧Law w0 w2 M' S' k x.2 (n+100)∧z0j w M S w2 M' S'∧BysM w2 M' (.slice A x.1.data.length c) x.1.data∧z08 evR w2 M' (.slice A' x.1.events.length c') x.1.events
theorem Law.call {w0 w:World} {M S:Bl} {k n:Nat} {E:ES} (h:Law w0 w M S k E n) (c:Call) (d l:Value) (hn:n≤998000) (hc:z0P w M c d l) (hll:c.l.length≤140737488351232) (hdd:∀ d∈c.l,d.data.length≤140737488351232) :
  Calls Tryz.prog 14 #[.pointer (some ⟨k,0,none⟩),z0E c d l] w (zhc w0 M S k (z0z E c) n w):=by
 refine (z4n k E c d l M S w h.eng h.e1 hn hc hll hdd).mono ?_
 rintro en w2 ⟨dv,ev,M2,S2,rfl,h2,hal2,hd2,he2⟩
 obtain ⟨A,ca,rfl⟩:=hd2.shape
 obtain ⟨A',ca',rfl,_⟩:=he2.shape
 exact ⟨A,ca,A',ca',M2,S2,rfl,h.step hal2 h2 (h.e1.call c),hal2,hd2,he2⟩
theorem z0q (w:World) (M:Bl) (c:Call) (h1:c.data=[]) (h2:c.l=[]):z0P w M c (.slice none 0 0) (.slice none 0 0):=⟨h1▸BysM.none w M,h2▸z08.none decR w M⟩
theorem z0j.keepb {w w2:World} {M S M2 S2:Bl} {b:Nat} {o:Obj} (hal:z0j w M S w2 M2 S2) (h:w.heap[b]?=some o) (hS:¬ S b):w2.heap[b]?=some o∧¬ S2 b :=
 ⟨(hal.mod.block b (Array.getElem?_eq_some_iff.1 h).1 hS).trans h,fun e=>hS (hal.s b (Array.getElem?_eq_some_iff.1 h).1 e)⟩
theorem z3e {w:World} {M:Bl} {B:Nat} {t:TypeId} {dv:Value} (dc:Dec) (h:w.heap[B]?=some (.cells #[.int .i64 dc.kind,.int .i64 dc.id,.int .i64 dc.list,.int .i64 dc.n,dv] t (0,0))) (hM:¬ M B) (hd:BysM w M dv dc.data):z08 decR w M (.slice (some ⟨B,0,none⟩) 1 1) [dc]:=by
 refine ⟨_,_,[dv],rfl,by simp,⟨hd,trivial⟩,fun _=>⟨B,0,rfl,hM,fun j u hu=>?_⟩,fun e=>by cases e⟩
 have hj:=(List.getElem?_eq_some_iff.1 hu).1
 simp [rowC,recC,decR] at hj hu
 rcases j with _ | _ | _ | _ | _ | j
 ·simp at hu;simp [World.cell?,h,hu]
 ·simp at hu;simp [World.cell?,h,hu]
 ·simp at hu;simp [World.cell?,h,hu]
 ·simp at hu;simp [World.cell?,h,hu]
 ·simp at hu;simp [World.cell?,h,hu]
 ·omega
theorem zdj {w:World} {M:Bl} {b:Nat} {fr:Nat × Nat} (x:UInt8) (h:w.heap[b]?=some (.cells #[.int .u8 (x.toNat:Int)] 5 fr)) (hM:¬ M b):BysM w M (.slice (some ⟨b,0,none⟩) 1 1) [x]:=by
 refine ⟨_,_,rfl,by simp,fun _=>⟨b,0,rfl,hM,fun j u hu=>?_⟩,fun e=>by cases e⟩
 have hj:=(List.getElem?_eq_some_iff.1 hu).1
 simp [bc] at hj
 subst hj
 simp [bc] at hu
 subst hu
 simp [World.cell?,h]
set_option maxHeartbeats 8000000 in
theorem z2e (w:World):Calls Tryz.prog 12 #[] w (RetE (.bool true) w):=by
 refine retE ?_
 go_enter Tryz.func12,Tryz.ntmps12
 go_wp2_with fail
 refine (z4x (fun _=>False) w (fun _ e=>e.elim)).mono ?_
 rintro en w1 hret
 obtain ⟨M0,S0,k,rfl,_⟩:=id hret
 obtain ⟨M1,S1,l1⟩:=Law.born hret
 have L1:=hid l1
 clear l1 hret
 go_wp2_with fail
 refine (L1.o.call ⟨1,3,1,5,tok0,[],[]⟩ (.slice none 0 0) (.slice none 0 0) (by omega) (z0q _ _ _ rfl rfl) (by simp) (by simp)).mono ?_
 rintro en w2 ⟨A2,c2,A2',c2',M2,S2,rfl,l2,-,-,-⟩
 have L2:=hid (show Law w w2 M2 S2 k k1.2 100 from l2)
 obtain ⟨⟨a0,a1,a2,a3,⟨a4,a5,a6,a7⟩,a8,a9⟩,ha⟩:∃ a,(z0z (e0 0 1) ⟨1,3,1,5,tok0,[],[]⟩).1=a:=⟨_,rfl⟩
 have hrun:a1=1:=by have:=zgs;rw [show k1.1=_ from ha] at this;exact this
 rw [ha]
 subst hrun
 clear l2 ha
 simp only [ansV,ansC]
 generalize a8.length=n8 at *
 generalize a9.length=n9 at *
 go_wp2_with fail
 have HB3:=hid (heap_alloc_new w2 (.cells #[.int .i64 a0,.int .i64 1,.int .i64 a2,.bool a3,.int .i64 a4,.int .i64 a5,.int .i64 a6,.int .i64 a7,.slice A2 n8 c2,.slice A2' n9 c2'] 31))
 have N3:=hid (L2.o.eng.nS (Nat.le_refl w2.heap.size))
 have L3:=hid (L2.o.gr ((Gr.refl w2).alloc (.cells #[.int .i64 a0,.int .i64 1,.int .i64 a2,.bool a3,.int .i64 a4,.int .i64 a5,.int .i64 a6,.int .i64 a7,.slice A2 n8 c2,.slice A2' n9 c2'] 31)))
 have G3:=hid ((Gr.refl w2).alloc (.cells #[.int .i64 a0,.int .i64 1,.int .i64 a2,.bool a3,.int .i64 a4,.int .i64 a5,.int .i64 a6,.int .i64 a7,.slice A2 n8 c2,.slice A2' n9 c2'] 31))
 obtain ⟨w3,hw3⟩:∃ w3,w2.alloc (.cells #[.int .i64 a0,.int .i64 1,.int .i64 a2,.bool a3,.int .i64 a4,.int .i64 a5,.int .i64 a6,.int .i64 a7,.slice A2 n8 c2,.slice A2' n9 c2'] 31)=w3:=⟨_,rfl⟩
 rw [hw3] at HB3 L3 G3 ⊢
 clear hw3
 refine (L3.o.call ⟨7,0,1,0,tok0,[],[]⟩ (.slice none 0 0) (.slice none 0 0) (by omega) (z0q _ _ _ rfl rfl) (by simp) (by simp)).mono ?_
 rintro en w4 ⟨A4,c4,A4',c4',M4,S4,rfl,l4,hal4,-,-⟩
 have L4:=hid (show Law w w4 M4 S4 k k2.2 200 from l4)
 have K3:=hid (hal4.keepb HB3.o N3.o)
 obtain ⟨⟨b0,b1,b2,b3,⟨b4,b5,b6,b7⟩,b8,b9⟩,hb⟩:∃ a,(z0z k1.2 ⟨7,0,1,0,tok0,[],[]⟩).1=a:=⟨_,rfl⟩
 have hgiv:b3=true:=by have:=zdN;rw [show k2.1=_ from hb] at this;exact this
 have htok:(⟨b4,b5,b6,b7⟩:Tok)=⟨3,1,2,0⟩:=by have:=zgt;rw [show k2.1=_ from hb] at this;exact this
 injection htok with t1 t2 t3 t4
 rw [hb]
 subst hgiv t1 t2 t3 t4
 clear l4 hb hal4
 simp only [ansV,ansC]
 generalize b8.length=m8 at *
 generalize b9.length=m9 at *
 go_upto_region 6 with fail
 have HB5:=hid (heap_alloc_new w4 (.cells #[.int .i64 b0,.int .i64 b1,.int .i64 b2,.bool true,.int .i64 3,.int .i64 1,.int .i64 2,.int .i64 0,.slice A4 m8 c4,.slice A4' m9 c4'] 31))
 have N5:=hid (L4.o.eng.nS (Nat.le_refl w4.heap.size))
 have L5:=hid (L4.o.gr ((Gr.refl w4).alloc (.cells #[.int .i64 b0,.int .i64 b1,.int .i64 b2,.bool true,.int .i64 3,.int .i64 1,.int .i64 2,.int .i64 0,.slice A4 m8 c4,.slice A4' m9 c4'] 31)))
 have G5:=hid ((Gr.refl w4).alloc (.cells #[.int .i64 b0,.int .i64 b1,.int .i64 b2,.bool true,.int .i64 3,.int .i64 1,.int .i64 2,.int .i64 0,.slice A4 m8 c4,.slice A4' m9 c4'] 31))
 obtain ⟨w5,hw5⟩:∃ w5,w4.alloc (.cells #[.int .i64 b0,.int .i64 b1,.int .i64 b2,.bool true,.int .i64 3,.int .i64 1,.int .i64 2,.int .i64 0,.slice A4 m8 c4,.slice A4' m9 c4'] 31)=w5:=⟨_,rfl⟩
 rw [hw5] at HB5 L5 G5 ⊢
 clear hw5
 obtain ⟨z0,z1,z2,z3,z4,z5,z6,z7,z8,z9⟩:=z04 HB5.o
 have z10:=block_lt HB5.o
 have hcv:=Lib.run_convert_bytes_const (P:=Tryz.prog) w5 22 5 #[.int .u8 120] 1 1 Tryz.underlying22 Tryz.underlying5
 go_wp2_with fail
 clear hcv z0 z1 z2 z3 z4 z5 z6 z7 z8 z9 z10
 obtain ⟨w6,hw6,g6,hq0,hq1⟩:=z4Q w5 (.cells #[.int .u8 120] 5 (1,2)) (.cells #[.int .i64 5,.int .i64 0,.int .i64 0,.int .i64 0,.slice (some ⟨w5.heap.size,0,none⟩) 1 1] 39)
 rw [hw6]
 have L6:=hid (L5.o.gr g6)
 have K5:=hid (And.intro ((g6.block _ (block_lt HB5.o)).trans HB5.o) N5.o)
 have K3':=hid (And.intro ((g6.block _ (Nat.lt_of_lt_of_le (block_lt K3.o.1) G5.o.size)).trans ((G5.o.block _ (block_lt K3.o.1)).trans K3.o.1)) K3.o.2)
 clear hw6
 refine (L6.o.call ⟨8,0,0,0,⟨3,1,2,0⟩,[],[⟨5,0,0,0,[120]⟩]⟩ (.slice none 0 0) (.slice (some ⟨w5.heap.size+1,0,none⟩) 1 1) (by omega) ⟨BysM.none _ _,z3e ⟨5,0,0,0,[120]⟩ hq1 (L5.o.eng.nM (Nat.le_succ _)) (zdj 120 hq0 (L5.o.eng.nM (Nat.le_refl _)))⟩ (by simp) (by simp)).mono ?_
 rintro en w7 ⟨A7,c7,A7',c7',M7,S7,rfl,l7,hal7,-,-⟩
 have L7:=hid (show Law w w7 M7 S7 k k3.2 300 from l7)
 have J3:=hid (hal7.keepb K3'.o.1 K3'.o.2)
 have J5:=hid (hal7.keepb K5.o.1 K5.o.2)
 obtain ⟨⟨d0,d1,d2,d3,⟨d4,d5,d6,d7⟩,d8,d9⟩,hd⟩:∃ a,(z0z k2.2 ⟨8,0,0,0,⟨3,1,2,0⟩,[],[⟨5,0,0,0,[120]⟩]⟩).1=a:=⟨_,rfl⟩
 have herr:d0=0:=by have:=zgu;rw [show k3.1=_ from hd] at this;exact this
 rw [hd]
 subst herr
 clear l7 hd hal7 g6 hq0 hq1
 simp only [ansV,ansC]
 generalize d8.length=q8 at *
 generalize d9.length=q9 at *
 go_upto_region 7 with fail
 have HB7:=hid (heap_alloc_new w7 (.cells #[.int .i64 0,.int .i64 d1,.int .i64 d2,.bool d3,.int .i64 d4,.int .i64 d5,.int .i64 d6,.int .i64 d7,.slice A7 q8 c7,.slice A7' q9 c7'] 31))
 have N7:=hid (L7.o.eng.nS (Nat.le_refl w7.heap.size))
 have L8:=hid (L7.o.gr ((Gr.refl w7).alloc (.cells #[.int .i64 0,.int .i64 d1,.int .i64 d2,.bool d3,.int .i64 d4,.int .i64 d5,.int .i64 d6,.int .i64 d7,.slice A7 q8 c7,.slice A7' q9 c7'] 31)))
 have G7:=hid ((Gr.refl w7).alloc (.cells #[.int .i64 0,.int .i64 d1,.int .i64 d2,.bool d3,.int .i64 d4,.int .i64 d5,.int .i64 d6,.int .i64 d7,.slice A7 q8 c7,.slice A7' q9 c7'] 31))
 obtain ⟨w8,hw8⟩:∃ w8,w7.alloc (.cells #[.int .i64 0,.int .i64 d1,.int .i64 d2,.bool d3,.int .i64 d4,.int .i64 d5,.int .i64 d6,.int .i64 d7,.slice A7 q8 c7,.slice A7' q9 c7'] 31)=w8:=⟨_,rfl⟩
 rw [hw8] at HB7 L8 G7 ⊢
 clear hw8
 go_wp2_with fail
 refine (L8.o.call ⟨5,3,0,0,tok0,[],[]⟩ (.slice none 0 0) (.slice none 0 0) (by omega) (z0q _ _ _ rfl rfl) (by simp) (by simp)).mono ?_
 rintro en w9 ⟨A9,c9,A9',c9',M9,S9,rfl,l9,hal9,hd9,-⟩
 have L9:=hid (show Law w w9 M9 S9 k k4.2 400 from l9)
 have I3:=hid (hal9.keepb ((G7.o.block _ (block_lt J3.o.1)).trans J3.o.1) J3.o.2)
 have I5:=hid (hal9.keepb ((G7.o.block _ (block_lt J5.o.1)).trans J5.o.1) J5.o.2)
 have I7:=hid (hal9.keepb HB7.o N7.o)
 obtain ⟨⟨e0,e1,e2,e3,⟨e4,e5,e6,e7⟩,e8,e9⟩,he⟩:∃ a,(z0z k3.2 ⟨5,3,0,0,tok0,[],[]⟩).1=a:=⟨_,rfl⟩
 have hst:e2=2:=by have:=zcj;rw [show k4.1=_ from he] at this;exact this
 have hdt:e8=[120]:=by have:=zfn;rw [show k4.1=_ from he] at this;exact this
 rw [he] at hd9 ⊢
 subst hst hdt
 have HD9:=hid hd9.bys
 clear l9 he hal9 hd9
 simp only [ansV,ansC,List.length_cons,List.length_nil,Nat.zero_add]
 generalize e9.length=r9 at *
 go_upto_region 8 with fail
 have HB9:=hid (heap_alloc_new w9 (.cells #[.int .i64 e0,.int .i64 e1,.int .i64 2,.bool e3,.int .i64 e4,.int .i64 e5,.int .i64 e6,.int .i64 e7,.slice A9 1 c9,.slice A9' r9 c9'] 31))
 have N9:=hid (L9.o.eng.nS (Nat.le_refl w9.heap.size))
 have La:=hid (L9.o.gr ((Gr.refl w9).alloc (.cells #[.int .i64 e0,.int .i64 e1,.int .i64 2,.bool e3,.int .i64 e4,.int .i64 e5,.int .i64 e6,.int .i64 e7,.slice A9 1 c9,.slice A9' r9 c9'] 31)))
 have G9:=hid ((Gr.refl w9).alloc (.cells #[.int .i64 e0,.int .i64 e1,.int .i64 2,.bool e3,.int .i64 e4,.int .i64 e5,.int .i64 e6,.int .i64 e7,.slice A9 1 c9,.slice A9' r9 c9'] 31))
 obtain ⟨wa,hwa⟩:∃ wa,w9.alloc (.cells #[.int .i64 e0,.int .i64 e1,.int .i64 2,.bool e3,.int .i64 e4,.int .i64 e5,.int .i64 e6,.int .i64 e7,.slice A9 1 c9,.slice A9' r9 c9'] 31)=wa:=⟨_,rfl⟩
 rw [hwa] at HB9 La G9 ⊢
 clear hwa
 have T3:=(G9.o.block _ (block_lt I3.o.1)).trans I3.o.1
 have T5:=(G9.o.block _ (block_lt I5.o.1)).trans I5.o.1
 have T7:=(G9.o.block _ (block_lt I7.o.1)).trans I7.o.1
 obtain ⟨x0,x1,x2,x3,x4,x5,x6,x7,x8,x9⟩:=z04 T3
 obtain ⟨y0,y1,y2,y3,y4,y5,y6,y7,y8,y9⟩:=z04 T5
 obtain ⟨z0,z1,z2,z3,z4,z5,z6,z7,z8,z9⟩:=z04 T7
 obtain ⟨v0,v1,v2,v3,v4,v5,v6,v7,v8,v9⟩:=z04 HB9.o
 have lx:=block_lt T3
 have ly:=block_lt T5
 have lz:=block_lt T7
 have lv:=block_lt HB9.o
 have hcv:=z1D (HD9.o.gr G9.o)
 simp only [List.length_cons,List.length_nil,Nat.zero_add] at hcv
 have heq:=fun W=>eq28 3 1 2 0 3 1 2 0 W
 simp only [decide_true] at heq
 have hsb:((sb [120]).toList==[120])=true:=by kernel_rfl
 go_wp2_with fail
 go_ret
 exact ⟨rfl,La.o.g⟩
end Go.Proofs.YtniknicnnaiilaaGreat
end
