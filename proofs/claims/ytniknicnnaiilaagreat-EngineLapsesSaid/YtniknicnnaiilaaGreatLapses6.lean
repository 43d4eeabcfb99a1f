/- Lemmas of the engine. -/
import Derived.ChangeOld
import Derived.ChangeSame
import Derived.Deep.Fields
import Derived.Deep.Slices
import Derived.Lib.SmallJoins
import Derived.OpenShut
import Derived.ProofKit
import Derived.SizedLaws
import Derived.Test.YtniknicnnaiilaaGreatX01
import Derived.Test.YtniknicnnaiilaaGreatX30
import Derived.Test.YtniknicnnaiilaaGreatLapses1
import Derived.Test.YtniknicnnaiilaaGreatLapses2
import Derived.Test.YtniknicnnaiilaaGreatLapses4
import Derived.Test.YtniknicnnaiilaaGreatLapses5
section
namespace Go.Proofs.YtniknicnnaiilaaGreat
set_option maxRecDepth 100000
open Go.RowKit Go.Ext Go.BigFrame Go.Maps Go.MapKept
attribute [local go_sem] Ext.cell Ext.frozen Ext.lt Ext.le s1 s2 s3 s4 s5 s6 t1 t2 t3 t4 t5 t6
attribute [local go_sem ↓] Go.wp_at_zero Go.wp_at_succ
theorem zdv {E:ES} {m:Nat} (h:E1 E m) (n:Int):E1 (z0S E n).2 m:=⟨(z2x E n).1 h.ok,(z2x E n).2.2.1.trans h.g,Nat.le_trans (z2x E n).2.1 h.due⟩
theorem zeV {E:ES} (h:EOk E) (hc:EC E) (n:Int):EC (z0S E n).2:=by
 unfold z0S
 split
 ·exact hc
 split
 ·exact hc
 ·exact z8R (E.now+n) E.due.length E h hc
structure Lc (w0 w:World) (M S:Bl) (k:Nat) (E:ES) (n:Nat):Prop where
 lw:Lw w0 w M S k E n
 ec:EC E
section
variable {w0 w w' w2:World} {M S M2 S2:Bl} {k n:Nat} {E E':ES}
theorem Lc.gr (h:Lc w0 w M S k E n) (g:Gr w w'):Lc w0 w' M S k E n:=⟨h.lw.gr g,h.ec⟩
end
def zfZ (w0:World) (M S:Bl) (k:Nat) (x:Ans × ES) (n:Nat) (w:World) (en:Ending) (w2:World):Prop :=
 ∃ A c A' c' M' S',en=.returned (ansV x.1 (.slice A x.1.data.length c) (.slice A' x.1.events.length c'))∧Lc w0 w2 M' S' k x.2 (n+100)∧z0j w M S w2 M' S'∧z08 evR w2 M' (.slice A' x.1.events.length c') x.1.events
theorem Lc.call {w0 w:World} {M S:Bl} {k n:Nat} {E:ES} (h:Lc w0 w M S k E n) (c:Call) (hn:n≤998000) (h1:c.data=[]) (h2:c.l=[]) :
  Calls Tryz.prog 14 #[.pointer (some ⟨k,0,none⟩),z0E c (.slice none 0 0) (.slice none 0 0)] w (zfZ w0 M S k (z0z E c) n w):=by
 refine (h.lw.call c (.slice none 0 0) (.slice none 0 0) hn (z0q _ _ _ h1 h2) (by rw [h2];simp) (by rw [h2];simp)).mono ?_
 rintro en w2 ⟨A,c1,A',c1',M',S',rfl,l,al,-,he⟩
 exact ⟨A,c1,A',c1',M',S',rfl,⟨l,z6O sh0 h.lw.law.e1.ok h.ec c⟩,al,he⟩
theorem Lc.poll {w0 w:World} {M S:Bl} {k n:Nat} {E:ES} (h:Lc w0 w M S k E n) (list:Int) (hn:n≤998000) :
  Calls Tryz.prog 16 #[.pointer (some ⟨k,0,none⟩),.int .i64 list] w (zfZ w0 M S k (z0z E ⟨7,0,list,0,tok0,[],[]⟩) n w):=by
 refine (z3b h.lw list hn).mono ?_
 rintro en w2 ⟨A,c1,A',c1',M',S',rfl,l,al,-,he⟩
 exact ⟨A,c1,A',c1',M',S',rfl,⟨l,z6O sh0 h.lw.law.e1.ok h.ec _⟩,al,he⟩
def zha (w0:World) (M S:Bl) (k:Nat) (x:Ans × ES) (n:Nat) (w:World) (en:Ending) (w2:World):Prop:=∃ M' S',en=.returned (.int .i64 x.1.err)∧Lc w0 w2 M' S' k x.2 (n+100)∧z0j w M S w2 M' S'
theorem Lc.decide {w0 w:World} {M S:Bl} {k n:Nat} {E:ES} (h:Lc w0 w M S k E n) (t:Tok) (l:List Dec) (lv:Value) (hn:n≤998000) (hl:z08 decR w M lv l) (hll:l.length≤100000) (hdd:∀ d∈l,d.data.length≤1000000) :
  Calls Tryz.prog 15 #[.pointer (some ⟨k,0,none⟩),.agg #[.int .i64 t.flow,.int .i64 t.run,.int .i64 t.event,.int .i64 t.turn],lv] w (zha w0 M S k (z0z E ⟨8,0,0,0,t,[],l⟩) n w):=by
 refine (z1q h.lw t l lv hn hl hll hdd).mono ?_
 rintro en w2 ⟨M',S',rfl,l2,al⟩
 exact ⟨M',S',rfl,⟨l2,z6O sh0 h.lw.law.e1.ok h.ec _⟩,al⟩
def zhb (w0:World) (M S:Bl) (k:Nat) (x:Int × ES) (n:Nat) (w:World) (en:Ending) (w2:World):Prop:=∃ M' S',en=.returned (.int .i64 x.1)∧Lc w0 w2 M' S' k x.2 n∧z0j w M S w2 M' S'
theorem Lc.tick {w0 w:World} {M S:Bl} {k n:Nat} {E:ES} (h:Lc w0 w M S k E n) (x:Int) (hn:n≤990000) :
  Calls Tryz.prog 23 #[.pointer (some ⟨k,0,none⟩),.int .i64 x] w (zhb w0 M S k (z0S E x) n w):=by
 refine (z5W (fun k mb F e d M w h hk hmb hne hM hd hl hi h1 hw=>z5P k mb F e d M w h hk hmb hne hM hd hl hi h1 hw) k E x M S w h.lw.law.eng h.lw.law.e1.ok (Nat.le_trans h.lw.law.e1.due hn)).mono ?_
 rintro en w2 ⟨M',S',rfl,e2,al⟩
 exact ⟨M',S',rfl,⟨h.lw.step al e2 (zdv h.lw.law.e1 x),zeV h.lw.law.e1.ok h.ec x⟩,al⟩
set_option maxHeartbeats 16000000 in
theorem zaL (n late times:Int) (w:World):Calls Tryz.prog 9 #[.int .i64 n,.int .i64 late,.int .i64 times] w (RetE (.bool true) w):=by
 have HKN:=hid z2e
 refine retE ?_
 go_enter Tryz.func9,Tryz.ntmps9
 go_upto_region 3 with (go_at_call 12;refine (HKN.o _).mono ?_;rintro en _ ⟨rfl,y1,rfl⟩)
 have hk:n<1∨(¬ n<1∧50<n)∨(¬ n<1∧¬ 50<n∧late<0)∨(¬ n<1∧¬ 50<n∧¬ late<0∧50<late)∨(¬ n<1∧¬ 50<n∧¬ late<0∧¬ 50<late∧times<1)∨(¬ n<1∧¬ 50<n∧¬ late<0∧¬ 50<late∧¬ times<1∧12<times)∨(¬ n<1∧¬ 50<n∧¬ late<0∧¬ 50<late∧¬ times<1∧¬ 12<times):=by omega
 rcases hk with h0 | ⟨h0,h1⟩ | ⟨h0,h1,h2⟩ | ⟨h0,h1,h2,h3⟩ | ⟨h0,h1,h2,h3,h4⟩ | ⟨h0,h1,h2,h3,h4,h5⟩ | ⟨h0,h1,h2,h3,h4,h5⟩
 iterate 6
  ·go_wp2_with fail
   go_ret
   exact ⟨rfl,y1.gr⟩
 have HNL:=hid (show (1≤n∧n≤50)∧(0≤late∧late≤50)∧1≤times∧times≤12 from ⟨⟨by omega,by omega⟩,⟨by omega,by omega⟩,by omega,by omega⟩)
 go_wp2_with fail
 clear h0 h1 h2 h3 h4 h5
 refine (z56 _).mono ?_
 rintro en w1 ⟨k,M1,Q1,rfl,l1⟩
 have L1:=hid (show Lc w w1 M1 Q1 k (e0 0 1) 0 from ⟨⟨⟨l1.law.eng,l1.law.e1,y1.gr.trans l1.law.g,fun b e=>Nat.le_trans y1.gr.size (l1.law.s b e)⟩,fun b e=>Nat.le_trans y1.gr.size (l1.m b e)⟩,zgf⟩)
 clear l1
 go_wp2_with fail
 have hc:=L1.o.call ⟨1,9,1,n,tok0,[],[]⟩ (by omega) rfl rfl
 rw [lp_1 HNL.o.1] at hc
 refine hc.mono ?_
 clear hc
 rintro en w2 ⟨A2,c2,A2',c2',M2,Q2,rfl,l2,-,-⟩
 have L2:=hid l2
 clear l2
 simp only [ansV,ansC,ans0,tok0,List.length_nil]
 go_wp2_with fail
 go_loopw [8] (fun iv wr=>∃ (i:Nat) (now s kk:Int) (L:List Ev) (M S:Bl) (m:Nat),iv=.int .i64 i∧(i:Int)≤times∧s≤now∧0≤now∧now≤100 * i∧(L.length:Int)=kk∧L.length≤1+3 * i∧Lc w wr M S k (LS n now s i kk L) m∧m≤1000 * (i+1)) (fun iv _=>times.toNat-(intOf iv).toNat)
 case atStart=>exact ⟨0,0,0,1,_,M2,Q2,_,rfl,by have:=HNL.o;omega,Int.le_refl _,Int.le_refl _,by omega,rfl,by simp,L2.o,by omega⟩
 case round =>
  obtain ⟨i,now,s,kk,L,M,S,m,rfl,hi,hs,hn0,hn1,hkk,hL,hl,hm⟩:=hrel
  have HL:=hid hl
  have HF:=hid (show s≤now∧(0≤now∧now≤3000)∧now≤100 * i∧(L.length:Int)=kk∧L.length≤1+3 * i∧m≤1000 * (i+1)∧(i:Int)≤12 from ⟨hs,⟨hn0,by have:=HNL.o;omega⟩,hn1,hkk,hL,hm,by have:=HNL.o;omega⟩)
  clear hl hs hn0 hn1 hkk hL hm L1 L2
  have hi12:(i:Int)≤12:=HF.o.2.2.2.2.2.2
  have kw:IntKind.i64.wrap (n+late)=n+late:=IntWalk.i64_in _ (by have:=HNL.o;omega)
  by_cases hlt:(i:Int)<times
  ·go_wp2_with fail
   have hc:=HL.o.poll 1 (by have:=HF.o;omega)
   rw [lp_2 HF.o.1 HF.o.2.1 (by have:=HF.o;omega) HF.o.2.2.2.1 (by have:=HF.o;omega)] at hc
   refine hc.mono ?_
   clear hc
   rintro en w3 ⟨A3,c3,A3',c3',M3,Q3,rfl,l3,-,-⟩
   have L3:=hid l3
   have N3:=hid (l3.lw.law.eng.nS (Nat.le_refl w3.heap.size))
   clear l3
   simp only [ansV,ansC,ans0,tok0,List.length_nil]
   go_upto_region 13 with fail
   obtain ⟨w4,hw4⟩:∃ w4,w3.alloc (.cells #[.int .i64 0,.int .i64 0,.int .i64 0,.bool true,.int .i64 9,.int .i64 1,.int .i64 (kk+1),.int .i64 i,.slice A3 0 c3,.slice A3' 0 c3'] 31)=w4:=⟨_,rfl⟩
   have HB4:=hid (hw4▸heap_alloc_new w3 (.cells #[.int .i64 0,.int .i64 0,.int .i64 0,.bool true,.int .i64 9,.int .i64 1,.int .i64 (kk+1),.int .i64 i,.slice A3 0 c3,.slice A3' 0 c3'] 31))
   have L4:=hid (L3.o.gr (hw4▸(Gr.refl w3).alloc (.cells #[.int .i64 0,.int .i64 0,.int .i64 0,.bool true,.int .i64 9,.int .i64 1,.int .i64 (kk+1),.int .i64 i,.slice A3 0 c3,.slice A3' 0 c3'] 31)))
   rw [hw4]
   clear hw4
   obtain ⟨x0,x1,x2,x3,x4,x5,x6,x7,x8,x9⟩:=z04 HB4.o
   have lx:=block_lt HB4.o
   go_wp2_with fail
   clear x0 x1 x2 x3 x4 x5 x6 x7 x8 x9
   have hc:=L4.o.poll 1 (by have:=HF.o;omega)
   try simp only at hc
   rw [lp_3] at hc
   refine hc.mono ?_
   clear hc
   rintro en w5 ⟨A5,c5,A5',c5',M5,Q5,rfl,l5,hal5,-⟩
   have L5:=hid l5
   have K5:=hid (hal5.keepb HB4.o N3.o)
   clear l5 hal5
   simp only [ansV,ansC,ans0,tok0,List.length_nil]
   have hfld:=z3L
   go_wp2_with fail
   clear hfld
   have hc:=L5.o.tick (n+late) (by have:=HF.o;omega)
   try simp only at hc
   rw [lp_4 HNL.o.1 HNL.o.2.1 HF.o.2.1 HF.o.2.2.2.1 (by have:=HF.o;omega)] at hc
   refine hc.mono ?_
   clear hc
   rintro en w6 ⟨M6,Q6,rfl,l6,hal6⟩
   have L6:=hid l6
   have K6:=hid (hal6.keepb K5.o.1 K5.o.2)
   clear l6 hal6
   obtain ⟨x0,x1,x2,x3,x4,x5,x6,x7,x8,x9⟩:=z04 K6.o.1
   have lx6:=block_lt K6.o.1
   go_wp2_with fail
   clear x0 x1 x2 x3 x4 x5 x6 x7 x8 x9
   have hc:=L6.o.decide ⟨9,1,kk+1,i⟩ [] (.slice none 0 0) (by have:=HF.o;omega) (z08.none _ _ _) (by simp) (by simp)
   try simp only at hc
   rw [lp_5 (by have:=HNL.o;omega) (by have:=HNL.o;have:=HF.o;omega) (by have:=HF.o;omega) (by have:=HF.o;omega)] at hc
   refine hc.mono ?_
   clear hc
   rintro en w7 ⟨M7,Q7,rfl,l7,-⟩
   have L7:=hid l7
   clear l7
   simp only [z0b,ans0]
   go_wp2_with fail
   go_roundw
   case rel=>exact ⟨i+1,now+(n+late),now+n,kk+3,_,M7,Q7,_,by go_num,by omega,by have:=HNL.o;omega,by have:=HNL.o;have:=HF.o;omega,by have:=HNL.o;have:=HF.o;omega,by have:=HF.o;simp only [List.length_append,List.length_cons,List.length_nil];omega,by have:=HF.o;simp only [List.length_append,List.length_cons,List.length_nil];omega,L7.o,by have:=HF.o;omega⟩
   case measure=>simp [intOf];omega
  ·go_wp2_with fail
   have hc:=HL.o.poll 1 (by have:=HF.o;omega)
   rw [lp_2 HF.o.1 HF.o.2.1 (by have:=HF.o;omega) HF.o.2.2.2.1 (by have:=HF.o;omega)] at hc
   refine hc.mono ?_
   clear hc
   rintro en w3 ⟨A3,c3,A3',c3',M3,Q3,rfl,l3,-,-⟩
   have L3:=hid l3
   clear l3
   simp only [ansV,ansC,ans0,tok0,List.length_nil]
   go_upto_region 19 with fail
   obtain ⟨w4,hw4⟩:∃ w4,w3.alloc (.cells #[.int .i64 0,.int .i64 0,.int .i64 0,.bool true,.int .i64 9,.int .i64 1,.int .i64 (kk+1),.int .i64 i,.slice A3 0 c3,.slice A3' 0 c3'] 31)=w4:=⟨_,rfl⟩
   have HB4:=hid (hw4▸heap_alloc_new w3 (.cells #[.int .i64 0,.int .i64 0,.int .i64 0,.bool true,.int .i64 9,.int .i64 1,.int .i64 (kk+1),.int .i64 i,.slice A3 0 c3,.slice A3' 0 c3'] 31))
   have G4:=hid (hw4▸(Gr.refl w3).alloc (.cells #[.int .i64 0,.int .i64 0,.int .i64 0,.bool true,.int .i64 9,.int .i64 1,.int .i64 (kk+1),.int .i64 i,.slice A3 0 c3,.slice A3' 0 c3'] 31))
   have L4:=hid (L3.o.gr G4.o)
   rw [hw4]
   clear hw4
   obtain ⟨x0,x1,x2,x3,x4,x5,x6,x7,x8,x9⟩:=z04 HB4.o
   have lx:=block_lt HB4.o
   go_wp2_with fail
   clear x0 x1 x2 x3 x4 x5 x6 x7 x8 x9
   have hg:=(Gr.refl w4).alloc (.cells #[.int .i64 1,.int .i64 1,.int .i64 4,.int .i64 n,.slice none 0 0] 39)
   have hc:=(L4.o.gr hg).decide ⟨9,1,kk+1,i⟩ [⟨1,1,4,n,[]⟩] (.slice (some ⟨w4.heap.size,0,none⟩) 1 1) (by have:=HF.o;omega) (z3e _ (heap_alloc_new w4 _) (L4.o.lw.law.eng.nM (Nat.le_refl _)) (BysM.none _ _)) (by simp) (by simp)
   try simp only at hc
   rw [lp_6 HNL.o.1 HF.o.2.1 (by have:=HF.o;omega) HF.o.2.2.2.1 (by have:=HF.o;omega)] at hc
   refine hc.mono ?_
   clear hc hg
   rintro en w5 ⟨M5,Q5,rfl,l5,-⟩
   have L5:=hid l5
   clear l5
   simp only [ans0]
   go_wp2_with fail
   obtain ⟨a7,ha7,ht7,hq⟩:=lp_7 (n:=n) (s:=s) (i:=i) HF.o.2.1 HF.o.2.2.2.1 (by have:=HF.o;omega)
   have hc:=L5.o.call ⟨9,0,4,0,tok0,[],[]⟩ (by have:=HF.o;omega) rfl rfl
   try simp only at hc
   rw [hq] at hc
   refine hc.mono ?_
   clear hc hq
   rintro en w6 ⟨A6,c6,A6',c6',M6,Q6,rfl,l6,-,-⟩
   have L6:=hid l6
   have N6:=hid (l6.lw.law.eng.nS (Nat.le_refl w6.heap.size))
   clear l6
   rcases a7 with ⟨v0,v1,v2,v3,⟨v4,v5,v6,v7⟩,v8,v9⟩
   simp only [Tok.mk.injEq] at ha7 ht7
   obtain ⟨rfl,rfl,rfl,rfl⟩:=ht7
   subst ha7
   simp only [ansV,ansC]
   generalize v8.length=n8 at *
   generalize v9.length=n9 at *
   go_upto_region 22 with fail
   obtain ⟨w7,hw7⟩:∃ w7,w6.alloc (.cells #[.int .i64 v0,.int .i64 v1,.int .i64 v2,.bool true,.int .i64 9,.int .i64 1,.int .i64 (kk+4),.int .i64 0,.slice A6 n8 c6,.slice A6' n9 c6'] 31)=w7:=⟨_,rfl⟩
   have HB7:=hid (hw7▸heap_alloc_new w6 (.cells #[.int .i64 v0,.int .i64 v1,.int .i64 v2,.bool true,.int .i64 9,.int .i64 1,.int .i64 (kk+4),.int .i64 0,.slice A6 n8 c6,.slice A6' n9 c6'] 31))
   have G7:=hid (hw7▸(Gr.refl w6).alloc (.cells #[.int .i64 v0,.int .i64 v1,.int .i64 v2,.bool true,.int .i64 9,.int .i64 1,.int .i64 (kk+4),.int .i64 0,.slice A6 n8 c6,.slice A6' n9 c6'] 31))
   have L7:=hid (L6.o.gr G7.o)
   rw [hw7]
   clear hw7
   have kw2:IntKind.i64.wrap (n+late)=n+late:=kw
   go_wp2_with fail
   have hc:=L7.o.tick (n+late) (by have:=HF.o;omega)
   try simp only at hc
   rw [lp_8 HNL.o.1 HNL.o.2.1 HF.o.2.1 HF.o.2.2.2.1 (by have:=HF.o;omega)] at hc
   refine hc.mono ?_
   clear hc
   rintro en w8 ⟨M8,Q8,rfl,l8,hal8⟩
   have L8:=hid l8
   have K8:=hid (hal8.keepb HB7.o N6.o)
   clear l8 hal8
   obtain ⟨x0,x1,x2,x3,x4,x5,x6,x7,x8,x9⟩:=z04 K8.o.1
   have lx8:=block_lt K8.o.1
   go_wp2_with fail
   clear x0 x1 x2 x3 x4 x5 x6 x7 x8 x9
   have hc:=L8.o.call ⟨10,0,0,0,⟨9,1,kk+4,0⟩,[],[]⟩ (by have:=HF.o;omega) rfl rfl
   try simp only at hc
   rw [lp_9 HNL.o.2.1 HNL.o.1 HF.o.2.1 HF.o.2.2.2.1 (by have:=HF.o;omega)] at hc
   refine hc.mono ?_
   clear hc
   rintro en w9 ⟨A9,c9,A9',c9',M9,Q9,rfl,l9,hal9,-⟩
   have L9:=hid l9
   have K9:=hid (hal9.keepb K8.o.1 K8.o.2)
   have N9:=hid (l9.lw.law.eng.nS (Nat.le_refl w9.heap.size))
   clear l9 hal9
   simp only [ansV,ansC,z0b,ans0,tok0,List.length_nil]
   go_upto_region 24 with fail
   obtain ⟨w10,hw10⟩:∃ w10,w9.alloc (.cells #[.int .i64 21,.int .i64 0,.int .i64 0,.bool false,.int .i64 0,.int .i64 0,.int .i64 0,.int .i64 0,.slice A9 0 c9,.slice A9' 0 c9'] 31)=w10:=⟨_,rfl⟩
   have HB10:=hid (hw10▸heap_alloc_new w9 (.cells #[.int .i64 21,.int .i64 0,.int .i64 0,.bool false,.int .i64 0,.int .i64 0,.int .i64 0,.int .i64 0,.slice A9 0 c9,.slice A9' 0 c9'] 31))
   have G10:=hid (hw10▸(Gr.refl w9).alloc (.cells #[.int .i64 21,.int .i64 0,.int .i64 0,.bool false,.int .i64 0,.int .i64 0,.int .i64 0,.int .i64 0,.slice A9 0 c9,.slice A9' 0 c9'] 31))
   have L10:=hid (L9.o.gr G10.o)
   rw [hw10]
   clear hw10
   go_wp2_with fail
   have hc:=L10.o.call ⟨6,9,0,0,tok0,[],[]⟩ (by have:=HF.o;omega) rfl rfl
   try simp only at hc
   rw [zhr] at hc
   refine hc.mono ?_
   clear hc
   rintro en w11 ⟨A11,c11,A11',c11',M11,Q11,rfl,l11,hal11,he11⟩
   have L11:=hid l11
   have K11:=hid (And.intro (hal11.keepb ((G10.o.block _ (block_lt K9.o.1)).trans K9.o.1) K9.o.2).1 (hal11.keepb HB10.o N9.o).1)
   clear l11 hal11
   have HEV:=hid he11
   obtain ⟨ll,hll⟩:∃ ll,(LL n now s i kk L).length=ll:=⟨_,rfl⟩
   have hl7:ll=L.length+7:=by rw [← hll];simp [LL]
   simp only [ansV,ansC,ans0,tok0,List.length_nil] at HEV ⊢
   rw [hll] at HEV ⊢
   have HL7:=hid (And.intro hl7 hll)
   clear hl7 hll
   obtain ⟨x0,x1,x2,x3,x4,x5,x6,x7,x8,x9⟩:=z04 K11.o.1
   obtain ⟨z0,z1,z2,z3,z4,z5,z6,z7,z8,z9⟩:=z04 K11.o.2
   have lx11:=block_lt K11.o.1
   have lz11:=block_lt K11.o.2
   have hfld:=z1E
   go_wp2_with fail
   clear hfld x0 x1 x2 x3 x4 x5 x6 x7 x8 x9 z0 z1 z2 z3 z4 z5 z6 z7 z8 z9
   have hchk:ChkP h00 (LL n now s i kk L):=(L11.o.ec (9,⟨laF n (LL n now s i kk L) 1 (kk+7) 0 0 [],0,0⟩) (List.mem_cons_self ..)).1
   have hckc:=z7y (LL n now s i kk L) (.slice A11' ll c11') M11 w11 HEV.o hchk (by rw [HL7.o.2];have:=HL7.o.1;have:=HF.o;omega)
   refine hckc.mono ?_
   clear hckc hchk
   rintro en _ ⟨rfl,y12,rfl⟩
   obtain ⟨w12,hw12⟩:∃ W,y12.val=W:=⟨_,rfl⟩
   have G12:=hid (hw12▸y12.gr)
   rw [hw12]
   clear hw12 y12
   obtain ⟨j1,hj1⟩:∃ j,ll=j+1:=⟨L.length+6,HL7.o.1⟩
   obtain ⟨j2,hj2⟩:∃ j,ll=j+2:=⟨L.length+5,HL7.o.1⟩
   have hl7:=HL7.o.1
   have g1:(LL n now s i kk L)[j1]?=some (sE (now+n) 0):=by
    rw [show j1=L.length+6 by omega,LL,List.getElem?_append_right (by omega),show L.length+6-L.length=6 by omega]
    rfl
   have g2:(LL n now s i kk L)[j2]?=some ⟨11,now+n,kk+5,1,0,0,[]⟩:=by
    rw [show j2=L.length+5 by omega,LL,List.getElem?_append_right (by omega),show L.length+5-L.length=5 by omega]
    rfl
   have hev12:=HEV.o.up (Gr.up G12.o M11)
   obtain ⟨b,off,Ax,cx,hAx,hb,-,e1,-⟩:=z6S hev12 g1
   obtain ⟨b',off',Ay,cy,hAy,-,-,e2,-⟩:=z6S hev12 g2
   rw [hAx] at hAy
   injection hAy with hAy
   injection hAy with q1 q2 _
   subst q1 q2
   subst hAx
   have hbl:=HF.o.2.2.2.2.1
   have k1:IntKind.i64.wrap ((ll:Int)-1)=(j1:Int):=by rw [IntWalk.i64_in _ (by omega)];omega
   have k2:IntKind.i64.wrap ((ll:Int)-2)=(j2:Int):=by rw [IntWalk.i64_in _ (by omega)];omega
   have b1:(j1:Int)<(ll:Int):=by omega
   have b2:(j2:Int)<(ll:Int):=by omega
   have b3:j1<ll:=by omega
   have b4:j2<ll:=by omega
   clear hev12 g1 g2 hj1 hj2 hl7 hbl
   go_wp2_with fail
   have hg7:=zhs (s:=s) (i:=i) HNL.o.2.1 HNL.o.1 HF.o.2.1 HF.o.2.2.2.1 (by have:=HF.o;omega)
   have hL:=L11.o.gr G12.o
   try simp only at hL
   refine (hL.poll 1 (by have:=HF.o;omega)).mono ?_
   clear hL
   obtain ⟨⟨a,E'⟩,hx⟩:∃ x,z0z (LE n now s i kk late L) ⟨7,0,1,0,tok0,[],[]⟩=x:=⟨_,rfl⟩
   rw [hx] at hg7 ⊢
   clear hx
   rintro en w13 ⟨A13,c13,A13',c13',M13,Q13,rfl,l13,-,-⟩
   have L13:=hid l13
   clear l13
   rcases a with ⟨v0,v1,v2,v3,⟨v4,v5,v6,v7⟩,v8,v9⟩
   simp only at hg7
   subst hg7
   simp only [ansV,ansC]
   generalize v8.length=m8 at *
   generalize v9.length=m9 at *
   have hfld:=z3L
   go_wp2_with fail
   go_ret
   exact ⟨rfl,L13.o.lw.law.g⟩
end Go.Proofs.YtniknicnnaiilaaGreat
end
section
namespace Go.Ext
open Go.RowKit Go.ChangeShapes Go.WideShapes Go.ChangeAt
section
variable {H:Type} {enc:TypeId × Value→H} {P:Program}
theorem z6w (hl:laidOutB P=true) {W W':World} (hb:Gr W W'):∀ (ts:List TypeId) (vs:List Value) (ds:List (DataW H)) (ps:List MemPlace),(∀ t∈ts,P.readableRec t=true∧t<P.types.size) →
  DataW.TrodAll enc P W 0 (fun _=>true) true ts vs ds ps→(∀ x∈ps,x.block<W.heap.size)→DataW.TrodAll enc P W' 0 (fun b=>decide (b<W.heap.size)) true ts vs ds ps
 | [],vs,ds,ps,_,h,_=>by
  obtain ⟨rfl,rfl,rfl⟩:=trodAll_nil h
  exact trodAll_mk0
 | t::ts,vs,ds,ps,hr,h,hlt=>by
  obtain ⟨v,vs',d,ds',p,q,rfl,rfl,rfl,h0,h1⟩:=trodAll_cons h
  have ht:=hr t (by simp)
  exact trodAll_cons_mk (Below.trod hl ht.1 ht.2 h0 hb (fun x hx=>hlt x (by simp [hx]))) (z6w hl hb ts vs' ds' q (fun t' h'=>hr t' (by simp [h'])) h1 (fun x hx=>hlt x (by simp [hx])))
theorem zgB {ts:List TypeId} (h:(ts.all fun t=>P.readableRec t && decide (t<P.types.size))=true):∀ t∈ts,P.readableRec t=true∧t<P.types.size:=by
 intro t ht
 have:=List.all_eq_true.1 h t ht
 simpa using this
theorem z2R {fn:Func} {s:ChangeSpec} {tb:TypeId} (hl:laidOutB P=true) (hread:(fn.params.toList.all fun t=>P.readableRec t && decide (t<P.types.size))=true) (hres:fn.resultTypes=#[tb]) (htb:P.underlying tb=some .bool) (hvars:s.vars=[])
  {W W':World} {args:Array Value} {ds gs:List (DataW H)} {before:List MemPlace} (hW:DataW.Whole enc P fn.params.toList s.vars false W args.toList ds gs before)
  (hs:s.fn H (ds++gs)={ results:=[.lit (.bool true)],args:=ds }) (hb:Gr W W'):s.post enc P fn false true false false W args (.bool true) W':=by
 have hlt:∀ x∈before,x.block<W.heap.size:=hW.lt
 have hW':=hW
 obtain ⟨p,q,hA,hV,rfl,_,_⟩:=hW
 refine ⟨ds,gs,p++q,[],p,[],hW',?_,?_,?_,hb.below.frame _,fun h=>by cases h⟩
 ·rw [hs,hres]
  exact trodAll_mk1 (shut_bool htb true)
 ·rw [hs]
  exact z6w hl hb _ _ _ _ (zgB hread) hA (fun x hx=>hlt x (by simp [hx]))
 ·rw [hs,hvars]
  rfl
end
end Go.Ext
end
section
namespace Go.Proofs.YtniknicnnaiilaaGreat
set_option maxRecDepth 100000
open Go.RowKit Go.Ext Go.BigFrame Go.Maps Go.MapKept
attribute [local go_sem] Ext.cell Ext.frozen Ext.lt Ext.le s1 s2 s3 s4 s5 s6 t1 t2 t3 t4 t5 t6
attribute [local go_sem ↓] Go.wp_at_zero Go.wp_at_succ
open Go.ChangeShapes Go.WideShapes Go.ChangeAt Go.Joins Go.Deep
theorem Tryz.own:ownKnob Tryz.prog.godebug=none:=by kernel_rfl
theorem Tryz.laidOut:laidOutB Tryz.prog=true:=by kernel_rfl
section
variable {H:Type} {enc:TypeId × Value→H} {P:Program} {w:World} {base:Nat} {spare:Nat→Bool} {held:Bool}
end
section
variable {H:Type} {enc:TypeId × Value→H}
end
end Go.Proofs.YtniknicnnaiilaaGreat
end
section
namespace Go.Proofs.YtniknicnnaiilaaGreat
set_option maxRecDepth 100000
open Go.RowKit Go.Ext Go.BigFrame Go.Maps Go.MapKept
attribute [local go_sem] Ext.cell Ext.frozen Ext.lt Ext.le s1 s2 s3 s4 s5 s6 t1 t2 t3 t4 t5 t6
attribute [local go_sem ↓] Go.wp_at_zero Go.wp_at_succ
open Go.ChangeShapes Go.WideShapes Go.ChangeAt Go.Joins Go.Deep
def zeF (w:World) (A:Option Addr) (n:Nat):Prop:=∀ i,i<n→∃ b off x,A=some ⟨b,off,none⟩∧b<w.heap.size∧w.cell? ⟨b,off+i,none⟩=some (.int .i64 x)∧-9223372036854775808≤x∧x≤9223372036854775807
section
variable {H:Type} {enc:TypeId × Value→H}
end
end Go.Proofs.YtniknicnnaiilaaGreat
end
