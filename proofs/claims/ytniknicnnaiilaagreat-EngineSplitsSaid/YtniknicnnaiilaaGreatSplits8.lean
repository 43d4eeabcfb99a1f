/- Lemmas of the engine. -/
import Derived.Deep.CutRange
import Derived.Test.YtniknicnnaiilaaGreatSplits7
section
namespace Go.Proofs.YtniknicnnaiilaaGreat
set_option maxRecDepth 100000
open Go.RowKit Go.Ext Go.BigFrame Go.Maps Go.MapKept
attribute [local go_sem] Ext.cell Ext.frozen Ext.lt Ext.le s1 s2 s3 s4 s5 s6 t1 t2 t3 t4 t5 t6
attribute [local go_sem ↓] Go.wp_at_zero Go.wp_at_succ
set_option maxHeartbeats 16000000 in
theorem zb0 (A:Option Addr) (c:Nat) (xs:List ActD) (n:Int) (Ac:Option Addr) (clen cc:Nat) (w:World) (h:z6B w (fun _=>False) A xs) (hl:xs.length≤140737488351232) (hI:zeF w Ac clen) :
  Calls Tryz.prog 10 #[.slice A xs.length c,.int .i64 n,.slice Ac clen cc] w (RetE (.bool true) w):=by
 have HKN:=hid z2e
 have H:=hid h
 have HL:=hid hl
 have HI:=hid hI
 have HFEW:=hid (fun W (g:Gr w W)=>z8N A c xs (fun _=>False) W (h.up (Gr.up g _)) hl)
 obtain ⟨len,hn⟩:∃ n,xs.length=n:=⟨_,rfl⟩
 have HLEN:=hid hn
 rw [hn] at HL HFEW ⊢
 clear h hl hn hI
 refine retE ?_
 go_enter Tryz.func10,Tryz.ntmps10
 go_upto_region 3 with (go_at_call 12;refine (HKN.o _).mono ?_;rintro en _ ⟨rfl,y1,rfl⟩)
 go_wp2_with fail
 refine (HFEW.o _ y1.gr).mono ?_
 rintro en w2 ⟨b,rfl,hb,g2⟩
 have G2:=hid (y1.gr.trans g2)
 clear g2 HFEW hb
 cases b with
 | false =>
  go_wp2_with fail
  go_ret
  exact ⟨rfl,G2.o⟩
 | true =>
  have hk:(60:Int)<(len:Int)∨(¬ (60:Int)<(len:Int)∧n<1)∨(¬ (60:Int)<(len:Int)∧¬ n<1∧300<n)∨(¬ (60:Int)<(len:Int)∧¬ n<1∧¬ 300<n∧(40:Int)<(clen:Int))∨(¬ (60:Int)<(len:Int)∧¬ n<1∧¬ 300<n∧¬ (40:Int)<(clen:Int)):=by omega
  rcases hk with h0 | ⟨h0,h1⟩ | ⟨h0,h1,h2⟩ | ⟨h0,h1,h2,h3⟩ | ⟨h0,h1,h2,h3⟩
  iterate 4
   ·go_wp2_with fail
    go_ret
    exact ⟨rfl,G2.o⟩
  have HNN:=hid (show 1≤n∧n≤300 from ⟨by omega,by omega⟩)
  have hlen60:(len:Int)≤60:=by omega
  have hclen40:(clen:Int)≤40:=by omega
  go_wp2_with fail
  clear h0 h1 h2 h3
  refine (z56 _).mono ?_
  rintro en w3 ⟨k,M3,S3,rfl,l3⟩
  have L3:=hid (l3.old2 G2.o)
  have NS:=hid (fun b (hb:w3.heap.size≤b)=>L3.o.law.eng.nS hb)
  clear l3
  go_upto_region 9 with fail
  obtain ⟨w4,hw4⟩:∃ w4,w3.alloc (.cells #[.int .i64 0,.int .i64 0,.int .i64 0,.int .i64 0] 28)=w4:=⟨_,rfl⟩
  have G4:=hid (hw4▸(Gr.refl w3).alloc (.cells #[.int .i64 0,.int .i64 0,.int .i64 0,.int .i64 0] 28))
  have HT4:=hid (hw4▸heap_alloc_new w3 (.cells #[.int .i64 0,.int .i64 0,.int .i64 0,.int .i64 0] 28))
  have OC:=hid (show Sc w w4 (fun b=>M3 b∨b=w3.heap.size) S3 k w3.heap.size (e0 0 1) 0 tok0 from ⟨L3.o.more G4.o (Nat.le_refl _) (block_lt HT4.o),HT4.o,.inr rfl,NS.o _ (Nat.le_refl _)⟩)
  rw [hw4]
  clear hw4 HT4 G4 NS L3 HKN
  generalize w3.heap.size=bt at *
  go_wp2_with fail
  go_loopw [9] (fun iv wr=>∃ (i:Nat) (E:ES) (M S:Bl) (n:Nat) (t:Tok),iv=.int .i64 i∧i≤len∧Sc w wr M S k bt E n t∧n≤100 * i∧Gd i E) (fun iv _=>len-(intOf iv).toNat)
  case atStart=>exact ⟨0,_,_,_,_,_,rfl,Nat.zero_le _,OC.o,by omega,Gd.zero⟩
  case round =>
   obtain ⟨i,E,M,S,n',t,rfl,hi,oc,hn',hgd⟩:=hrel
   have O:=hid oc
   have HN:=hid hn'
   have HGD:=hid hgd
   clear oc hn' hgd OC
   by_cases hlt:i<len
   ·obtain ⟨a,ha⟩:∃ a,xs[i]?=some a:=⟨_,List.getElem?_eq_getElem (by rw [HLEN.o];exact hlt)⟩
    obtain ⟨b,off,Ad,cd,Al,cl,rfl,hb,-,hcm,hll,hx⟩:=H.o.up O.o.lw.upF i a ha
    have HDAT:=hid hcm.datas
    have HCM:=hid hcm
    have HLL:=hid hll
    rcases a with ⟨ao,⟨ak,af,al,an,⟨t0,t1,t2,t3⟩,adat,als⟩,la,nn⟩
    simp only at HDAT HCM HLL hx
    clear hcm hll ha
    have c0:=hx 0 _ rfl
    have c1:=hx 1 _ rfl
    have c2:=hx 2 _ rfl
    have c3:=hx 3 _ rfl
    have c4:=hx 4 _ rfl
    have c5:=hx 5 _ rfl
    have c6:=hx 6 _ rfl
    have c7:=hx 7 _ rfl
    have c8:=hx 8 _ rfl
    have c9:=hx 9 _ rfl
    have c10:=hx 10 _ rfl
    have c11:=hx 11 _ rfl
    have c12:=hx 12 _ rfl
    simp only at c0 c1 c2 c3 c4 c5 c6 c7 c8 c9 c10 c11 c12
    rw [Nat.add_zero] at c0
    obtain ⟨ll,hll9⟩:∃ n,als.length=n:=⟨_,rfl⟩
    have HLL9:=hid hll9
    rw [hll9] at HCM c10
    generalize adat.length=dl at *
    clear hx hll9
    have hlz:(i:Int)<(len:Int):=by omega
    go_upto_region 13 with fail
    obtain ⟨w1,hw1⟩:∃ w1,wr.alloc (.cells #[.int .i64 ao,.int .i64 ak,.int .i64 af,.int .i64 al,.int .i64 an,.int .i64 t0,.int .i64 t1,.int .i64 t2,.int .i64 t3,.slice Ad dl cd,.slice Al ll cl,.bool la,.int .i64 nn] 54)=w1:=⟨_,rfl⟩
    have HB1:=hid (hw1▸heap_alloc_new wr (.cells #[.int .i64 ao,.int .i64 ak,.int .i64 af,.int .i64 al,.int .i64 an,.int .i64 t0,.int .i64 t1,.int .i64 t2,.int .i64 t3,.slice Ad dl cd,.slice Al ll cl,.bool la,.int .i64 nn] 54))
    have G1:=hid (hw1▸(Gr.refl wr).alloc (.cells #[.int .i64 ao,.int .i64 ak,.int .i64 af,.int .i64 al,.int .i64 an,.int .i64 t0,.int .i64 t1,.int .i64 t2,.int .i64 t3,.slice Ad dl cd,.slice Al ll cl,.bool la,.int .i64 nn] 54))
    rw [hw1]
    clear hw1 c0 c1 c2 c3 c4 c5 c6 c7 c8 c9 c10 c11 c12
    have O1:=hid (O.o.more G1.o (Nat.le_refl _) (block_lt HB1.o))
    have NB:=hid (And.intro (O.o.lw.law.eng.nS (Nat.le_refl wr.heap.size)) (Nat.ne_of_lt (block_lt O.o.cells)))
    have CM1:=hid (HCM.o.up (show Up M wr (fun b=>M b∨b=wr.heap.size) w1 from ⟨G1.o.mod M,fun b hb e=>by
     rcases e with e | e
     ·exact e
     ·omega⟩))
    clear HCM hb
    generalize wr.heap.size=ba at *
    obtain ⟨z0,z1,z2,z3,z4,z5,z6,z7,z8,z9,z10,z11,z12⟩:=z4F HB1.o
    have lb:=block_lt HB1.o
    by_cases hop:ao=2
    ·subst hop
     go_wp2_with fail
     clear z0 z1 z2 z3 z4 z5 z6 z7 z8 z9 z10 z11 z12
     refine (z8q k E nn _ S w1 O1.o.lw.law.eng O1.o.lw.law.e1.ok (Nat.le_trans O1.o.lw.law.e1.due (by have:=HN.o;omega))).mono ?_
     rintro en w2 ⟨M2,S2,rfl,e2,hal2⟩
     have O2:=hid (O1.o.step hal2 (O1.o.lw.step hal2 e2 (zbv O1.o.lw.law.e1 nn)))
     clear e2 hal2
     go_wp2_with fail
     go_roundw
     case rel=>exact ⟨i+1,_,_,_,_,_,by go_num,by omega,O2.o,by have:=HN.o;omega,(HGD.o.tick nn).le (by omega)⟩
     case measure=>simp [intOf];omega
    ·have hopz:(ao==2)=false:=by simpa using hop
     cases la
     case' false =>
      go_upto_region 17 with fail
      obtain ⟨w2,hw2⟩:∃ w2,w1=w2:=⟨_,rfl⟩
      have HA2:=hid (show ∃ (c:Call) (lb:Bool),w2.heap[ba]?=some (.cells #[.int .i64 ao,.int .i64 c.kind,.int .i64 c.flow,.int .i64 c.list,.int .i64 c.n,.int .i64 c.tok.flow,.int .i64 c.tok.run,.int .i64 c.tok.event,.int .i64 c.tok.turn,.slice Ad dl cd,.slice Al ll cl,.bool lb,.int .i64 nn] 54 (0,0))∧z0P w2 (fun b=>M b∨b=ba) c (.slice Ad dl cd) (.slice Al ll cl)∧c.l=als from
       ⟨⟨ak,af,al,an,⟨t0,t1,t2,t3⟩,adat,als⟩,false,hw2▸HB1.o,hw2▸CM1.o,rfl⟩)
      have O2:=hid (hw2▸O1.o)
     case' true =>
      obtain ⟨x0,x1,x2,x3⟩:=z0C O1.o.cells
      have lt:=block_lt O1.o.cells
      have f5:=z00 (j:=5) HB1.o
      have f6:=z00 (j:=6) HB1.o
      have f7:=z00 (j:=7) HB1.o
      have f8:=z00 (j:=8) HB1.o
      go_upto_region 17 with fail
      obtain ⟨w2,hw2,m2,hc2⟩:=z7h (f':=.int .i64 t.flow) (g':=.int .i64 t.run) (h':=.int .i64 t.event) (i':=.int .i64 t.turn) HB1.o
      have HA2:=hid (show ∃ (c:Call) (lb:Bool),w2.heap[ba]?=some (.cells #[.int .i64 ao,.int .i64 c.kind,.int .i64 c.flow,.int .i64 c.list,.int .i64 c.n,.int .i64 c.tok.flow,.int .i64 c.tok.run,.int .i64 c.tok.event,.int .i64 c.tok.turn,.slice Ad dl cd,.slice Al ll cl,.bool lb,.int .i64 nn] 54 (0,0))∧z0P w2 (fun b=>M b∨b=ba) c (.slice Ad dl cd) (.slice Al ll cl)∧c.l=als from
       ⟨⟨ak,af,al,an,t,adat,als⟩,true,hc2,CM1.o.up (Mod.up m2 (fun _ _ e=>.inr e)),rfl⟩)
      have O2:=hid (O1.o.set m2 (.inr rfl) NB.o.1 NB.o.2)
      clear x0 x1 x2 x3 f5 f6 f7 f8 m2 hc2 lt
     all_goals (
      rw [hw2]
      clear hw2 z0 z1 z2 z3 z4 z5 z6 z7 z8 z9 z10 z11 z12 lb CM1 O1 HB1
      obtain ⟨⟨ck,cf,cli,cn,⟨tf,tr,te,tt⟩,cdat,cls⟩,lb2,hb2,hcm2,hcl⟩:=HA2.o
      simp only at hb2 hcl
      subst hcl
      have HCM2:=hid hcm2
      clear hcm2 HA2
      obtain ⟨z0,z1,z2,z3,z4,z5,z6,z7,z8,z9,z10,z11,z12⟩:=z4F hb2
      have lb:=block_lt hb2
      have hc:=O2.o.lw.call ⟨ck,cf,cli,cn,⟨tf,tr,te,tt⟩,cdat,cls⟩ (.slice Ad dl cd) (.slice Al ll cl) (by have:=HN.o;omega) HCM2.o HLL.o HDAT.o
      have hgd:=HGD.o.call ⟨ck,cf,cli,cn,⟨tf,tr,te,tt⟩,cdat,cls⟩
      obtain ⟨⟨ans,E'⟩,hx⟩:∃ x,z0z E ⟨ck,cf,cli,cn,⟨tf,tr,te,tt⟩,cdat,cls⟩=x:=⟨_,rfl⟩
      rw [hx] at hc hgd
      have HGD2:=hid hgd
      clear hgd hx
      go_wp2_with fail
      clear z0 z1 z2 z3 z4 z5 z6 z7 z8 z9 z10 z11 z12 lb hb2
      refine hc.mono ?_
      clear hc
      rintro en w3 ⟨A3,c3,A3',c3',M3,S3,rfl,l3,hal3,-,-⟩
      have O3:=hid (O2.o.step hal3 l3)
      clear l3 hal3
      rcases ans with ⟨v0,v1,v2,v3,⟨v4,v5,v6,v7⟩,v8,v9⟩
      have HGD3:=hid (show Gd (i+1) E' from HGD2.o)
      clear HGD2
      simp only [ansV,ansC]
      generalize v8.length=n8 at *
      generalize v9.length=n9 at *
      go_upto_region 18 with fail
      obtain ⟨w4,hw4⟩:∃ w4,w3.alloc (.cells #[.int .i64 v0,.int .i64 v1,.int .i64 v2,.bool v3,.int .i64 v4,.int .i64 v5,.int .i64 v6,.int .i64 v7,.slice A3 n8 c3,.slice A3' n9 c3'] 31)=w4:=⟨_,rfl⟩
      have HB4:=hid (hw4▸heap_alloc_new w3 (.cells #[.int .i64 v0,.int .i64 v1,.int .i64 v2,.bool v3,.int .i64 v4,.int .i64 v5,.int .i64 v6,.int .i64 v7,.slice A3 n8 c3,.slice A3' n9 c3'] 31))
      have O4:=hid (O3.o.gr (hw4▸(Gr.refl w3).alloc (.cells #[.int .i64 v0,.int .i64 v1,.int .i64 v2,.bool v3,.int .i64 v4,.int .i64 v5,.int .i64 v6,.int .i64 v7,.slice A3 n8 c3,.slice A3' n9 c3'] 31)))
      rw [hw4]
      clear hw4
      obtain ⟨b0,b1,b2,b3,b4,b5,b6,b7,b8,b9⟩:=z04 HB4.o
      have lb4:=block_lt HB4.o
      cases v3 with
      | false =>
       go_wp2_with fail
       go_roundw
       case rel=>exact ⟨i+1,_,_,_,_,_,by go_num,by omega,O4.o,by have:=HN.o;omega,HGD3.o⟩
       case measure=>simp [intOf];omega
      | true =>
       have f0:=z00 (j:=0) O4.o.cells
       have f1:=z00 (j:=1) O4.o.cells
       have f2:=z00 (j:=2) O4.o.cells
       have f3:=z00 (j:=3) O4.o.cells
       have lt4:=block_lt O4.o.cells
       obtain ⟨x0,x1,x2,x3⟩:=z0C O4.o.cells
       go_upto_region 11 with fail
       clear b0 b1 b2 b3 b4 b5 b6 b7 b8 b9
       obtain ⟨w5,hw5,m5,hc5⟩:=z7i (a':=.int .i64 v4) (b':=.int .i64 v5) (c':=.int .i64 v6) (d':=.int .i64 v7) O4.o.cells
       have O5:=hid (O4.o.setTok (t':=⟨v4,v5,v6,v7⟩) m5 hc5)
       rw [hw5]
       clear hw5 m5 hc5 f0 f1 f2 f3 x0 x1 x2 x3
       go_wp2_with fail
       go_roundw
       case rel=>exact ⟨i+1,_,_,_,_,_,by go_num,by omega,O5.o,by have:=HN.o;omega,HGD3.o⟩
       case measure=>simp [intOf];omega)
   ·have hlz:¬ (i:Int)<(len:Int):=by omega
    have HGE:=hid (show Gd len E from HGD.o.le hi)
    have HE0:=hid (show len≤60 by omega)
    go_wp2_with fail
    refine (z3U k E M S wr O.o.lw.law.eng (Nat.le_trans O.o.lw.law.e1.due (by have:=HN.o;omega))).mono ?_
    rintro en w5 ⟨M5,S5,kb,rfl,g5,hb5,hm5,hm5',hs5⟩
    have TW:=hid (show Tw2 w w5 M5 S S5 k kb E E n' n' from by
     have ha:=O.o.lw.law.eng
     have hsz:=O.o.lw.law.g.size
     exact ⟨ha.keep ⟨g5.mod M,hm5'⟩ (fun x e=>g5.block x (ha.lt.1 x (ha.lt.2.1 x e))) (fun x e=>hm5 x (ha.lt.2.1 x e)) hb5.lt.1,hb5,O.o.lw.law.e1,O.o.lw.law.e1,O.o.lw.law.g.trans g5,O.o.lw.law.s,fun x e=>Nat.le_trans hsz (hs5 x e),fun x e e'=>by
      have:=ha.lt.1 x (ha.lt.2.1 x e)
      have:=hs5 x e'
      omega⟩)
    have HND:=hid (show n'≤6000 by have:=HN.o;omega)
    clear g5 hb5 hm5 hm5' hs5 O HN HGD
    go_wp2_with fail
    refine (TW.o.tick n (by have:=HND.o;omega)).mono ?_
    rintro en w6 ⟨M6,S6,rfl,t6,-⟩
    have T6:=hid t6
    clear t6 TW
    obtain ⟨ec,hec⟩:∃ x,(z0S E n).1=x:=⟨_,rfl⟩
    have HEC:=hid hec
    rw [hec]
    clear hec
    go_wp2_with fail
    go_loopw [14,15] (fun av iv w7=>∃ (i:Nat) (t:Int) (M Sb:Bl) (Eb:ES),av=.int .i64 t∧iv=.int .i64 i∧i≤clen∧0≤t∧t≤n∧Tw2 w w7 M S6 Sb k kb (z0S E n).2 Eb n' n'∧Aft E n t Eb∧Gd len Eb) (fun _ iv _=>clen-(intOf iv).toNat)
    case atStart=>exact ⟨0,0,M6,S5,E,rfl,rfl,Nat.zero_le _,Int.le_refl _,by have:=HNN.o;omega,T6.o,fun _=>.inl ⟨rfl,rfl⟩,HGE.o⟩
    case round =>
     obtain ⟨i2,t2,M7,Sb,Eb,rfl,rfl,hi2,ht0,ht1,htw,haf,hgb⟩:=hrel
     have T:=hid htw
     have HT:=hid (And.intro ht0 ht1)
     have HAF:=hid haf
     have HGB:=hid hgb
     clear htw ht0 ht1 haf hgb T6
     have hkw:IntKind.i64.wrap (n-t2)=n-t2:=IntWalk.i64_in _ (by have:=HNN.o;have:=HT.o;omega)
     have hkw2:IntKind.i64.wrap (n-t2+1)=n-t2+1:=IntWalk.i64_in _ (by have:=HNN.o;have:=HT.o;omega)
     have hlen:i2<clen∧t2<n∨¬ (i2<clen∧t2<n):=Decidable.em _
     rcases hlen with ⟨hlt2,hat⟩ | hend
     ·have hlz2:(i2:Int)<(clen:Int):=by omega
      obtain ⟨b,off,x,rfl,hb,hx,hx1,hx2⟩:=HI.o i2 hlt2
      have hb2:=Nat.lt_of_lt_of_le hb T.o.g.size
      have hx':=(T.o.g.cell (p:=⟨b,off+i2,none⟩) hb).trans hx
      go_upto_region 29 with fail
      obtain ⟨k0,hk0,hk1⟩:∃ k0,x.tmod (n-t2+1)=k0∧k0<n-t2+1:=⟨_,rfl,Int.tmod_lt_of_pos x (by omega)⟩
      rw [hk0]
      have HK1:=hid (show t2+k0≤n by omega)
      clear hk0 hx hx' hb hb2 hx1 hx2 hk1
      rcases (by omega:k0≤0∨0<k0) with hk2 | hk2
      ·go_wp2_with fail
       go_roundw
       case rel=>exact ⟨i2+1,t2,_,_,_,rfl,by go_num,by omega,HT.o.1,HT.o.2,T.o,HAF.o,HGB.o⟩
       case measure=>simp [intOf];omega
      ·have hkw3:IntKind.i64.wrap (t2+k0)=t2+k0:=IntWalk.i64_in _ (by have:=HNN.o;have:=HT.o;have:=HK1.o;omega)
       go_wp2_with fail
       refine (T.o.symm.tick k0 (by have:=HND.o;omega)).mono ?_
       rintro en w8 ⟨M8,S8,rfl,t8,-⟩
       have T8:=hid t8.symm
       have HAF8:=hid (HAF.o.step (HGE.o.lt HE0.o) HNN.o HT.o.1 (by omega) HK1.o)
       clear t8
       go_wp2_with fail
       go_roundw
       case rel=>exact ⟨i2+1,t2+k0,_,_,_,rfl,by go_num,by omega,by have:=HT.o;omega,HK1.o,T8.o,HAF8.o,HGB.o.tick k0⟩
       case measure=>simp [intOf];omega
     ·have hend2:(¬ (i2:Int)<(clen:Int)∧t2<n)∨(¬ (i2:Int)<(clen:Int)∧t2=n)∨((i2:Int)<(clen:Int)∧t2=n):=by have:=HT.o;omega
      clear hend hkw2
      refine hend2.elim (fun hh=>?ca) (fun hh=>hh.elim (fun hh=>?cb) (fun hh=>?cc))
      case' ca =>
       clear hend2
       obtain ⟨hz1,hz⟩:=hh
       have HZ:=hid hz
       go_wp2_with fail
       refine (T.o.symm.tick (n-t2) (by have:=HND.o;omega)).mono ?_
       rintro en w9 ⟨M9,S9,rfl,t9,-⟩
       have T9:=hid t9.symm
       have ha9:=HAF.o.step (HGE.o.lt HE0.o) HNN.o HT.o.1 (k:=n-t2) (by have:=HZ.o;omega) (by omega)
       rw [show t2+(n-t2)=n by omega] at ha9
       have HA9:=hid ha9
       have HG9:=hid (HGB.o.tick (n-t2))
       clear t9 ha9 hkw T
       go_upto_region 34 with fail
       clear hz1
      case' cb =>
       clear hend2
       obtain ⟨hz1,hz⟩:=hh
       have hz':=hz.symm
       subst hz'
       have T9:=T
       have HA9:=HAF
       have HG9:=HGB
       clear hkw T
       generalize wr=w9 at *
       go_upto_region 34 with fail
       clear hz1
      case' cc =>
       clear hend2
       obtain ⟨hz1,hz⟩:=hh
       have hz':=hz.symm
       subst hz'
       have T9:=T
       have HA9:=HAF
       have HG9:=HGB
       clear hkw T
       generalize wr=w9 at *
       go_upto_region 34 with fail
       clear hz1
      all_goals (
       clear HAF HGB
       by_cases hec0:ec=0
       ·subst hec0
        have hsame:=HA9.o.same HNN.o HEC.o
        rw [hsame] at T9 HG9
        clear HA9 HEC hsame
        generalize (z0S E n).2=F at *
        have HEE:=hid (HG9.o.een HE0.o T9.o.ea.ok (Nat.le_trans T9.o.ea.due (by have:=HND.o;omega)))
        have HEA:=hid (fun W (g:Gr w9 W)=>z9D k F _ S6 W (T9.o.a.gr g) HEE.o)
        have HEB:=hid (fun W (g:Gr w9 W)=>z9D kb F _ _ W (T9.o.b.gr g) HEE.o)
        have HNA:=hid (fun W (g:Gr w9 W)=>z90 (T9.o.a.gr g))
        have HNB:=hid (fun W (g:Gr w9 W)=>z90 (T9.o.b.gr g))
        have HGR:=hid T9.o.g
        clear T9 HG9 HGE
        go_upto_region 36 with fail
        refine z01 [(0,false),(3,false),(1,true),(2,false),(4,true),(5,false),(6,false),(7,false),(8,false),(10,false),(9,true),(11,true),(12,false),(13,false),(14,true)] (fun W=>Gr w9 W) (by kernel_rfl) (by kernel_rfl) (fun _ _ d _ _ h=>by cases d<;>exact h) (Gr.refl w9).drew (fun _=>?_)
        iterate 2 (refine z03 (v:=?_) rfl (by rfl) ?_ ?_;rotate_left;(focus (intro W9 hW9;obtain ⟨x9,rfl⟩:∃ x:Ext w9,W9=x.val:=⟨⟨W9,hW9⟩,rfl⟩;go_simp;(try with_reducible rfl);done));(try simp only [AP]))
        refine z05 rfl (by rfl) (fun K hK=>?_)
        go_simp
        go_at_call 28
        refine (HEA.o _ (Gr.refl w9).drew).mono ?_
        rintro en _ ⟨A1,c1,x1,rfl,rfl,hl1,ho1⟩
        have HB1:=hid (Bys.of_own ho1 hl1)
        have G1:=hid ((Gr.refl w9).drew.trans x1.gr)
        refine hK.o (fun W=>Gr x1.val W) _ _ (Gr.refl _) (fun _ g=>G1.o.trans g) (fun _=>?_)
        clear hK K hl1 ho1
        (try simp only [AP])
        iterate 1 (refine z03 (v:=?_) rfl (by rfl) ?_ ?_;rotate_left;(focus (intro W9 hW9;have hcv:=z1D (HB1.o.gr hW9);go_simp;(try with_reducible rfl);done));(try simp only [AP]))
        refine z05 rfl (by rfl) (fun K hK=>?_)
        go_simp
        go_at_call 28
        refine (HEB.o _ G1.o).mono ?_
        rintro en _ ⟨A2,c2,x2,rfl,rfl,hl2,ho2⟩
        have HB2:=hid (Bys.of_own ho2 hl2)
        refine hK.o (fun W=>Gr x2.val W) _ _ (Gr.refl _) (fun _ g=>x2.gr.trans g) (fun _=>?_)
        clear hK K hl2 ho2
        (try simp only [AP])
        iterate 1 (refine z03 (v:=?_) rfl (by rfl) ?_ ?_;rotate_left;(focus (intro W9 hW9;have hcv:=z1D (HB2.o.gr hW9);go_simp;(try with_reducible rfl);done));(try simp only [AP]))
        iterate 1 (refine z03 (v:=?_) rfl (by rfl) ?_ ?_;rotate_left;(focus (intro W9 hW9;(try dsimp only at hW9);go_simp;(try with_reducible rfl);done));(try simp only [AP]))
        iterate 3 (refine z03 (v:=?_) rfl (by rfl) ?_ ?_;rotate_left;(focus (intro W9 hW9;(try dsimp only at hW9);go_simp;(try with_reducible rfl);done));(try simp only [AP]))
        refine z05 rfl (by rfl) (fun K hK=>?_)
        go_simp
        go_at_call 25
        refine (HNA.o _ (G1.o.trans x2.gr)).mono ?_
        rintro en _ ⟨rfl,x3,rfl⟩
        refine hK.o (fun W=>Gr x3.val W) _ _ (Gr.refl _) (fun _ g=>x3.gr.trans g) (fun _=>?_)
        clear hK K
        (try simp only [AP])
        refine z05 rfl (by rfl) (fun K hK=>?_)
        go_simp
        go_at_call 25
        refine (HNB.o _ ((G1.o.trans x2.gr).trans x3.gr)).mono ?_
        rintro en _ ⟨rfl,x4,rfl⟩
        refine hK.o (fun W=>Gr x4.val W) _ _ (Gr.refl _) (fun _ g=>x4.gr.trans g) (fun _=>?_)
        clear hK K
        (try simp only [AP])
        iterate 2 (refine z03 (v:=?_) rfl (by rfl) ?_ ?_;rotate_left;(focus (intro W9 hW9;(try dsimp only at hW9);go_simp;(try with_reducible rfl);done));(try simp only [AP]))
        refine z06 rfl (by rfl) (fun K hK=>?_)
        go_simp
        refine hK.o _ _ ?_
        clear hK K
        go_wp2_with fail
        go_ret
        exact ⟨rfl,HGR.o.trans (((G1.o.trans x2.gr).trans x3.gr).trans x4.gr)⟩
       ·have hz:(ec==0)=false:=by simpa using hec0
        go_wp2_with fail
        go_ret
        exact ⟨rfl,T9.o.g⟩)
end Go.Proofs.YtniknicnnaiilaaGreat
end
section
namespace Go.Proofs.YtniknicnnaiilaaGreat
set_option maxRecDepth 100000
open Go.RowKit Go.Ext Go.BigFrame Go.Maps Go.MapKept
attribute [local go_sem] Ext.cell Ext.frozen Ext.lt Ext.le s1 s2 s3 s4 s5 s6 t1 t2 t3 t4 t5 t6
attribute [local go_sem ↓] Go.wp_at_zero Go.wp_at_succ
open Go.ChangeShapes Go.WideShapes Go.ChangeAt Go.Joins Go.Deep
section
variable {H:Type} {enc:TypeId × Value→H}
theorem zds {W:World} {fuel:Nat} {A:Option Addr} {n c:Nat} {y:DataW H × List MemPlace} (h:DataW.trod enc Tryz.prog W 0 (fun _=>true) true fuel 33 [.slice A n c]=some y) (hz:∀ n∈y.1.weights Tryz.prog 33,n≤reachBytes):n≤140737488351232:=by
 rcases open_slice Tryz.underlying33 h with ⟨hcs,_⟩ | ⟨a,len,cap,m,k,D,Pl,hcs,hb,hl,hm,hmm,hx,hi⟩
 ·injection hcs with hcs
  injection hcs with _ h2 _
  omega
 ·injection hcs with hcs
  injection hcs with _ h2 _
  have:=hz _ (by
   rw [hx]
   simp only [DataW.weights,Tryz.underlying33]
   exact List.mem_cons_self ..)
  have e1:Tryz.prog.bytesOf 39=56:=by kernel_rfl
  rw [e1] at this
  simp only [List.length_map,List.length_range] at this
  unfold reachBytes at this
  omega
theorem zbb {W:World} {fuel:Nat} {cs:List Value} {y:DataW H × List MemPlace} (hf:DataW.trod enc Tryz.prog W 0 (fun _=>true) true fuel 35 cs=some y) (h10:cs.length=10) (hz:∀ n∈y.1.weights Tryz.prog 35,n≤reachBytes) :
  ∃ (c:Call) (Ad:Option Addr) (cd:Nat) (Al:Option Addr) (cl:Nat),cs=(z1U c (.slice Ad c.data.length cd) (.slice Al c.l.length cl)).toList∧z0P W (fun _=>False) c (.slice Ad c.data.length cd) (.slice Al c.l.length cl)∧c.l.length≤140737488351232:=by
 obtain ⟨c0,c1,c2,c3,c4,c5,c6,c7,c8,c9,rfl⟩:∃ c0 c1 c2 c3 c4 c5 c6 c7 c8 c9,cs=[c0,c1,c2,c3,c4,c5,c6,c7,c8,c9]:=by
  rcases cs with _ | ⟨c0,_ | ⟨c1,_ | ⟨c2,_ | ⟨c3,_ | ⟨c4,_ | ⟨c5,_ | ⟨c6,_ | ⟨c7,_ | ⟨c8,_ | ⟨c9,_ | ⟨c10,cs⟩⟩⟩⟩⟩⟩⟩⟩⟩⟩⟩<;>simp at h10
  exact ⟨_,_,_,_,_,_,_,_,_,_,rfl⟩
 obtain ⟨ys,n',hn',hy,hlen,hyl,hfl⟩:=DataW.trod_struct Tryz.underlying35 hf
 have k3:Tryz.prog.cellsOf 3=1:=by kernel_rfl
 have k28:Tryz.prog.cellsOf 28=4:=by kernel_rfl
 have k22:Tryz.prog.cellsOf 22=1:=by kernel_rfl
 have k33:Tryz.prog.cellsOf 33=1:=by kernel_rfl
 obtain ⟨y0,y1,y2,y3,y4,y5,y6,rfl⟩:∃ y0 y1 y2 y3 y4 y5 y6,ys=[y0,y1,y2,y3,y4,y5,y6]:=by
  simp at hyl
  rcases ys with _ | ⟨y0,_ | ⟨y1,_ | ⟨y2,_ | ⟨y3,_ | ⟨y4,_ | ⟨y5,_ | ⟨y6,_ | ⟨y7,ys⟩⟩⟩⟩⟩⟩⟩⟩<;>simp at hyl
  exact ⟨_,_,_,_,_,_,_,rfl⟩
 have t0:=hfl 0 _ rfl
 have t1:=hfl 1 _ rfl
 have t2:=hfl 2 _ rfl
 have t3:=hfl 3 _ rfl
 have t4:=hfl 4 _ rfl
 have t5:=hfl 5 _ rfl
 have t6:=hfl 6 _ rfl
 simp only [List.getElem_toArray,List.getElem_cons_zero,List.getElem_cons_succ] at t0 t1 t2 t3 t4 t5 t6
 rw [k3] at t0 t1 t2 t3
 rw [k28] at t4
 rw [k22] at t5
 rw [k33] at t6
 simp at t0 t1 t2 t3 t4 t5 t6
 obtain ⟨z0,e0,_,_⟩:=DataW.trod_int Tryz.underlying3 t0
 obtain ⟨z1,e1,_,_⟩:=DataW.trod_int Tryz.underlying3 t1
 obtain ⟨z2,e2,_,_⟩:=DataW.trod_int Tryz.underlying3 t2
 obtain ⟨z3,e3,_,_⟩:=DataW.trod_int Tryz.underlying3 t3
 injection e0 with e0
 injection e1 with e1
 injection e2 with e2
 injection e3 with e3
 subst e0 e1 e2 e3
 obtain ⟨us,n2,_,hu,_,hul,hfu⟩:=DataW.trod_struct Tryz.underlying28 t4
 obtain ⟨u0,u1,u2,u3,rfl⟩:∃ u0 u1 u2 u3,us=[u0,u1,u2,u3]:=by
  simp at hul
  rcases us with _ | ⟨u0,_ | ⟨u1,_ | ⟨u2,_ | ⟨u3,_ | ⟨u4,us⟩⟩⟩⟩⟩<;>simp at hul
  exact ⟨_,_,_,_,rfl⟩
 have q0:=hfu 0 _ rfl
 have q1:=hfu 1 _ rfl
 have q2:=hfu 2 _ rfl
 have q3:=hfu 3 _ rfl
 simp only [List.getElem_toArray,List.getElem_cons_zero,List.getElem_cons_succ] at q0 q1 q2 q3
 rw [k3] at q0 q1 q2 q3
 simp at q0 q1 q2 q3
 obtain ⟨x0,f0,_,_⟩:=DataW.trod_int Tryz.underlying3 q0
 obtain ⟨x1,f1,_,_⟩:=DataW.trod_int Tryz.underlying3 q1
 obtain ⟨x2,f2,_,_⟩:=DataW.trod_int Tryz.underlying3 q2
 obtain ⟨x3,f3,_,_⟩:=DataW.trod_int Tryz.underlying3 q3
 injection f0 with f0
 injection f1 with f1
 injection f2 with f2
 injection f3 with f3
 subst f0 f1 f2 f3
 subst hy
 simp only [DataW.weights,Tryz.underlying35] at hz
 obtain ⟨bs,hbs⟩:=z4m t5 (fun q hq=>hz q (DataW.weights_mem_each (j:=5) (t:=22) (d:=y5.1) rfl rfl q hq))
 have hz6:=fun q hq=>hz q (DataW.weights_mem_each (j:=6) (t:=33) (d:=y6.1) rfl rfl q hq)
 obtain ⟨l,hl⟩:=zbo t6 hz6
 obtain ⟨Ad,cd,rfl⟩:=hbs.m.shape
 obtain ⟨Al,cl,rfl,_⟩:=hl.shape
 exact ⟨⟨z0,z1,z2,z3,⟨x0,x1,x2,x3⟩,bs,l⟩,Ad,cd,Al,cl,rfl,⟨hbs.m,hl⟩,zds t6 hz6⟩
theorem zdf {W:World} {fuel:Nat} {cs:List Value} {y:DataW H × List MemPlace} (hf:DataW.trod enc Tryz.prog W 0 (fun _=>true) true fuel 54 cs=some y) (h13:cs.length=13) (hz:∀ n∈y.1.weights Tryz.prog 54,n≤reachBytes) :
  ∃ (a:ActD) (Ad:Option Addr) (cd:Nat) (Al:Option Addr) (cl:Nat),cs=actC a (.slice Ad a.c.data.length cd) (.slice Al a.c.l.length cl)∧z0P W (fun _=>False) a.c (.slice Ad a.c.data.length cd) (.slice Al a.c.l.length cl)∧a.c.l.length≤140737488351232:=by
 obtain ⟨c0,c1,c2,c3,c4,c5,c6,c7,c8,c9,c10,c11,c12,rfl⟩:∃ c0 c1 c2 c3 c4 c5 c6 c7 c8 c9 c10 c11 c12,cs=[c0,c1,c2,c3,c4,c5,c6,c7,c8,c9,c10,c11,c12]:=by
  rcases cs with _ | ⟨c0,_ | ⟨c1,_ | ⟨c2,_ | ⟨c3,_ | ⟨c4,_ | ⟨c5,_ | ⟨c6,_ | ⟨c7,_ | ⟨c8,_ | ⟨c9,_ | ⟨c10,_ | ⟨c11,_ | ⟨c12,_ | ⟨c13,cs⟩⟩⟩⟩⟩⟩⟩⟩⟩⟩⟩⟩⟩⟩<;>simp at h13
  exact ⟨_,_,_,_,_,_,_,_,_,_,_,_,_,rfl⟩
 obtain ⟨ys,n',hn',hy,hlen,hyl,hfl⟩:=DataW.trod_struct Tryz.underlying54 hf
 have k3:Tryz.prog.cellsOf 3=1:=by kernel_rfl
 have k4:Tryz.prog.cellsOf 4=1:=by kernel_rfl
 have k35:Tryz.prog.cellsOf 35=10:=by kernel_rfl
 obtain ⟨y0,y1,y2,y3,rfl⟩:∃ y0 y1 y2 y3,ys=[y0,y1,y2,y3]:=by
  simp at hyl
  rcases ys with _ | ⟨y0,_ | ⟨y1,_ | ⟨y2,_ | ⟨y3,_ | ⟨y4,ys⟩⟩⟩⟩⟩<;>simp at hyl
  exact ⟨_,_,_,_,rfl⟩
 have t0:=hfl 0 _ rfl
 have t1:=hfl 1 _ rfl
 have t2:=hfl 2 _ rfl
 have t3:=hfl 3 _ rfl
 simp only [List.getElem_toArray,List.getElem_cons_zero,List.getElem_cons_succ] at t0 t1 t2 t3
 rw [k3] at t0 t3
 rw [k35] at t1
 rw [k4] at t2
 simp at t0 t1 t2 t3
 obtain ⟨z0,e0,_,_⟩:=DataW.trod_int Tryz.underlying3 t0
 obtain ⟨z2,e2,_⟩:=DataW.trod_bool Tryz.underlying4 t2
 obtain ⟨z3,e3,_,_⟩:=DataW.trod_int Tryz.underlying3 t3
 injection e0 with e0
 injection e2 with e2
 injection e3 with e3
 subst e0 e2 e3
 subst hy
 simp only [DataW.weights,Tryz.underlying54] at hz
 obtain ⟨c,Ad,cd,Al,cl,hc,hm,hl⟩:=zbb t1 rfl (fun q hq=>hz q (DataW.weights_mem_each (j:=1) (t:=35) (d:=y1.1) rfl rfl q hq))
 simp only [z1U] at hc
 injection hc with g1 hc
 injection hc with g2 hc
 injection hc with g3 hc
 injection hc with g4 hc
 injection hc with g5 hc
 injection hc with g6 hc
 injection hc with g7 hc
 injection hc with g8 hc
 injection hc with g9 hc
 injection hc with g10 hc
 subst g1 g2 g3 g4 g5 g6 g7 g8 g9 g10
 exact ⟨⟨z0,c,z2,z3⟩,Ad,cd,Al,cl,rfl,hm,hl⟩
theorem zb6 {W:World} {fuel:Nat} {v:Value} {y:DataW H × List MemPlace} (h:DataW.trod enc Tryz.prog W 0 (fun _=>true) true fuel 50 [v]=some y) (hz:∀ n∈y.1.weights Tryz.prog 50,n≤reachBytes) :
  ∃ (xs:List ActD) (A:Option Addr) (c:Nat),v=.slice A xs.length c∧z6B W (fun _=>False) A xs∧xs.length≤140737488351232:=by
 rcases open_slice Tryz.underlying50 h with ⟨hcs,_⟩ | ⟨a,len,cap,m,k,D,Pl,hcs,hb,hl,hm,hmm,hx,hi⟩
 ·injection hcs with hcs
  subst hcs
  exact ⟨[],none,0,rfl,fun i x hx=>by simp at hx,by simp⟩
 ·injection hcs with hcs
  subst hcs
  have hm':m=cap:=by simpa using hmm
  subst hm'
  rw [hx] at hz
  have hk:Tryz.prog.cellsOf 54=13:=by kernel_rfl
  rw [hk] at hi
  have hlen:len≤140737488351232:=by
   have:=hz _ (by
    simp only [DataW.weights,Tryz.underlying50]
    exact List.mem_cons_self ..)
   have e1:Tryz.prog.bytesOf 54=136:=by kernel_rfl
   rw [e1] at this
   simp only [List.length_map,List.length_range] at this
   unfold reachBytes at this
   omega
  have each:∀ i,i<len→∃ x:ActD,∃ Ad cd Al cl,z0P W (fun _=>False) x.c (.slice Ad x.c.data.length cd) (.slice Al x.c.l.length cl)∧x.c.l.length≤140737488351232∧∀ j u,(actC x (.slice Ad x.c.data.length cd) (.slice Al x.c.l.length cl))[j]?=some u→W.cell? ((a.add (i * 13)).add j)=some u:=by
   intro i hin
   obtain ⟨cs',hc,ht'⟩:=hi i (by omega)
   obtain ⟨_,hcl,hat⟩:=World.cells?_some hc
   obtain ⟨x,Ad,cd,Al,cl,he,hcm,hll⟩:=zdf ht' hcl (fun q hq=>hz q (by
    simp only [DataW.weights,Tryz.underlying50]
    exact List.mem_cons_of_mem _ (List.mem_append_left _ (z2A (d:=D i) (List.mem_map.2 ⟨i,by simpa using hin,rfl⟩) hq))))
   refine ⟨x,Ad,cd,Al,cl,hcm,hll,fun j u hu=>?_⟩
   have hj:=(List.getElem?_eq_some_iff.1 hu).1
   rw [← he] at hu hj
   rw [hat j (by omega),hu]
  let f:Nat→ActD:=fun i=>if h:i<len then Classical.choose (each i h) else ⟨0,⟨0,0,0,0,tok0,[],[]⟩,false,0⟩
  refine ⟨(List.range len).map f,some a,m,by simp,fun i x hx=>?_,by simpa using hlen⟩
  obtain ⟨hin,hxe⟩:=List.getElem?_eq_some_iff.1 hx
  simp only [List.length_map,List.length_range] at hin
  have hx2:x=f i:=by
   rw [← hxe]
   simp
  subst hx2
  have hch:=Classical.choose_spec (each i hin)
  have hfi:f i=Classical.choose (each i hin):=by simp only [f,dif_pos hin]
  rw [← hfi] at hch
  obtain ⟨Ad,cd,Al,cl,hcm,hll,hcell⟩:=hch
  obtain ⟨b,off,spot⟩:=a
  have hs:spot=none:=by
   obtain ⟨x0,Ad0,cd0,Al0,cl0,_,_,hc0⟩:=each 0 (by omega)
   simpa [Addr.add] using World.cell?_spot (hc0 0 _ rfl)
  subst hs
  rw [z2V] at hcell
  refine ⟨b,off,Ad,cd,Al,cl,rfl,?_,fun e=>e,hcm,hll,fun j u hu=>?_⟩
  ·have:=hcell 0 _ rfl
   rw [z2V] at this
   exact World.block_lt_of_cell? W _ this
  ·have:=hcell j u hu
   rw [z2V] at this
   exact this
theorem z5f {W:World} {b0:Nat} {v:Value} {d:DataW H} {p:List MemPlace} (hv:Value.okWide Tryz.prog W .any b0 50 v) (h:DataW.Trod enc Tryz.prog W 0 (fun _=>true) true 50 v d p) (hz:∀ n∈d.weights Tryz.prog 50,n≤reachBytes) :
  ∃ (xs:List ActD) (A:Option Addr) (c:Nat),v=.slice A xs.length c∧z6B W (fun _=>False) A xs∧xs.length≤140737488351232:=by
 obtain ⟨A,n,c,rfl⟩:=okWide_slice Tryz.underlying50 hv
 obtain ⟨fuel,hf⟩:=h
 exact zb6 hf hz
end
end Go.Proofs.YtniknicnnaiilaaGreat
end
