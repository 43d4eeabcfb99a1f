/- Lemmas of the engine. -/
import Derived.ChangeOld
import Derived.ChangeSame
import Derived.Deep.CutRange
import Derived.Deep.Fields
import Derived.Deep.Slices
import Derived.Lib.SmallJoins
import Derived.OpenShut
import Derived.ProofKit
import Derived.SizedLaws
import Derived.Test.YtniknicnnaiilaaGreatX01
import Derived.Test.YtniknicnnaiilaaGreatX30
import Derived.Test.YtniknicnnaiilaaGreatGrows5
section
namespace Go.Proofs.YtniknicnnaiilaaGreat
set_option maxRecDepth 100000
open Go.RowKit Go.Ext Go.BigFrame Go.Maps Go.MapKept
attribute [local go_sem] Ext.cell Ext.frozen Ext.lt Ext.le s1 s2 s3 s4 s5 s6 t1 t2 t3 t4 t5 t6
attribute [local go_sem ↓] Go.wp_at_zero Go.wp_at_succ
set_option maxHeartbeats 16000000 in
theorem zc7 (A:Option Addr) (c:Nat) (xs:List ActD) (w:World) (h:z6B w (fun _=>False) A xs) (hl:xs.length≤140737488351232) :
  Calls Tryz.prog 11 #[.slice A xs.length c] w (RetE (.bool true) w):=by
 have HKN:=hid z2e
 have H:=hid h
 have HL:=hid hl
 have HFEW:=hid (fun W (g:Gr w W)=>z8N A c xs (fun _=>False) W (h.up (Gr.up g _)) hl)
 obtain ⟨len,hn⟩:∃ n,xs.length=n:=⟨_,rfl⟩
 have HLEN:=hid hn
 rw [hn] at HL HFEW ⊢
 clear h hl hn
 refine retE ?_
 go_enter Tryz.func11,Tryz.ntmps11
 go_upto_region 3 with (go_at_call 12;refine (HKN.o _).mono ?_;rintro en _ ⟨rfl,y1,rfl⟩)
 go_wp2_with fail
 refine (HFEW.o _ y1.gr).mono ?_
 rintro en w2 ⟨b,rfl,hb,g2⟩
 have G2:=hid (y1.gr.trans g2)
 clear g2 HFEW hb
 cases b with
 | false =>
  go_wp2_with fail
  go_ret
  exact ⟨rfl,G2.o⟩
 | true =>
  rcases (by omega:(80:Int)<(len:Int)∨¬ (80:Int)<(len:Int)) with h80 | h80
  ·go_wp2_with fail
   go_ret
   exact ⟨rfl,G2.o⟩
  go_wp2_with fail
  refine (z4x (fun _=>False) _ (fun _ e=>e.elim)).mono ?_
  rintro en w3 ⟨M3,S3,k,rfl,g3,he3,-,hm3,hs3⟩
  have L3:=hid ((show Lw w2 w3 M3 S3 k (e0 0 1) 0 from ⟨⟨he3,zbu,g3,hs3⟩,fun b e=>Nat.le_of_not_lt fun hb=>hm3 b hb e⟩).old2 G2.o)
  have NS:=hid (fun b (hb:w3.heap.size≤b)=>L3.o.law.eng.nS hb)
  clear g3 he3 hm3 hs3
  have hmm:=@run_makeMap Tryz.prog
  go_upto_region 11 with fail
  clear hmm
  obtain ⟨w4,hw4⟩:∃ w4,w3.alloc (.map #[] 0)=w4:=⟨_,rfl⟩
  have G4:=hid (hw4▸(Gr.refl w3).alloc (.map #[] 0))
  have HM4:=hid (show MI w4 w3.heap.size [] from hw4▸MI.made w3)
  obtain ⟨w5,hw5⟩:∃ w5,w4.alloc (.map #[] 0)=w5:=⟨_,rfl⟩
  have G5:=hid (hw5▸(Gr.refl w4).alloc (.map #[] 0))
  have HM5:=hid (show MI w5 w4.heap.size [] from hw5▸MI.made w4)
  obtain ⟨w6,hw6⟩:∃ w6,w5.alloc (.cells #[.int .i64 0,.int .i64 0,.int .i64 0,.int .i64 0] 28)=w6:=⟨_,rfl⟩
  have G6:=hid (hw6▸(Gr.refl w5).alloc (.cells #[.int .i64 0,.int .i64 0,.int .i64 0,.int .i64 0] 28))
  have HT6:=hid (hw6▸heap_alloc_new w5 (.cells #[.int .i64 0,.int .i64 0,.int .i64 0,.int .i64 0] 28))
  have hs4:w4.heap.size=w3.heap.size+1:=by rw [← hw4];simp
  have hs5:w5.heap.size=w4.heap.size+1:=by rw [← hw5];simp
  have OC:=hid (show Gc w w6 (fun b=>((M3 b∨b=w3.heap.size)∨b=w4.heap.size)∨b=w5.heap.size) S3 k w5.heap.size w3.heap.size w4.heap.size (e0 0 1) 0 tok0 (fun _=>0) (fun _=>[]) from
   ⟨((L3.o.more G4.o (Nat.le_refl _) HM4.o.lt).more G5.o (Nat.le_refl _) HM5.o.lt).more G6.o (Nat.le_refl _) (block_lt HT6.o),zgf,HT6.o,⟨[],(HM4.o.gr G5.o).gr G6.o,fun _=>rfl⟩,⟨[],HM5.o.gr G6.o,fun _=>z08.none _ _ _⟩,.inr rfl,NS.o _ (by omega),.inl (.inl (.inr rfl)),NS.o _ (Nat.le_refl _),.inl (.inr rfl),NS.o _ (by omega),by omega,by omega,by omega,zfI⟩)
  rw [hw4,hw5,hw6]
  rw [hs5,hs4] at OC
  clear hw4 hw5 hw6 hs4 hs5 HT6 HM4 HM5 G4 G5 G6 NS L3 HKN
  generalize w3.heap.size=mb at *
  go_wp2_with fail
  go_loopw [8] (fun iv wr=>∃ (i:Nat) (E:ES) (M S:Bl) (n:Nat) (t:Tok) (rf:Int→Int) (wf:Int→List Ev),iv=.int .i64 i∧i≤len∧Gc w wr M S k (mb+1+1) mb (mb+1) E n t rf wf∧n≤100 * i) (fun iv _=>len-(intOf iv).toNat)
  case atStart=>exact ⟨0,_,_,_,_,_,_,_,rfl,Nat.zero_le _,OC.o,by omega⟩
  case round =>
   obtain ⟨i,E,M,S,n,t,rf,wf,rfl,hi,oc,hn⟩:=hrel
   have O:=hid oc
   have HN:=hid (show n≤8000 by omega)
   have HNI:=hid hn
   clear oc hn OC
   by_cases hlt:i<len
   ·obtain ⟨a,ha⟩:∃ a,xs[i]?=some a:=⟨_,List.getElem?_eq_getElem (by rw [HLEN.o];exact hlt)⟩
    obtain ⟨b,off,Ad,cd,Al,cl,rfl,hb,-,hcm,hll,hx⟩:=H.o.up O.o.lw.upF i a ha
    have HDAT:=hid hcm.datas
    have HCM:=hid hcm
    have HLL:=hid hll
    rcases a with ⟨ao,⟨ak,af,al,an,⟨t0,t1,t2,t3⟩,adat,als⟩,la,nn⟩
    simp only at HDAT HCM HLL hx
    clear hcm hll ha
    have c0:=hx 0 _ rfl
    have c1:=hx 1 _ rfl
    have c2:=hx 2 _ rfl
    have c3:=hx 3 _ rfl
    have c4:=hx 4 _ rfl
    have c5:=hx 5 _ rfl
    have c6:=hx 6 _ rfl
    have c7:=hx 7 _ rfl
    have c8:=hx 8 _ rfl
    have c9:=hx 9 _ rfl
    have c10:=hx 10 _ rfl
    have c11:=hx 11 _ rfl
    have c12:=hx 12 _ rfl
    simp only at c0 c1 c2 c3 c4 c5 c6 c7 c8 c9 c10 c11 c12
    rw [Nat.add_zero] at c0
    obtain ⟨ll,hll9⟩:∃ n,als.length=n:=⟨_,rfl⟩
    have HLL9:=hid hll9
    rw [hll9] at HCM c10
    generalize adat.length=dl at *
    clear hx hll9
    have hlz:(i:Int)<(len:Int):=by omega
    go_upto_region 15 with fail
    obtain ⟨w1,hw1⟩:∃ w1,wr.alloc (.cells #[.int .i64 ao,.int .i64 ak,.int .i64 af,.int .i64 al,.int .i64 an,.int .i64 t0,.int .i64 t1,.int .i64 t2,.int .i64 t3,.slice Ad dl cd,.slice Al ll cl,.bool la,.int .i64 nn] 54)=w1:=⟨_,rfl⟩
    have HB1:=hid (hw1▸heap_alloc_new wr (.cells #[.int .i64 ao,.int .i64 ak,.int .i64 af,.int .i64 al,.int .i64 an,.int .i64 t0,.int .i64 t1,.int .i64 t2,.int .i64 t3,.slice Ad dl cd,.slice Al ll cl,.bool la,.int .i64 nn] 54))
    have G1:=hid (hw1▸(Gr.refl wr).alloc (.cells #[.int .i64 ao,.int .i64 ak,.int .i64 af,.int .i64 al,.int .i64 an,.int .i64 t0,.int .i64 t1,.int .i64 t2,.int .i64 t3,.slice Ad dl cd,.slice Al ll cl,.bool la,.int .i64 nn] 54))
    rw [hw1]
    clear hw1 c0 c1 c2 c3 c4 c5 c6 c7 c8 c9 c10 c11 c12
    have O1:=hid (O.o.more G1.o (Nat.le_refl _) (block_lt HB1.o))
    have NB:=hid (And.intro (O.o.lw.law.eng.nS (Nat.le_refl wr.heap.size)) (And.intro (Nat.ne_of_lt (block_lt O.o.cells)) (And.intro (Nat.ne_of_lt O.o.lt1) (Nat.ne_of_lt O.o.lt2))))
    have CM1:=hid (HCM.o.up (show Up M wr (fun b=>M b∨b=wr.heap.size) w1 from ⟨G1.o.mod M,fun b hb e=>by
     rcases e with e | e
     ·exact e
     ·omega⟩))
    clear HCM hb
    generalize wr.heap.size=ba at *
    obtain ⟨z0,z1,z2,z3,z4,z5,z6,z7,z8,z9,z10,z11,z12⟩:=z4F HB1.o
    have lb:=block_lt HB1.o
    go_upto_if 48 with fail
    go_cut [10] from 36 to 130 (fun x wx=>∃ (E':ES) (M' S':Bl) (t':Tok),Gc w wx M' S' k (mb+1+1) mb (mb+1) E' (n+100) t' rf wf)
    case first =>
     by_cases hop:ao=2
     ·subst hop
      go_wp2_with fail
      clear z0 z1 z2 z3 z4 z5 z6 z7 z8 z9 z10 z11 z12
      refine (O1.o.tick nn (by have:=HN.o;omega)).mono ?_
      rintro en w2 ⟨x2,M2,S2,E2,rfl,o2,-⟩
      have O2:=hid (o2.le (Nat.le_add_right n 100))
      clear o2
      go_wp2_with fail
      go_meet
      exact ⟨_,_,_,_,O2.o⟩
     ·have hopz:(ao==2)=false:=by simpa using hop
      cases la
      case' false =>
       go_upto_region 19 with fail
       obtain ⟨w2,hw2⟩:∃ w2,w1=w2:=⟨_,rfl⟩
       have HA2:=hid (show ∃ (c:Call) (lb:Bool),w2.heap[ba]?=some (.cells #[.int .i64 ao,.int .i64 c.kind,.int .i64 c.flow,.int .i64 c.list,.int .i64 c.n,.int .i64 c.tok.flow,.int .i64 c.tok.run,.int .i64 c.tok.event,.int .i64 c.tok.turn,.slice Ad dl cd,.slice Al ll cl,.bool lb,.int .i64 nn] 54 (0,0))∧z0P w2 (fun b=>M b∨b=ba) c (.slice Ad dl cd) (.slice Al ll cl)∧c.l=als from
        ⟨⟨ak,af,al,an,⟨t0,t1,t2,t3⟩,adat,als⟩,false,hw2▸HB1.o,hw2▸CM1.o,rfl⟩)
       have O2:=hid (hw2▸O1.o)
      case' true =>
       obtain ⟨x0,x1,x2,x3⟩:=z0C O1.o.cells
       have lt:=block_lt O1.o.cells
       have f5:=z00 (j:=5) HB1.o
       have f6:=z00 (j:=6) HB1.o
       have f7:=z00 (j:=7) HB1.o
       have f8:=z00 (j:=8) HB1.o
       go_upto_region 19 with fail
       obtain ⟨w2,hw2,m2,hc2⟩:=z7h (f':=.int .i64 t.flow) (g':=.int .i64 t.run) (h':=.int .i64 t.event) (i':=.int .i64 t.turn) HB1.o
       have HA2:=hid (show ∃ (c:Call) (lb:Bool),w2.heap[ba]?=some (.cells #[.int .i64 ao,.int .i64 c.kind,.int .i64 c.flow,.int .i64 c.list,.int .i64 c.n,.int .i64 c.tok.flow,.int .i64 c.tok.run,.int .i64 c.tok.event,.int .i64 c.tok.turn,.slice Ad dl cd,.slice Al ll cl,.bool lb,.int .i64 nn] 54 (0,0))∧z0P w2 (fun b=>M b∨b=ba) c (.slice Ad dl cd) (.slice Al ll cl)∧c.l=als from
        ⟨⟨ak,af,al,an,t,adat,als⟩,true,hc2,CM1.o.up (Mod.up m2 (fun _ _ e=>.inr e)),rfl⟩)
       have O2:=hid (O1.o.set m2 (.inr rfl) NB.o.1 NB.o.2.1 NB.o.2.2.1 NB.o.2.2.2)
       clear x0 x1 x2 x3 f5 f6 f7 f8 m2 hc2 lt
      all_goals (
       rw [hw2]
       clear hw2 z0 z1 z2 z3 z4 z5 z6 z7 z8 z9 z10 z11 z12 lb CM1 O1 HB1
       obtain ⟨⟨ck,cf,cli,cn,⟨tf,tr,te,tt⟩,cdat,cls⟩,lb2,hb2,hcm2,hcl⟩:=HA2.o
       simp only at hb2 hcl
       subst hcl
       have HCM2:=hid hcm2
       clear hcm2 HA2
       obtain ⟨z0,z1,z2,z3,z4,z5,z6,z7,z8,z9,z10,z11,z12⟩:=z4F hb2
       have lb:=block_lt hb2
       have hc:=O2.o.act ⟨ck,cf,cli,cn,⟨tf,tr,te,tt⟩,cdat,cls⟩ (.slice Ad dl cd) (.slice Al ll cl) (by have:=HN.o;omega) HCM2.o HLL.o HDAT.o
       go_wp2_with fail
       clear z0 z1 z2 z3 z4 z5 z6 z7 z8 z9 z10 z11 z12 lb hb2
       refine hc.mono ?_
       clear hc
       rintro en w3 ⟨a3,A3,c3,A3',c3',M3,S3,E3,rfl,o3,-⟩
       have O3:=hid o3
       clear o3
       rcases a3 with ⟨v0,v1,v2,v3,⟨v4,v5,v6,v7⟩,v8,v9⟩
       simp only [ansV,ansC]
       generalize v8.length=n8 at *
       generalize v9.length=n9 at *
       go_upto_region 20 with fail
       obtain ⟨w4,hw4⟩:∃ w4,w3.alloc (.cells #[.int .i64 v0,.int .i64 v1,.int .i64 v2,.bool v3,.int .i64 v4,.int .i64 v5,.int .i64 v6,.int .i64 v7,.slice A3 n8 c3,.slice A3' n9 c3'] 31)=w4:=⟨_,rfl⟩
       have HB4:=hid (hw4▸heap_alloc_new w3 (.cells #[.int .i64 v0,.int .i64 v1,.int .i64 v2,.bool v3,.int .i64 v4,.int .i64 v5,.int .i64 v6,.int .i64 v7,.slice A3 n8 c3,.slice A3' n9 c3'] 31))
       have O4:=hid (O3.o.gr (hw4▸(Gr.refl w3).alloc (.cells #[.int .i64 v0,.int .i64 v1,.int .i64 v2,.bool v3,.int .i64 v4,.int .i64 v5,.int .i64 v6,.int .i64 v7,.slice A3 n8 c3,.slice A3' n9 c3'] 31)))
       rw [hw4]
       clear hw4
       obtain ⟨b0,b1,b2,b3,b4,b5,b6,b7,b8,b9⟩:=z04 HB4.o
       have lb4:=block_lt HB4.o
       cases v3 with
       | false =>
        go_wp2_with fail
        go_meet
        exact ⟨_,_,_,_,O4.o⟩
       | true =>
        have f0:=z00 (j:=0) O4.o.cells
        have f1:=z00 (j:=1) O4.o.cells
        have f2:=z00 (j:=2) O4.o.cells
        have f3:=z00 (j:=3) O4.o.cells
        have lt4:=block_lt O4.o.cells
        obtain ⟨x0,x1,x2,x3⟩:=z0C O4.o.cells
        obtain ⟨w5,hw5,m5,hc5⟩:=z7i (a':=.int .i64 v4) (b':=.int .i64 v5) (c':=.int .i64 v6) (d':=.int .i64 v7) O4.o.cells
        have O5:=hid (O4.o.setTok (t':=⟨v4,v5,v6,v7⟩) m5 hc5)
        have HW5:=hid hw5
        clear hw5 m5 hc5
        go_wp2_with fail
        go_meet
        rw [HW5.o]
        exact ⟨_,_,_,_,O5.o⟩)
    case rest =>
     obtain ⟨E2,M2,S2,tk2,oc2⟩:=hcut
     have O2:=hid oc2
     clear oc2 O1 O CM1 HB1 G1 NB HDAT HLL HLL9 z0 z1 z2 z3 z4 z5 z6 z7 z8 z9 z10 z11 z12 lb
     go_wp2_with fail
     refine (zbP k E2 M2 S2 wc O2.o.lw.law.eng O2.o.lw.law.e1.ok).mono ?_
     rintro en w3 ⟨Aw,cw,L,rfl,hrd,hL,g3⟩
     have O3:=hid (O2.o.gr g3)
     have HRD:=hid hrd
     clear hrd g3 O2
     obtain ⟨ln,hln⟩:∃ n,L.length=n:=⟨_,rfl⟩
     have HLN:=hid hln
     rw [hln] at hL ⊢
     clear hln
     go_wp2_with fail
     go_loopw [12] (fun jv w4=>∃ (j:Nat) (M4 S4:Bl) (rf4:Int→Int) (wf4:Int→List Ev),jv=.int .i64 j∧j≤ln∧Gc w w4 M4 S4 k (mb+1+1) mb (mb+1) E2 (n+100) tk2 rf4 wf4∧RdM w4 M4 Aw (L.map (.int .i64))) (fun jv _=>ln-(intOf jv).toNat)
     case atStart=>exact ⟨0,_,_,_,_,rfl,Nat.zero_le _,O3.o,HRD.o⟩
     case round =>
      obtain ⟨j,M4,S4,rf4,wf4,rfl,hj,oc4,hrd4⟩:=hrel
      have O4:=hid oc4
      have HRD4:=hid hrd4
      clear oc4 hrd4 O3 HRD
      by_cases hjl:j<ln
      ·obtain ⟨x,hx⟩:∃ x,L[j]?=some x:=⟨_,List.getElem?_eq_getElem (by rw [HLN.o];exact hjl)⟩
       have hxm:(L.map (Value.int .i64))[j]?=some (.int .i64 x):=by rw [List.getElem?_map,hx];rfl
       have HXM:=hid hxm
       obtain ⟨rb,ro,rfl,-,hrc⟩:=HRD4.o (fun e=>by rw [e] at hxm;simp at hxm)
       have hrow:=hrc j _ hxm
       have hrl:=World.block_lt_of_cell? _ _ hrow
       clear hrc hxm hx
       have hjz:(j:Int)<(ln:Int):=by omega
       have hc:=O4.o.his x (by have:=HN.o;omega)
       go_wp2_with fail
       clear hrow hrl
       refine hc.mono ?_
       clear hc
       rintro en w5 ⟨a5,A5,c5,A5',c5',M5,S5,rfl,hr5,he5,o5,hal5,hev5⟩
       have O5:=hid o5
       have RD5:=hid (HRD4.o.up (hal5.up O4.o.lw.law.eng.lt.2.1))
       rcases a5 with ⟨v0,v1,v2,v3,⟨v4,v5,v6,v7⟩,v8,v9⟩
       simp only at hr5 he5 hev5
       have HR5:=hid hr5
       have HE5:=hid he5
       have EV5:=hid hev5
       clear o5 hal5 hev5 hr5 he5 O4 HRD4
       simp only [ansV,ansC]
       obtain ⟨n9,hn9⟩:∃ n,v9.length=n:=⟨_,rfl⟩
       have HN9:=hid hn9
       rw [hn9] at EV5 ⊢
       clear hn9
       generalize v8.length=n8 at *
       go_upto_region 27 with fail
       obtain ⟨w6,hw6⟩:∃ w6,w5.alloc (.cells #[.int .i64 v0,.int .i64 v1,.int .i64 v2,.bool v3,.int .i64 v4,.int .i64 v5,.int .i64 v6,.int .i64 v7,.slice A5 n8 c5,.slice A5' n9 c5'] 31)=w6:=⟨_,rfl⟩
       have HB6:=hid (hw6▸heap_alloc_new w5 (.cells #[.int .i64 v0,.int .i64 v1,.int .i64 v2,.bool v3,.int .i64 v4,.int .i64 v5,.int .i64 v6,.int .i64 v7,.slice A5 n8 c5,.slice A5' n9 c5'] 31))
       have G6:=hid (hw6▸(Gr.refl w5).alloc (.cells #[.int .i64 v0,.int .i64 v1,.int .i64 v2,.bool v3,.int .i64 v4,.int .i64 v5,.int .i64 v6,.int .i64 v7,.slice A5 n8 c5,.slice A5' n9 c5'] 31))
       have O6:=hid (O5.o.gr G6.o)
       have RD6:=hid (RD5.o.up (Gr.up G6.o _))
       have EV6:=hid (EV5.o.up (Gr.up G6.o _))
       rw [hw6]
       have NB2:=hid (And.intro O5.o.lt1 O5.o.lt2)
       clear hw6 O5 RD5 EV5 G6
       generalize w5.heap.size=ba2 at *
       have htd:=O6.o.told x
       rw [← HR5.o,← HE5.o] at htd
       have HTD:=hid htd
       have hle:¬ v1<rf4 x:=by omega
       clear htd
       obtain ⟨kv1,q1,q2⟩:=O6.o.r
       obtain ⟨kv2,p1,p2⟩:=O6.o.e
       have Q1:=hid (And.intro q1 q2)
       have P1:=hid (And.intro p1 p2)
       clear q1 q2 p1 p2
       obtain ⟨z0,z1,z2,z3,z4,z5,z6,z7,z8,z9⟩:=z04 HB6.o
       have lz:=block_lt HB6.o
       have HROW:=hid (fun W M' (u:Up M5 w6 M' W)=>RD6.o.up u)
       obtain ⟨rb',ro',e7,-,hrc⟩:=RD6.o (fun e=>by have:=HXM.o;rw [e] at this;simp at this)
       injection e7 with e7
       injection e7 with e7 e8
       subst e7 e8
       have hrow:=hrc j _ HXM.o
       have hrl:=World.block_lt_of_cell? _ _ hrow
       clear hrc
       have hlk:∀ y:Ext w6,(Instr.lookup 65 (.map (some mb)) (.int .i64 x) false).run Tryz.prog y.val=.ok (.int .i64 (rf4 x)) y.val:=fun y=>by
        have:=(Q1.o.1.gr y.gr).lookup (T:=65) (K:=3) (E:=3) Tryz.underlying65 Tryz.underlying3 (Tryz.zeroValue3 _) x false
        rw [Q1.o.2] at this
        simpa using this
       refine z01 [(0,false),(1,false),(2,false),(3,false),(4,false),(5,false),(6,false),(7,false),(8,false),(9,false),(10,false),(11,false),(12,true),(13,false),(14,true)] (fun W=>Gr w6 W) (by kernel_rfl) (by kernel_rfl) (fun _ _ d _ _ h=>by cases d<;>exact h) (Gr.refl w6).drew (fun _=>?_)
       iterate 12 (refine z03 (v:=?_) rfl (by rfl) ?_ ?_;rotate_left;(focus (intro W9 hW9;obtain ⟨x9,rfl⟩:∃ x:Ext w6,W9=x.val:=⟨⟨W9,hW9⟩,rfl⟩;go_simp;(try with_reducible rfl);done));(try simp only [AP]))
       refine z05 rfl (by rfl) (fun K hK=>?_)
       go_simp
       go_at_call 26
       have hok:=zeq O6.o.lw.law.e1.ok O6.o.ec x
       rw [← HR5.o,← HE5.o] at hok
       refine (z7y v9 (.slice A5' n9 c5') M5 w6.drew (EV6.o.up (Gr.up (Gr.refl w6).drew M5)) hok.1 (by omega)).mono ?_
       clear hok
       rintro en _ ⟨rfl,y7,rfl⟩
       refine hK.o (fun W=>Gr w6 W) _ _ ((Gr.refl w6).drew.trans y7.gr) (fun W h=>h) (fun _=>?_)
       clear hK K
       (try simp only [AP])
       iterate 1 (refine z03 (v:=?_) rfl (by rfl) ?_ ?_;rotate_left;(focus (intro W9 hW9;obtain ⟨x9,rfl⟩:∃ x:Ext w6,W9=x.val:=⟨⟨W9,hW9⟩,rfl⟩;go_simp;(try with_reducible rfl);done));(try simp only [AP]))
       refine z06 rfl (by rfl) (fun K hK=>?_)
       go_simp
       refine hK.o _ _ ?_
       clear hK K
       obtain ⟨w7,hw7⟩:∃ W,y7.val=W:=⟨_,rfl⟩
       have G7:=hid (show Gr w6 w7 from hw7▸(Gr.refl w6).drew.trans y7.gr)
       rw [hw7]
       clear hw7 z0 z1 z2 z3 z4 z5 z6 z7 z8 z9 lz hrow hrl hlk
       go_upto_region 29 with fail
       have HB7:=hid ((G7.o.block _ (block_lt HB6.o)).trans HB6.o)
       have O7:=hid (O6.o.gr G7.o)
       have RD7:=hid (RD6.o.up (Gr.up G7.o _))
       have EV7:=hid (EV6.o.up (Gr.up G7.o _))
       have Q7:=hid (Q1.o.1.gr G7.o)
       have P7:=hid (P1.o.1.gr G7.o)
       have W7:=hid ((P1.o.2 x).up (Gr.up G7.o _))
       clear O6 RD6 EV6 HB6
       obtain ⟨z0,z1,z2,z3,z4,z5,z6,z7,z8,z9⟩:=z04 HB7.o
       have lz:=block_lt HB7.o
       obtain ⟨rb',ro',e7,-,hrc⟩:=RD7.o (fun e=>by have:=HXM.o;rw [e] at this;simp at this)
       injection e7 with e7
       injection e7 with e7 e8
       subst e7 e8
       have hrow:=hrc j _ HXM.o
       have hrl:=World.block_lt_of_cell? _ _ hrow
       clear hrc
       have hlk:∀ y:Ext w7,(Instr.lookup 65 (.map (some mb)) (.int .i64 x) false).run Tryz.prog y.val=.ok (.int .i64 (rf4 x)) y.val:=fun y=>by
        have:=(Q7.o.gr y.gr).lookup (T:=65) (K:=3) (E:=3) Tryz.underlying65 Tryz.underlying3 (Tryz.zeroValue3 _) x false
        rw [Q1.o.2] at this
        simpa using this
       obtain ⟨A8,c8,hv8,-⟩:=W7.o.shape
       rw [hv8] at W7
       obtain ⟨n8',hn8'⟩:∃ n,(wf4 x).length=n:=⟨_,rfl⟩
       have HN8:=hid hn8'
       rw [hn8'] at W7 hv8
       have hlk2:∀ y:Ext w7,(Instr.lookup 66 (.map (some (mb+1))) (.int .i64 x) false).run Tryz.prog y.val=.ok (.slice A8 n8' c8) y.val:=fun y=>by
        have:=(P7.o.gr y.gr).lookup (T:=66) (K:=3) (E:=29) Tryz.underlying66 Tryz.underlying3 (Tryz.zeroValue29 _) x false
        rw [hv8] at this
        simpa using this
       clear hv8 hn8'
       rcases HTD.o with hlt1 | ⟨heq1,hpre⟩
       case' inl =>
        have hne:(v1==rf4 x)=false:=by simp;omega
        refine z01 [(0,false),(1,false),(2,false),(3,false),(4,false),(5,false),(6,false),(7,false),(8,false),(9,false),(10,false),(11,false),(12,false),(13,false),(14,false),(15,false),(16,false),(17,false),(18,true),(19,false),(20,true)] (fun W=>Gr w7 W) (by kernel_rfl) (by kernel_rfl) (fun _ _ d _ _ h=>by cases d<;>exact h) (Gr.refl w7).drew (fun _=>?_)
        iterate 18 (first | (refine z03 (v:=?_) rfl (by rfl) ?_ ?_;rotate_left;(focus (intro W9 hW9;obtain ⟨x9,rfl⟩:∃ x:Ext w7,W9=x.val:=⟨⟨W9,hW9⟩,rfl⟩;go_simp;(try with_reducible rfl);done));(try simp only [AP])) | (refine z0i rfl (by rfl) ?_;(try simp only [AP])))
        refine z2z rfl (by rfl) ?_
        (try simp only [AP])
        iterate 1 (first | (refine z03 (v:=?_) rfl (by rfl) ?_ ?_;rotate_left;(focus (intro W9 hW9;obtain ⟨x9,rfl⟩:∃ x:Ext w7,W9=x.val:=⟨⟨W9,hW9⟩,rfl⟩;go_simp;(try with_reducible rfl);done));(try simp only [AP])) | (refine z0i rfl (by rfl) ?_;(try simp only [AP])))
        refine z06 rfl (by rfl) (fun K hK=>?_)
        go_simp
        refine hK.o _ _ ?_
        clear hK K
        obtain ⟨w8,hw8⟩:∃ W,w7.drew=W:=⟨_,rfl⟩
        have G8:=hid (show Gr w7 w8 from hw8▸(Gr.refl w7).drew)
        rw [hw8]
        clear hw8 z0 z1 z2 z3 z4 z5 z6 z7 z8 z9 lz hrow hrl hlk hlk2 hne hlt1
       case' inr =>
        have hne:(v1==rf4 x)=true:=by simp;omega
        refine z01 [(0,false),(1,false),(2,false),(3,false),(4,false),(5,false),(6,false),(7,false),(8,false),(9,false),(10,false),(11,false),(12,false),(13,false),(14,false),(15,false),(16,false),(17,false),(18,true),(19,false),(20,true)] (fun W=>Gr w7 W) (by kernel_rfl) (by kernel_rfl) (fun _ _ d _ _ h=>by cases d<;>exact h) (Gr.refl w7).drew (fun _=>?_)
        iterate 18 (refine z03 (v:=?_) rfl (by rfl) ?_ ?_;rotate_left;(focus (intro W9 hW9;obtain ⟨x9,rfl⟩:∃ x:Ext w7,W9=x.val:=⟨⟨W9,hW9⟩,rfl⟩;go_simp;(try with_reducible rfl);done));(try simp only [AP]))
        refine z05 rfl (by rfl) (fun K hK=>?_)
        go_simp
        go_at_call 30
        have hok:=(zeq O7.o.lw.law.e1.ok O7.o.ec x).2.1
        rw [← HE5.o] at hok
        obtain ⟨r9,hr9⟩:=hpre
        have hev:=EV7.o.up (Gr.up (Gr.refl w7).drew M5)
        rw [← hr9] at hev hok
        rw [List.length_append] at hok
        refine (zaQ (wf4 x) r9 (.slice A8 n8' c8) (.slice A5' n9 c5') M5 w7.drew (W7.o.up (Gr.up (Gr.refl w7).drew M5)) hev (by omega)).mono ?_
        clear hok hev hr9
        rintro en _ ⟨rfl,y8,rfl⟩
        refine hK.o (fun W=>Gr w7 W) _ _ ((Gr.refl w7).drew.trans y8.gr) (fun W h=>h) (fun _=>?_)
        clear hK K
        (try simp only [AP])
        iterate 1 (refine z03 (v:=?_) rfl (by rfl) ?_ ?_;rotate_left;(focus (intro W9 hW9;obtain ⟨x9,rfl⟩:∃ x:Ext w7,W9=x.val:=⟨⟨W9,hW9⟩,rfl⟩;go_simp;(try with_reducible rfl);done));(try simp only [AP]))
        refine z06 rfl (by rfl) (fun K hK=>?_)
        go_simp
        refine hK.o _ _ ?_
        clear hK K
        obtain ⟨w8,hw8⟩:∃ W,y8.val=W:=⟨_,rfl⟩
        have G8:=hid (show Gr w7 w8 from hw8▸(Gr.refl w7).drew.trans y8.gr)
        rw [hw8]
        clear hw8 z0 z1 z2 z3 z4 z5 z6 z7 z8 z9 lz hrow hrl hlk hlk2 hne heq1
       all_goals (
        go_upto_region 31 with fail
        have HB8:=hid ((G8.o.block _ (block_lt HB7.o)).trans HB7.o)
        have O8:=hid (O7.o.gr G8.o)
        have RD8:=hid (RD7.o.up (Gr.up G8.o _))
        have EV8:=hid (EV7.o.up (Gr.up G8.o _))
        have Q8:=hid (Q7.o.gr G8.o)
        have P8:=hid (P7.o.gr G8.o)
        have R8:=hid (show ∀ y,z08 evR w8 M5 ((lk kv2 y).getD (.slice none 0 0)) (wf4 y) from fun y=>((P1.o.2 y).up (Gr.up G7.o _)).up (Gr.up G8.o _))
        clear O7 RD7 EV7 HB7 Q7 P7 W7 HN8 HTD
        obtain ⟨z0,z1,z2,z3,z4,z5,z6,z7,z8,z9⟩:=z04 HB8.o
        have lz:=block_lt HB8.o
        obtain ⟨rb',ro',e7,-,hrc⟩:=RD8.o (fun e=>by have:=HXM.o;rw [e] at this;simp at this)
        injection e7 with e7
        injection e7 with e7 e8
        subst e7 e8
        have hrow:=hrc j _ HXM.o
        have hrl:=World.block_lt_of_cell? _ _ hrow
        clear hrc
        refine z01 [(0,false),(1,false),(2,false),(3,false),(4,false),(5,false),(6,false),(7,true)] (fun W=>Gr w8 W) (by kernel_rfl) (by kernel_rfl) (fun _ _ d _ _ h=>by cases d<;>exact h) (Gr.refl w8).drew (fun _=>?_)
        iterate 7 (refine z03 (v:=?_) rfl (by rfl) ?_ ?_;rotate_left;(focus (intro W9 hW9;obtain ⟨x9,rfl⟩:∃ x:Ext w8,W9=x.val:=⟨⟨W9,hW9⟩,rfl⟩;go_simp;(try with_reducible rfl);done));(try simp only [AP]))
        refine z06 rfl (by rfl) (fun K hK=>?_)
        refine z0f _ _ _ _ 65 rfl 3 3 Tryz.underlying65 Tryz.underlying3 mb kv1 x (.int .i64 v1) (by rfl) (Q8.o.gr (Gr.refl w8).drew) (by rfl) (by rfl) ?_
        intro w9 hmi9 hm9'
        have hm9:=((Gr.refl w8).drew.mod (fun b=>b=mb)).trans hm9' (fun _ _ e=>e)
        have U9:=hid (show Up M5 w8 M5 w9 from Mod.up hm9 (fun _ _ e=>e▸O8.o.mm1))
        have HB9:=hid ((hm9.block _ (block_lt HB8.o) (Ne.symm (Nat.ne_of_lt NB2.o.1))).trans HB8.o)
        have RD9:=hid (RD8.o.up U9.o)
        have P9:=hid (P8.o.mod hm9 (by omega))
        have HM9:=hid (And.intro hm9 hmi9)
        refine hK.o _ _ ?_
        clear hK K hmi9 hm9 hm9' z0 z1 z2 z3 z4 z5 z6 z7 z8 z9 lz hrow hrl
        go_upto_region 32 with fail
        obtain ⟨z0,z1,z2,z3,z4,z5,z6,z7,z8,z9⟩:=z04 HB9.o
        have lz:=block_lt HB9.o
        obtain ⟨rb',ro',e7,-,hrc⟩:=RD9.o (fun e=>by have:=HXM.o;rw [e] at this;simp at this)
        injection e7 with e7
        injection e7 with e7 e8
        subst e7 e8
        have hrow:=hrc j _ HXM.o
        have hrl:=World.block_lt_of_cell? _ _ hrow
        clear hrc
        refine z01 [(0,false),(1,false),(2,false),(3,false),(4,false),(5,false),(6,false),(7,true)] (fun W=>Gr w9 W) (by kernel_rfl) (by kernel_rfl) (fun _ _ d _ _ h=>by cases d<;>exact h) (Gr.refl w9).drew (fun _=>?_)
        iterate 7 (refine z03 (v:=?_) rfl (by rfl) ?_ ?_;rotate_left;(focus (intro W9 hW9;obtain ⟨x9,rfl⟩:∃ x:Ext w9,W9=x.val:=⟨⟨W9,hW9⟩,rfl⟩;go_simp;(try with_reducible rfl);done));(try simp only [AP]))
        refine z06 rfl (by rfl) (fun K hK=>?_)
        refine z0f _ _ _ _ 66 rfl 3 29 Tryz.underlying66 Tryz.underlying3 (mb+1) kv2 x (.slice A5' n9 c5') (by rfl) (P9.o.gr (Gr.refl w9).drew) (by rfl) (by rfl) ?_
        intro w10 hmi10 hm10'
        have hm10:=((Gr.refl w9).drew.mod (fun b=>b=mb+1)).trans hm10' (fun _ _ e=>e)
        have RD10:=hid (RD9.o.up (Mod.up hm10 (fun _ _ e=>e▸O8.o.mm2)))
        have O10:=hid (O8.o.tell Q1.o.2 R8.o HM9.o.1 (by rw [← HR5.o];exact HM9.o.2) hm10 hmi10 (by rw [← HE5.o];exact EV8.o))
        refine hK.o _ _ ?_
        clear hK K hmi10 hm10 hm10' z0 z1 z2 z3 z4 z5 z6 z7 z8 z9 lz hrow hrl
        go_wp2_with fail
        go_roundw
        case rel=>exact ⟨j+1,_,_,_,_,by go_num,by omega,O10.o,RD10.o⟩
        case measure=>simp [intOf];omega)
      ·have hjz:¬ (j:Int)<(ln:Int):=by omega
       go_wp2_with fail
       go_roundw
       case rel=>exact ⟨i+1,_,_,_,_,_,_,_,by go_num,by omega,O4.o,by have:=HNI.o;omega⟩
       case measure=>simp [intOf];omega
   ·have hlz:¬ (i:Int)<(len:Int):=by omega
    go_wp2_with fail
    go_ret
    exact ⟨rfl,O.o.lw.law.g⟩
end Go.Proofs.YtniknicnnaiilaaGreat
end
section
namespace Go.Ext
open Go.RowKit Go.ChangeShapes Go.WideShapes Go.ChangeAt
section
variable {H:Type} {enc:TypeId × Value→H} {P:Program}
theorem z6w (hl:laidOutB P=true) {W W':World} (hb:Gr W W'):∀ (ts:List TypeId) (vs:List Value) (ds:List (DataW H)) (ps:List MemPlace),(∀ t∈ts,P.readableRec t=true∧t<P.types.size) →
  DataW.TrodAll enc P W 0 (fun _=>true) true ts vs ds ps→(∀ x∈ps,x.block<W.heap.size)→DataW.TrodAll enc P W' 0 (fun b=>decide (b<W.heap.size)) true ts vs ds ps
 | [],vs,ds,ps,_,h,_=>by
  obtain ⟨rfl,rfl,rfl⟩:=trodAll_nil h
  exact trodAll_mk0
 | t::ts,vs,ds,ps,hr,h,hlt=>by
  obtain ⟨v,vs',d,ds',p,q,rfl,rfl,rfl,h0,h1⟩:=trodAll_cons h
  have ht:=hr t (by simp)
  exact trodAll_cons_mk (Below.trod hl ht.1 ht.2 h0 hb (fun x hx=>hlt x (by simp [hx]))) (z6w hl hb ts vs' ds' q (fun t' h'=>hr t' (by simp [h'])) h1 (fun x hx=>hlt x (by simp [hx])))
theorem zgB {ts:List TypeId} (h:(ts.all fun t=>P.readableRec t && decide (t<P.types.size))=true):∀ t∈ts,P.readableRec t=true∧t<P.types.size:=by
 intro t ht
 have:=List.all_eq_true.1 h t ht
 simpa using this
theorem z2R {fn:Func} {s:ChangeSpec} {tb:TypeId} (hl:laidOutB P=true) (hread:(fn.params.toList.all fun t=>P.readableRec t && decide (t<P.types.size))=true) (hres:fn.resultTypes=#[tb]) (htb:P.underlying tb=some .bool) (hvars:s.vars=[])
  {W W':World} {args:Array Value} {ds gs:List (DataW H)} {before:List MemPlace} (hW:DataW.Whole enc P fn.params.toList s.vars false W args.toList ds gs before)
  (hs:s.fn H (ds++gs)={ results:=[.lit (.bool true)],args:=ds }) (hb:Gr W W'):s.post enc P fn false true false false W args (.bool true) W':=by
 have hlt:∀ x∈before,x.block<W.heap.size:=hW.lt
 have hW':=hW
 obtain ⟨p,q,hA,hV,rfl,_,_⟩:=hW
 refine ⟨ds,gs,p++q,[],p,[],hW',?_,?_,?_,hb.below.frame _,fun h=>by cases h⟩
 ·rw [hs,hres]
  exact trodAll_mk1 (shut_bool htb true)
 ·rw [hs]
  exact z6w hl hb _ _ _ _ (zgB hread) hA (fun x hx=>hlt x (by simp [hx]))
 ·rw [hs,hvars]
  rfl
end
end Go.Ext
end
section
namespace Go.Proofs.YtniknicnnaiilaaGreat
set_option maxRecDepth 100000
open Go.RowKit Go.Ext Go.BigFrame Go.Maps Go.MapKept
attribute [local go_sem] Ext.cell Ext.frozen Ext.lt Ext.le s1 s2 s3 s4 s5 s6 t1 t2 t3 t4 t5 t6
attribute [local go_sem ↓] Go.wp_at_zero Go.wp_at_succ
open Go.ChangeShapes Go.WideShapes Go.ChangeAt Go.Joins Go.Deep
theorem Tryz.own:ownKnob Tryz.prog.godebug=none:=by kernel_rfl
theorem Tryz.laidOut:laidOutB Tryz.prog=true:=by kernel_rfl
theorem z2V {b off j:Nat}:(⟨b,off,none⟩:Addr).add j=⟨b,off+j,none⟩:=by unfold Addr.add;split<;>simp_all
section
variable {H:Type} {enc:TypeId × Value→H} {P:Program} {w:World} {base:Nat} {spare:Nat→Bool} {held:Bool}
theorem z3m {t e:TypeId} {fs:Array Field} {fuel:Nat} {cs:List Value} {x:DataW H × List MemPlace} (ht:P.underlying t=some (.slice e)) (he:P.underlying e=some (.struct fs))
  (hone:oneCellFields P fs=true) (hC:P.cellsOf e=fs.size) (h:DataW.trod enc P w base spare held fuel t cs=some x) :
  (cs=[.slice none 0 0]∧x=(.nil,[])) ∨
  ∃ (a:Addr) (len cap m:Nat) (D:Nat→DataW H) (Pl:Nat→List MemPlace),cs=[.slice (some a) len cap]∧base≤a.block∧len≤cap∧cap≤maxLen∧m=(if spare a.block then cap else len) ∧
   x=(.slice ((List.range len).map D) ((List.range (m-len)).map fun j=>D (len+j)),MemPlace.row a (m * fs.size)++(List.range m).flatMap Pl) ∧
   ∀ i,i<m→∃ (ys:List (DataW H × List MemPlace)) (n:Nat),D i=.agg (ys.map (·.1))∧Pl i=ys.flatMap (·.2)∧ys.length=fs.size ∧
    ∀ (j:Nat) (f:Field),fs[j]?=some f→∃ (v:Value) (y:DataW H × List MemPlace),w.cell? (a.add (i * fs.size+j))=some v∧ys[j]?=some y∧DataW.trod enc P w base spare held n f.type [v]=some y:=by
 rcases open_slice ht h with h0 | ⟨a,len,cap,m,n,D,Pl,hcs,hb,hl,hm,hmm,hx,hi⟩
 ·exact .inl h0
 ·refine .inr ⟨a,len,cap,m,D,Pl,hcs,hb,hl,hm,hmm,by rw [hC] at hx;exact hx,fun i him=>?_⟩
  obtain ⟨cs',hc,ht'⟩:=hi i him
  rw [hC] at hc
  obtain ⟨ys,n',hn',hy,hlen,hyl,hf⟩:=DataW.trod_struct he ht'
  obtain ⟨_,hcl,hat⟩:=World.cells?_some hc
  simp only [Prod.mk.injEq] at hy
  refine ⟨ys,n',hy.1,hy.2,hyl,fun j f hj=>?_⟩
  obtain ⟨ho,hk⟩:=hone_of hone j f hj
  have hjl:j<fs.size:=(Array.getElem?_eq_some_iff.1 hj).1
  have hcell:=hat j hjl
  have hv:cs'[j]?=some (cs'[j]'(by omega)):=List.getElem?_eq_getElem (by omega)
  have h1:=hf j f hj
  rw [ho,hk] at h1
  have hone':(cs'.drop j).take 1=[cs'[j]'(by omega)]:=by
   rw [List.drop_eq_getElem_cons (by omega)]
   rfl
  rw [hone'] at h1
  have hys:ys[j]?=some (ys[j]'(by omega)):=List.getElem?_eq_getElem (by omega)
  refine ⟨_,_,?_,hys,h1.trans hys⟩
  rw [← Go.Deep.add_add,hcell,hv]
theorem z2A {e:TypeId} {d:DataW H} {n:Nat}:∀ {ds:List (DataW H)},d∈ds→n∈d.weights P e→n∈DataW.weightsAll P e ds
 | d0::ds,hd,hn=>by
  simp only [DataW.weightsAll,List.mem_append]
  rcases List.mem_cons.1 hd with rfl | hd
  ·exact .inl hn
  ·exact .inr (z2A hd hn)
end
theorem Bys.m {W:World} {v:Value} {bs:List UInt8} (h:Bys W v bs):BysM W (fun _=>False) v bs:=by
 obtain ⟨A,c,e,h1,h2,h3⟩:=h
 exact ⟨A,c,e,h1,Rd.m h2 (fun _ _ _ _ e=>e),h3⟩
theorem z9v {α:Type} {r:α→List Int × List UInt8} {W:World} {M:Bl} (f:Nat→α) (g:Nat→Value):∀ L:List Nat,(∀ i∈L,BysM W M (g i) (r (f i)).2)→DatM W M ((L.map f).map r) (L.map g)
 | [],_=>trivial
 | i::L,h=>⟨h i (List.mem_cons_self ..),z9v f g L (fun j hj=>h j (List.mem_cons_of_mem _ hj))⟩
theorem zcP {α:Type} (r:α→List Int × List UInt8) (m:Nat) (hm:∀ x,(r x).1.length=m) {W:World} {M:Bl} {b off n c:Nat} (f:Nat→α) (g:Nat→Value)
  (h:∀ i,i<n→(∀ j u,(recC (r (f i)) (g i))[j]?=some u→W.cell? ⟨b,off+i * (m+1)+j,none⟩=some u)∧BysM W M (g i) (r (f i)).2) (hM:¬ M b) (hnc:n≤c):z08 r W M (.slice (some ⟨b,off,none⟩) n c) ((List.range n).map f):=by
 refine ⟨some ⟨b,off,none⟩,c,(List.range n).map g,by simp,by simpa using hnc,z9v f g _ (fun i hi=>(h i (by simpa using hi)).2),fun _=>⟨b,off,rfl,hM,fun j u hu=>?_⟩,fun e=>by cases e⟩
 have hmm:∀ x∈((List.range n).map f).map r,x.1.length=m:=fun x hx=>by
  obtain ⟨y,_,rfl⟩:=List.mem_map.1 hx
  exact hm y
 have hlen:=z5b (((List.range n).map f).map r) ((List.range n).map g) hmm (by simp)
 have hj:=(List.getElem?_eq_some_iff.1 hu).1
 rw [hlen] at hj
 simp only [List.length_map,List.length_range] at hj
 have hi:j / (m+1)<n:=Nat.div_lt_of_lt_mul (by rw [Nat.mul_comm];exact hj)
 have hk:j % (m+1)<m+1:=Nat.mod_lt _ (by omega)
 have hg:=z7b (((List.range n).map f).map r) ((List.range n).map g) (j / (m+1)) (r (f (j / (m+1)))) (g (j / (m+1))) (j % (m+1)) hmm (by simp [hi]) (by simp [hi]) hk
 have hj2:j / (m+1) * (m+1)+j % (m+1)=j:=by rw [Nat.mul_comm];exact Nat.div_add_mod j (m+1)
 rw [hj2] at hg
 have:=(h _ hi).1 _ u (hg▸hu)
 rw [Nat.add_assoc,hj2] at this
 exact this
section
variable {H:Type} {enc:TypeId × Value→H}
theorem z4m {W:World} {fuel:Nat} {v:Value} {y:DataW H × List MemPlace} (h:DataW.trod enc Tryz.prog W 0 (fun _=>true) true fuel 22 [v]=some y) (hz:∀ n∈y.1.weights Tryz.prog 22,n≤reachBytes) :
  ∃ bs,Bys W v bs:=by
 rcases open_ints (k:=.u8) Tryz.underlying22 Tryz.underlying5 (by kernel_rfl) h with ⟨hcs,_⟩ | ⟨a,len,cap,zs,hcs,_,hl,hm,hlen,hx,hcell,hw⟩
 ·injection hcs with hcs
  subst hcs
  exact ⟨[],none,0,rfl,by simp,Rd.nil _ _,fun _=>rfl⟩
 ·injection hcs with hcs
  subst hcs
  have hcap:zs.length=cap:=by simpa using hlen
  have hb:cap≤140737488351232:=by
   have:=hz _ (by
    rw [hx]
    simp only [DataW.weights,Tryz.underlying22]
    exact List.mem_cons_self ..)
   simp only [Go.ChangeShapes.lits,List.length_map,List.length_take,List.length_drop,hcap] at this
   have e1:Tryz.prog.bytesOf 5=1:=by kernel_rfl
   rw [e1] at this
   unfold reachBytes at this
   omega
  refine ⟨(zs.take len).map (fun z=>UInt8.ofNat z.toNat),some a,cap,by simp;omega,by simp;omega,fun hne=>?_,fun e=>by cases e⟩
  have h0:0<len:=by
   rcases Nat.eq_zero_or_pos len with h0 | h0
   ·subst h0;simp [bc] at hne
   ·exact h0
  obtain ⟨b,off,spot⟩:=a
  have hs:spot=none:=by
   have:=hcell 0 (by omega)
   simpa [Addr.add] using World.cell?_spot this
  subst hs
  refine ⟨b,off,rfl,fun j u hu=>?_⟩
  have hj:j<len:=by
   have:=(List.getElem?_eq_some_iff.1 hu).1
   simp [bc] at this;omega
  have:=hcell j (by omega)
  rw [z2V] at this
  rw [this,← hu]
  have hwz:=hw (zs[j]'(by omega)) (List.getElem_mem _)
  have hr:0≤zs[j]'(by omega)∧zs[j]'(by omega)≤255:=by simpa [Lit.wf,IntKind.min,IntKind.max,IntKind.signed,IntKind.bits] using hwz
  simp [bc,hj,List.getD,show j<zs.length by omega]
  omega
theorem zdz {W:World} {fuel:Nat} {v:Value} {y:DataW H × List MemPlace} (h:DataW.trod enc Tryz.prog W 0 (fun _=>true) true fuel 29 [v]=some y) (hz:∀ n∈y.1.weights Tryz.prog 29,n≤reachBytes) :
  ∃ l:List Ev,z08 evR W (fun _=>False) v l:=by
 rcases z3m Tryz.underlying29 Tryz.underlying41 (by kernel_rfl) (by kernel_rfl) h with ⟨hcs,_⟩ | ⟨a,len,cap,m,D,Pl,hcs,hb,hl,hm,hmm,hx,hi⟩
 ·injection hcs with hcs
  subst hcs
  exact ⟨[],z08.none _ _ _⟩
 ·injection hcs with hcs
  subst hcs
  have hm':m=cap:=by simpa using hmm
  subst hm'
  rw [hx] at hz
  have each:∀ i,i<len→∃ (x:Ev) (dv:Value),(∀ j u,(recC (evR x) dv)[j]?=some u→W.cell? (a.add (i * 7+j))=some u)∧BysM W (fun _=>False) dv x.data:=by
   intro i hin
   obtain ⟨ys,k,hD,_,hyl,hf⟩:=hi i (by omega)
   obtain ⟨v0,y0,c0,g0,t0⟩:=hf 0 _ rfl
   obtain ⟨v1,y1,c1,g1,t1⟩:=hf 1 _ rfl
   obtain ⟨v2,y2,c2,g2,t2⟩:=hf 2 _ rfl
   obtain ⟨v3,y3,c3,g3,t3⟩:=hf 3 _ rfl
   obtain ⟨v4,y4,c4,g4,t4⟩:=hf 4 _ rfl
   obtain ⟨v5,y5,c5,g5,t5⟩:=hf 5 _ rfl
   obtain ⟨v6,y6,c6,g6,t6⟩:=hf 6 _ rfl
   obtain ⟨z0,e0,_,_⟩:=DataW.trod_int Tryz.underlying3 t0
   injection e0 with e0
   obtain ⟨z1,e1,_,_⟩:=DataW.trod_int Tryz.underlying3 t1
   injection e1 with e1
   obtain ⟨z2,e2,_,_⟩:=DataW.trod_int Tryz.underlying3 t2
   injection e2 with e2
   obtain ⟨z3,e3,_,_⟩:=DataW.trod_int Tryz.underlying3 t3
   injection e3 with e3
   obtain ⟨z4,e4,_,_⟩:=DataW.trod_int Tryz.underlying3 t4
   injection e4 with e4
   obtain ⟨z5,e5,_,_⟩:=DataW.trod_int Tryz.underlying3 t5
   injection e5 with e5
   subst e0 e1 e2 e3 e4 e5
   have hzD:∀ q∈(D i).weights Tryz.prog 41,q≤reachBytes:=fun q hq=>hz q (by
    simp only [DataW.weights,Tryz.underlying29]
    exact List.mem_cons_of_mem _ (List.mem_append_left _ (z2A (d:=D i) (List.mem_map.2 ⟨i,by simpa using hin,rfl⟩) hq)))
   rw [hD] at hzD
   simp only [DataW.weights,Tryz.underlying41] at hzD
   obtain ⟨bs,hbs⟩:=z4m t6 (fun q hq=>hzD q (DataW.weights_mem_each (j:=6) (t:=22) (d:=y6.1) rfl (by simp [g6]) q hq))
   refine ⟨⟨z0,z1,z2,z3,z4,z5,bs⟩,v6,fun j u hu=>?_,hbs.m⟩
   have hj:=(List.getElem?_eq_some_iff.1 hu).1
   simp [recC,evR] at hj hu
   rcases j with _ | _ | _ | _ | _ | _ | _ | j
   ·simp at hu;subst hu;exact c0
   ·simp at hu;subst hu;exact c1
   ·simp at hu;subst hu;exact c2
   ·simp at hu;subst hu;exact c3
   ·simp at hu;subst hu;exact c4
   ·simp at hu;subst hu;exact c5
   ·simp at hu;subst hu;exact c6
   ·omega
  let f:Nat→Ev:=fun i=>if h:i<len then Classical.choose (each i h) else ⟨0,0,0,0,0,0,[]⟩
  let g:Nat→Value:=fun i=>if h:i<len then Classical.choose (Classical.choose_spec (each i h)) else .int .i64 0
  have hf:∀ i,i<len→(∀ j u,(recC (evR (f i)) (g i))[j]?=some u→W.cell? (a.add (i * 7+j))=some u)∧BysM W (fun _=>False) (g i) (f i).data:=by
   intro i hin
   have:=Classical.choose_spec (Classical.choose_spec (each i hin))
   simp only [f,g,dif_pos hin]
   exact this
  refine ⟨(List.range len).map f,?_⟩
  by_cases h0:len=0
  ·subst h0
   exact ⟨some a,m,[],rfl,by simp,trivial,RdM.nil _ _ _,fun e=>by cases e⟩
  ·obtain ⟨b,off,spot⟩:=a
   have hs:spot=none:=by
    have:=(hf 0 (by omega)).1 0 _ rfl
    simpa [Addr.add] using World.cell?_spot this
   subst hs
   refine zcP evR 6 z14 f g (fun i hin=>⟨fun j u hu=>?_,(hf i hin).2⟩) (fun e=>e) hl
   have:=(hf i hin).1 j u hu
   rw [z2V] at this
   rw [Nat.add_assoc]
   exact this
theorem zbo {W:World} {fuel:Nat} {v:Value} {y:DataW H × List MemPlace} (h:DataW.trod enc Tryz.prog W 0 (fun _=>true) true fuel 33 [v]=some y) (hz:∀ n∈y.1.weights Tryz.prog 33,n≤reachBytes) :
  ∃ l:List Dec,z08 decR W (fun _=>False) v l:=by
 rcases z3m Tryz.underlying33 Tryz.underlying39 (by kernel_rfl) (by kernel_rfl) h with ⟨hcs,_⟩ | ⟨a,len,cap,m,D,Pl,hcs,hb,hl,hm,hmm,hx,hi⟩
 ·injection hcs with hcs
  subst hcs
  exact ⟨[],z08.none _ _ _⟩
 ·injection hcs with hcs
  subst hcs
  have hm':m=cap:=by simpa using hmm
  subst hm'
  rw [hx] at hz
  have each:∀ i,i<len→∃ (x:Dec) (dv:Value),(∀ j u,(recC (decR x) dv)[j]?=some u→W.cell? (a.add (i * 5+j))=some u)∧BysM W (fun _=>False) dv x.data:=by
   intro i hin
   obtain ⟨ys,k,hD,_,hyl,hf⟩:=hi i (by omega)
   obtain ⟨v0,y0,c0,g0,t0⟩:=hf 0 _ rfl
   obtain ⟨v1,y1,c1,g1,t1⟩:=hf 1 _ rfl
   obtain ⟨v2,y2,c2,g2,t2⟩:=hf 2 _ rfl
   obtain ⟨v3,y3,c3,g3,t3⟩:=hf 3 _ rfl
   obtain ⟨v4,y4,c4,g4,t4⟩:=hf 4 _ rfl
   obtain ⟨z0,e0,_,_⟩:=DataW.trod_int Tryz.underlying3 t0
   injection e0 with e0
   obtain ⟨z1,e1,_,_⟩:=DataW.trod_int Tryz.underlying3 t1
   injection e1 with e1
   obtain ⟨z2,e2,_,_⟩:=DataW.trod_int Tryz.underlying3 t2
   injection e2 with e2
   obtain ⟨z3,e3,_,_⟩:=DataW.trod_int Tryz.underlying3 t3
   injection e3 with e3
   subst e0 e1 e2 e3
   have hzD:∀ q∈(D i).weights Tryz.prog 39,q≤reachBytes:=fun q hq=>hz q (by
    simp only [DataW.weights,Tryz.underlying33]
    exact List.mem_cons_of_mem _ (List.mem_append_left _ (z2A (d:=D i) (List.mem_map.2 ⟨i,by simpa using hin,rfl⟩) hq)))
   rw [hD] at hzD
   simp only [DataW.weights,Tryz.underlying39] at hzD
   obtain ⟨bs,hbs⟩:=z4m t4 (fun q hq=>hzD q (DataW.weights_mem_each (j:=4) (t:=22) (d:=y4.1) rfl (by simp [g4]) q hq))
   refine ⟨⟨z0,z1,z2,z3,bs⟩,v4,fun j u hu=>?_,hbs.m⟩
   have hj:=(List.getElem?_eq_some_iff.1 hu).1
   simp [recC,decR] at hj hu
   rcases j with _ | _ | _ | _ | _ | j
   ·simp at hu;subst hu;exact c0
   ·simp at hu;subst hu;exact c1
   ·simp at hu;subst hu;exact c2
   ·simp at hu;subst hu;exact c3
   ·simp at hu;subst hu;exact c4
   ·omega
  let f:Nat→Dec:=fun i=>if h:i<len then Classical.choose (each i h) else ⟨0,0,0,0,[]⟩
  let g:Nat→Value:=fun i=>if h:i<len then Classical.choose (Classical.choose_spec (each i h)) else .int .i64 0
  have hf:∀ i,i<len→(∀ j u,(recC (decR (f i)) (g i))[j]?=some u→W.cell? (a.add (i * 5+j))=some u)∧BysM W (fun _=>False) (g i) (f i).data:=by
   intro i hin
   have:=Classical.choose_spec (Classical.choose_spec (each i hin))
   simp only [f,g,dif_pos hin]
   exact this
  refine ⟨(List.range len).map f,?_⟩
  by_cases h0:len=0
  ·subst h0
   exact ⟨some a,m,[],rfl,by simp,trivial,RdM.nil _ _ _,fun e=>by cases e⟩
  ·obtain ⟨b,off,spot⟩:=a
   have hs:spot=none:=by
    have:=(hf 0 (by omega)).1 0 _ rfl
    simpa [Addr.add] using World.cell?_spot this
   subst hs
   refine zcP decR 4 z9x f g (fun i hin=>⟨fun j u hu=>?_,(hf i hin).2⟩) (fun e=>e) hl
   have:=(hf i hin).1 j u hu
   rw [z2V] at this
   rw [Nat.add_assoc]
   exact this
end
end Go.Proofs.YtniknicnnaiilaaGreat
end
