/- Lemmas of the engine. -/
import Derived.Test.YtniknicnnaiilaaGreatX10
import Derived.Test.YtniknicnnaiilaaGreatX22
section
namespace Go.Proofs.YtniknicnnaiilaaGreat
set_option maxRecDepth 100000
open Go.RowKit Go.Ext Go.BigFrame Go.Maps Go.MapKept
attribute [local go_sem] Ext.cell Ext.frozen Ext.lt Ext.le s1 s2 s3 s4 s5 s6 t1 t2 t3 t4 t5 t6
attribute [local go_sem ↓] Go.wp_at_zero Go.wp_at_succ
theorem z59 (d:Bool) (list:Int) (E:ES) (t:Task) (r:List Task) (hE:EOk E) (h:rowOf (z2L E d) list=t::r):rowOf (z2L (popE E d list) d) list=r:=by
 have hp:popR (z2L E d) list=setR (z2L E d) list r:=by unfold popR;rw [h]
 have hr:z2L (popE E d list) d=popR (z2L E d) list:=by cases d<;>rfl
 rw [hr,hp]
 unfold setR rowOf
 cases r with
 | nil =>
  have hn:((z2L E d).map (·.1)).Nodup:=by
   cases d
   ·exact hE.a.nodup
   ·exact hE.d.nodup
  simp [z1G hn]
 | cons a b=>simp [z0g]
theorem z5s {E E':ES} {d:Bool} {t:Task} {a:Ans} (h:z2b E d t=some (a,E')):a.events=[]:=by
 unfold z2b at h
 split at h
 ·cases h
 ·split at h
  ·split at h
   ·injection h with h
    injection h with h _
    rw [← h]
    rfl
   ·cases h
  ·cases h
theorem zcH {d:Bool} {list:Int} {E:ES} {t:Task} {r:List Task} (h:z1y E t=false):z1v d list E (t::r)=z1v d list (popE E d list) r:=by rw [z1v,if_neg (by rw [h];exact Bool.false_ne_true)]
theorem zcI {d:Bool} {list:Int} {E:ES} {t:Task} {r:List Task} (h:z1y E t=true) (hg:z2b E d t=none):z1v d list E (t::r)=(ans0,E):=by rw [z1v,if_pos h,hg]
theorem zcJ {d:Bool} {list:Int} {E E':ES} {t:Task} {r:List Task} {a:Ans} (h:z1y E t=true) (hg:z2b E d t=some (a,E')):z1v d list E (t::r)=(a,popE E' d list):=by rw [z1v,if_pos h,hg]
set_option maxHeartbeats 8000000 in
theorem zgL (PUT:z0e) (k:Nat) (E:ES) (c:Call) (d l:Value) (M S:Bl) (w:World) (h:EngR w M S k E) (hE:EOk E) (hdue:E.due.length≤998000) (hc:z0P w M c d l) (hkind:c.kind=7) :
  Calls Tryz.prog 62 #[.pointer (some ⟨k,0,none⟩),z0E c d l] w (z4D M S k (z3G E true c.list).1 (z3G E true c.list).2 w):=by
 obtain ⟨Ad,cd,rfl⟩:=hc.1.shape
 obtain ⟨Al,cl,rfl,_⟩:=hc.2.shape
 have HENG:=hid h
 have HLT:=hid h.lt
 have HC:=hid hc
 have HE:=hid hE
 have HDUE:=hid hdue
 have hks:k<w.heap.size:=h.lt.1 k (h.lt.2.1 k h.lt.2.2)
 clear hc hE hdue
 obtain ⟨kd,ka,md,ma,mr,kh,hv,hP⟩:=h
 obtain ⟨e0,e1,e2,e3,e4,e5,e6,hkl⟩:=hP.cells
 clear hP
 obtain ⟨R,hR⟩:∃ R,z3G E true c.list=R:=⟨_,rfl⟩
 rw [hR]
 have HR:=hid (show z1v true c.list E (rowOf (z2L E true) c.list)=R from hR)
 clear hR
 rcases c with ⟨ck,cf,cli,cn,⟨tf,tr,te,tt⟩,cdat,cls⟩
 simp only at hkind
 subst hkind
 have HGIVE:=hid (fun k' E' t M' S' W h hE hdue hc hw hta=>z7W PUT k' E' ⟨7,cf,cli,cn,⟨tf,tr,te,tt⟩,cdat,cls⟩ (.slice Ad cdat.length cd) (.slice Al cls.length cl) t M' S' W h hE hdue hc hw hta)
 simp only [z0E,z1U] at *
 generalize cdat.length=dl at *
 generalize cls.length=ll at *
 go_enter Tryz.func62,Tryz.ntmps62
 go_wp2_with fail
 obtain ⟨w1,hw1,g1,hb0,hb1⟩:=z4Q w (.cells #[.int .i64 7,.int .i64 cf,.int .i64 cli,.int .i64 cn,.int .i64 tf,.int .i64 tr,.int .i64 te,.int .i64 tt,.slice Ad dl cd,.slice Al ll cl] 35) (.cells #[.int .i64 0,.int .i64 0,.int .i64 0,.bool false,.int .i64 0,.int .i64 0,.int .i64 0,.int .i64 0,.slice none 0 0,.slice none 0 0] 31)
 rw [hw1]
 clear hw1
 have HM1:=hid (HENG.o.more g1 (Nat.le_succ _) (block_lt hb1))
 have G1:=hid g1
 have HB0:=hid hb0
 have HB1:=hid hb1
 have hcell:w1.cell? ⟨k,0,none⟩=some (.pointer (some ⟨kd,0,none⟩)):=(g1.cell (p:=⟨k,0,none⟩) hkl).trans e0
 have HCELL:=hid hcell
 clear hcell g1 hb0 hb1 e0 e1 e2 e3 e4 e5 e6
 go_loopg [5] (rowOf (z2L E true) cli).length (fun g rv wr=>∃ (Ei:ES) (Mi Si:Bl),rv=.pointer (some ⟨kd,0,none⟩)∧EngR wr Mi Si k Ei∧wr.cell? ⟨k,0,none⟩=some (.pointer (some ⟨kd,0,none⟩))∧EOk Ei∧Ei.due.length≤998000∧z1v true cli Ei (rowOf (z2L Ei true) cli)=R∧g=(rowOf (z2L Ei true) cli).length∧z0j w1 (fun b=>M b∨b=w.heap.size+1) S wr Mi Si)
 case atStart=>exact ⟨E,_,S,rfl,HM1.o,HCELL.o,HE.o,HDUE.o,HR.o,rfl,z0j.refl _ _ _⟩
 case round =>
  obtain ⟨Ei,Mi,Si,rfl,heng,hcell,hEi,hdi,hR,rfl,hal⟩:=hrel
  have HENGI:=hid heng
  have HAL:=hid hal
  have HEI:=hid hEi
  have HDI:=hid hdi
  have HPR:=hid hR
  have nS:∀ b,w.heap.size≤b→¬ S b:=fun b hb e=>by have:=HLT.o.1 b (HLT.o.2.1 b e);omega
  have q0:=(hal.mod.block w.heap.size (block_lt HB0.o) (nS _ (Nat.le_refl _))).trans HB0.o
  have q1:=(hal.mod.block (w.heap.size+1) (block_lt HB1.o) (nS _ (Nat.le_succ _))).trans HB1.o
  have Q0:=hid q0
  have Q1:=hid q1
  obtain ⟨a0,a1,a2,a3,a4,a5,a6,a7,a8,a9⟩:=z04 q0
  have l0:=block_lt q0
  have l1:=block_lt q1
  obtain ⟨kd',ka',md',ma',mr',kh',hv',hPi⟩:=heng
  have hkk:kd'=kd:=by
   have:=hPi.cells.1
   rw [hcell] at this
   injection this with this
   injection this with this
   injection this with this
   injection this with this _
   exact this.symm
  subst hkk
  have HPI:=hid hPi
  obtain ⟨e0,e1,e2,e3,e4,e5,e6,hkl'⟩:=hPi.cells
  clear hal hEi hdi hR hPi hcell q0 q1
  cases hrow:rowOf (z2L Ei true) cli with
  | nil =>
   have HPEEK:=hid (fun W (g:Gr wr W)=>(show Calls Tryz.prog 101 #[.pointer (some ⟨kd',0,none⟩),.int .i64 cli] W (RetE (.tuple #[.agg #[.int .i64 0,.int .i64 0,.int .i64 0,.int .i64 0],.bool false]) W) from by
    have:=z3T kd' md' Ei.dec cli Mi W (HPI.o.d.gr g)
    rw [show rowOf Ei.dec cli=[] from hrow] at this
    exact this))
   go_wp2_with (go_at_call 101;refine (HPEEK.o _ (Gr.refl _)).mono ?_;rintro en _ ⟨rfl,y1,rfl⟩)
   have G4:=hid (y1.gr.alloc (.cells #[.int .i64 0,.int .i64 0,.int .i64 0,.int .i64 0] 84))
   refine (z43 kd' md' Ei.dec cli Mi _ (HPI.o.d.gr G4.o) (HPI.o.SM _ HPI.o.smd) (fun b e=>Nat.lt_of_lt_of_le (HENGI.o.lt.1 b e) G4.o.size) (Nat.le_trans (z2h HEI.o.d cli) (by omega))).mono ?_
   rw [show rowOf Ei.dec cli=[] from hrow]
   simp only [List.headD_nil,List.isEmpty_nil,Bool.not_true,tkV,tk0]
   rintro en w4 ⟨rfl,hl4,hm4⟩
   have HL4:=hid hl4
   have M4:=hid hm4
   have HA4:=hid (show z0j w1 (fun b=>M b∨b=w.heap.size+1) S w4 Mi Si from HAL.o.trans ⟨(G4.o.mod Si).trans hm4 (fun b _ e=>e▸HPI.o.smd),fun _ _ e=>e,fun _ _ e=>e,fun _ e=>e⟩)
   have q4:=(HA4.o.mod.block w.heap.size (block_lt HB0.o) (nS _ (Nat.le_refl _))).trans HB0.o
   have r4:=(HA4.o.mod.block (w.heap.size+1) (block_lt HB1.o) (nS _ (Nat.le_succ _))).trans HB1.o
   obtain ⟨a0,a1,a2,a3,a4,a5,a6,a7,a8,a9⟩:=z04 q4
   obtain ⟨b0,b1,b2,b3,b4,b5,b6,b7,b8,b9⟩:=z04 r4
   have l4:=block_lt q4
   have l5:=block_lt r4
   obtain ⟨f0,f1,f2,f3,f4,f5,f6,f7,f8,f9⟩:=FZ r4
   clear q4 r4
   have HF:=hid (show ∀ w3,Mod (fun x=>x=w.heap.size+1) w4 w3→z4D M S k R.1 R.2 w (.returned (ansV ans0 (.slice none 0 0) (.slice none 0 0))) w3 from fun w3 m=>by
    have hR0:R=(ans0,Ei):=by rw [← HPR.o,hrow];rfl
    have hp:popR Ei.dec cli=Ei.dec:=by unfold popR;rw [show rowOf Ei.dec cli=[] from hrow]
    have h5:=(HPI.o.gr G4.o).setDec M4.o (hp▸HL4.o)
    have h6:EngR w4 Mi Si k Ei:=⟨_,_,_,_,_,_,_,h5⟩
    rw [hR0]
    have hd:BysM w4 Mi (.slice none 0 0) ans0.data:=BysM.none _ _
    have he:z08 evR w4 Mi (.slice none 0 0) ans0.events:=z08.none _ _ _
    have hfin:=z0F (fun b e=>HLT.o.1 b (HLT.o.2.1 b e)) G1.o (Nat.le_succ w.heap.size) (block_lt HB1.o) h6 HA4.o hd he m
    exact ⟨.slice none 0 0,.slice none 0 0,Mi,Si,rfl,hfin⟩)
   go_wp2_with fail
   refine bodyPost_ret (v:=ansV ans0 (.slice none 0 0) (.slice none 0 0)) (by simp [results,Tryz.results62,go_sem,ansV,ansC,ans0,tok0,b0,b1,b2,b3,b4,b5,b6,b7,b8,b9,l5]) rfl ?_
   refine HF.o _ ?_
   exact (z1f w4 (w.heap.size+1) _ _ _ _ _ _ _ _ _ _).gr ((Gr.refl _).alloc _)
  | cons t r =>
   obtain ⟨t1,t2,t3,t4⟩:=t
   have HROW:=hid hrow
   have HPEEK:=hid (fun W (g:Gr wr W)=>(show Calls Tryz.prog 101 #[.pointer (some ⟨kd',0,none⟩),.int .i64 cli] W (RetE (.tuple #[.agg #[.int .i64 t1,.int .i64 t2,.int .i64 t3,.int .i64 t4],.bool true]) W) from by
    have:=z3T kd' md' Ei.dec cli Mi W (HPI.o.d.gr g)
    rw [show rowOf Ei.dec cli=⟨t1,t2,t3,t4⟩::r from hrow] at this
    exact this))
   have HW:=hid (fun W (g:Gr wr W)=>z6x k Ei ⟨t1,t2,t3,t4⟩ Mi Si W (HENGI.o.gr g))
   simp only [tkV] at HW
   go_upto_region 5 with (go_at_call 101;refine (HPEEK.o _ (Gr.refl _)).mono ?_;rintro en _ ⟨rfl,y1,rfl⟩)
   have HB6:=hid (heap_alloc_new y1.val (.cells #[.int .i64 t1,.int .i64 t2,.int .i64 t3,.int .i64 t4] 84))
   have G5:=hid (y1.gr.alloc (.cells #[.int .i64 t1,.int .i64 t2,.int .i64 t3,.int .i64 t4] 84))
   obtain ⟨w5,hw5⟩:∃ w5,y1.val.alloc (.cells #[.int .i64 t1,.int .i64 t2,.int .i64 t3,.int .i64 t4] 84)=w5:=⟨_,rfl⟩
   rw [hw5] at HB6 G5 ⊢
   clear hw5
   generalize y1.val.heap.size=n6 at *
   clear y1
   obtain ⟨c0,c1,c2,c3⟩:=z0C HB6.o
   have l6:=block_lt HB6.o
   clear a0 a1 a2 a3 a4 a5 a6 a7 a8 a9 e0 e1 e2 e3 e4 e5 e6
   obtain ⟨a0,a1,a2,a3,a4,a5,a6,a7,a8,a9⟩:=z04 ((G5.o.block _ l0).trans Q0.o)
   have l0':=Nat.lt_of_lt_of_le l0 G5.o.size
   have hk5:=(G5.o.block k hkl').trans HPI.o.cell
   have HK5:=hid hk5
   have hkl5:=block_lt hk5
   clear l0 l1 hkl' hk5
   cases hwant:z1y Ei ⟨t1,t2,t3,t4⟩ with
   | false =>
    rw [hwant] at HW
    go_wp2_with (go_at_call 102;refine (HW.o _ G5.o).mono ?_;rintro en _ ⟨rfl,y2,rfl⟩)
    have G4:=hid (G5.o.trans y2.gr)
    refine (z43 kd' md' Ei.dec cli Mi _ (HPI.o.d.gr G4.o) (HPI.o.SM _ HPI.o.smd) (fun b e=>Nat.lt_of_lt_of_le (HENGI.o.lt.1 b e) G4.o.size) (Nat.le_trans (z2h HEI.o.d cli) (by omega))).mono ?_
    rw [show rowOf Ei.dec cli=⟨t1,t2,t3,t4⟩::r from HROW.o]
    simp only [List.headD_cons,List.isEmpty_cons,Bool.not_false,tkV]
    rintro en w4 ⟨rfl,hl4,hm4⟩
    have HL4:=hid hl4
    have M4:=hid hm4
    have HA4:=hid (show z0j w1 (fun b=>M b∨b=w.heap.size+1) S w4 Mi Si from HAL.o.trans ⟨(G4.o.mod Si).trans hm4 (fun b _ e=>e▸HPI.o.smd),fun _ _ e=>e,fun _ _ e=>e,fun _ e=>e⟩)
    go_wp2_with fail
    go_roundg r.length
    case rel =>
     have h5:EngP (w4.alloc (.cells #[.int .i64 t1,.int .i64 t2,.int .i64 t3,.int .i64 t4] 84)) Mi Si k (popE Ei true cli) kd' ka' md' ma' mr' kh' hv':=((HPI.o.gr G4.o).setDec M4.o HL4.o).gr ((Gr.refl _).alloc _)
     exact ⟨popE Ei true cli,Mi,Si,rfl,⟨_,_,_,_,_,_,_,h5⟩,h5.cells.1,(z4U (E:=Ei) (d:=true) (list:=cli)).ok HEI.o,HDI.o,by rw [z59 true cli Ei _ r HEI.o HROW.o,← zcH hwant,← HROW.o];exact HPR.o,by rw [z59 true cli Ei _ r HEI.o HROW.o],HA4.o.gr ((Gr.refl _).alloc _)⟩
    case measure=>rw [HROW.o];simp
   | true =>
    rw [hwant] at HW
    go_wp2_with (go_at_call 102;refine (HW.o _ G5.o).mono ?_;rintro en _ ⟨rfl,y2,rfl⟩)
    have G6:=hid (G5.o.trans y2.gr)
    refine (z3U k Ei Mi Si _ (HENGI.o.gr G6.o) (Nat.le_trans HDI.o (by omega))).mono ?_
    rintro en w7 ⟨M7,S7,k7,rfl,g7,heng7,hMM,hMo,hS7⟩
    have HT:=hid (And.intro hMM (And.intro hMo hS7))
    have G7:=hid g7
    have HE7:=hid heng7
    have G57:=hid (y2.gr.trans g7)
    have G07:=hid (G6.o.trans g7)
    obtain ⟨a0,a1,a2,a3,a4,a5,a6,a7,a8,a9⟩:=z04 ((G07.o.block _ (block_lt Q0.o)).trans Q0.o)
    obtain ⟨c0,c1,c2,c3⟩:=z0C ((G57.o.block _ l6).trans HB6.o)
    have l7:=Nat.lt_of_lt_of_le l0' G57.o.size
    have l8:=Nat.lt_of_lt_of_le l6 G57.o.size
    clear hMM hMo hS7 g7 heng7
    go_wp2_with fail
    have hup:Up M w M7 w7:=(((⟨G1.o.mod M,fun b hb e=>by
     rcases e with e | e
     ·exact e
     ·omega⟩:Up M w (fun b=>M b∨b=w.heap.size+1) w1).trans (HAL.o.up (fun b e=>.inl (HLT.o.2.1 b e)))).gr G6.o).trans ⟨G7.o.mod Mi,HT.o.2.1⟩
    refine (HGIVE.o k7 Ei ⟨t1,t2,t3,t4⟩ M7 S7 w7 HE7.o HEI.o HDI.o (HC.o.up hup) hwant (fun e=>by cases e)).mono ?_
    clear hup
    intro en w8 hg
    obtain ⟨g,hgv⟩:∃ g,z2b Ei true ⟨t1,t2,t3,t4⟩=g:=⟨_,rfl⟩
    have hg':RetG M7 S7 k7 g w7 en w8:=hgv▸hg
    have HGV:=hid hgv
    clear hgv hg
    cases g with
    | none =>
     obtain ⟨a,A,n,c',rfl,m8⟩:=hg'
     have G8:=hid (z2c (w:=y2.val) G7.o m8 HT.o.2.2)
     have HA4:=hid (HAL.o.gr (G6.o.trans G8.o))
     clear m8 a0 a1 a2 a3 a4 a5 a6 a7 a8 a9
     have r4:=(HA4.o.mod.block (w.heap.size+1) (block_lt HB1.o) (nS _ (Nat.le_succ _))).trans HB1.o
     obtain ⟨b0,b1,b2,b3,b4,b5,b6,b7,b8,b9⟩:=z04 r4
     have l5:=block_lt r4
     obtain ⟨f0,f1,f2,f3,f4,f5,f6,f7,f8,f9⟩:=FZ r4
     clear r4
     have HF:=hid (show ∀ w3,Mod (fun x=>x=w.heap.size+1) w8 w3→z4D M S k R.1 R.2 w (.returned (ansV ans0 (.slice none 0 0) (.slice none 0 0))) w3 from fun w3 m=>by
      have hR0:R=(ans0,Ei):=by rw [← HPR.o,HROW.o,zcI hwant HGV.o]
      have h6:EngR w8 Mi Si k Ei:=HENGI.o.gr (G6.o.trans G8.o)
      rw [hR0]
      have hd:BysM w8 Mi (.slice none 0 0) ans0.data:=BysM.none _ _
      have he:z08 evR w8 Mi (.slice none 0 0) ans0.events:=z08.none _ _ _
      have hfin:=z0F (fun b e=>HLT.o.1 b (HLT.o.2.1 b e)) G1.o (Nat.le_succ w.heap.size) (block_lt HB1.o) h6 HA4.o hd he m
      exact ⟨.slice none 0 0,.slice none 0 0,Mi,Si,rfl,hfin⟩)
     simp only [ansV,ansC]
     go_wp2_with fail
     refine bodyPost_ret (v:=ansV ans0 (.slice none 0 0) (.slice none 0 0)) (by simp [results,Tryz.results62,go_sem,ansV,ansC,ans0,tok0,b0,b1,b2,b3,b4,b5,b6,b7,b8,b9,l5]) rfl ?_
     refine HF.o _ ?_
     exact (z1f w8 (w.heap.size+1) _ _ _ _ _ _ _ _ _ _).gr ((Gr.refl _).alloc _)
    | some x =>
     obtain ⟨a,E'⟩:=x
     obtain ⟨dv,M8,S8,rfl,heng8,hal8,hdv⟩:=hg'
     have HAL8:=hid hal8
     have HDV:=hid hdv
     have HE8:=hid heng8
     obtain ⟨kd8,ka8,md8,ma8,mr8,kh8,hv8,hP8⟩:=heng8
     have HP8:=hid hP8
     have hk7:k7<w8.heap.size:=hP8.cells.2.2.2.2.2.2.2
     have hS7k:¬ S7 k:=fun e=>by have:=HT.o.2.2 k e;have:=y2.gr.size;omega
     have hk8:=(hal8.mod.block k (Nat.lt_of_lt_of_le hkl5 G57.o.size) hS7k).trans ((G57.o.block k hkl5).trans HK5.o)
     have HK8:=hid hk8
     have hkl8:=block_lt hk8
     have q8:=(hal8.mod.block w.heap.size (by omega) (fun e=>by have:=HT.o.2.2 _ e;have:=y2.gr.size;omega)).trans ((G07.o.block _ (block_lt Q0.o)).trans Q0.o)
     have Q8:=hid q8
     have l9:=block_lt q8
     obtain ⟨Adv,cdv,rfl⟩:=hdv.shape
     clear hal8 hdv hP8 hk8 q8
     have HR9:=hid (show (a,popE E' true cli)=R from by rw [← HPR.o,HROW.o,zcJ hwant HGV.o])
     rcases a with ⟨v0,v1,v2,v3,⟨v4,v5,v6,v7⟩,v8,v9⟩
     simp only [ansV,ansC]
     generalize hv8l:v8.length=v8l at *
     have HV8:=hid hv8l
     clear hv8l
     go_upto_region 10 with fail
     have HB9:=hid (heap_alloc_new w8 (.cells #[.int .i64 v0,.int .i64 v1,.int .i64 v2,.bool v3,.int .i64 v4,.int .i64 v5,.int .i64 v6,.int .i64 v7,.slice Adv v8l cdv,.slice none 0 0] 31))
     have G9:=hid ((Gr.refl w8).alloc (.cells #[.int .i64 v0,.int .i64 v1,.int .i64 v2,.bool v3,.int .i64 v4,.int .i64 v5,.int .i64 v6,.int .i64 v7,.slice Adv v8l cdv,.slice none 0 0] 31))
     obtain ⟨w9,hw9⟩:∃ w9,w8.alloc (.cells #[.int .i64 v0,.int .i64 v1,.int .i64 v2,.bool v3,.int .i64 v4,.int .i64 v5,.int .i64 v6,.int .i64 v7,.slice Adv v8l cdv,.slice none 0 0] 31)=w9:=⟨_,rfl⟩
     rw [hw9] at HB9 G9 ⊢
     clear hw9
     have hk7:k7<w9.heap.size:=Nat.lt_of_lt_of_le hk7 G9.o.size
     obtain ⟨g0,g1,g2,g3,g4,g5,g6,g7⟩:=(HP8.o.gr G9.o).cells
     have hk9:=(G9.o.block k hkl8).trans HK8.o
     have HK9:=hid hk9
     have hkl9:=block_lt hk9
     have z0:=z00 (j:=0) hk9
     have z1:=z00 (j:=1) hk9
     have z2:=z00 (j:=2) hk9
     have z3:=z00 (j:=3) hk9
     have z4:=z00 (j:=4) hk9
     have z5:=z00 (j:=5) hk9
     have z6:=z00 (j:=6) hk9
     obtain ⟨a0,a1,a2,a3,a4,a5,a6,a7,a8,a9⟩:=z04 ((G9.o.block _ l9).trans Q8.o)
     have l9':=Nat.lt_of_lt_of_le l9 G9.o.size
     obtain ⟨y0,y1,y2,y3,y4,y5,y6⟩:=z0p hk9
     clear hk9
     go_wp2_with fail
     clear y0 y1 y2 y3 y4 y5 y6
     obtain ⟨w10,hw10,m10,hc10⟩:=z4z (a':=.pointer (some ⟨kd8,0,none⟩)) (b':=.pointer (some ⟨ka8,0,none⟩)) (c':=.int .i64 E'.shard) (d':=.int .i64 E'.groups) (e':=.int .i64 E'.now) (f':=.map (some mr8)) (g':=.pointer (some ⟨kh8,0,none⟩)) HK9.o
     rw [hw10]
     clear hw10
     have hkM:M8 k:=HAL8.o.mm k (HT.o.1 k (HPI.o.SM k HPI.o.sk))
     have hkS:¬ S8 k:=fun e=>by
      have h1:=HAL8.o.s k (Nat.lt_of_lt_of_le hkl5 G57.o.size) e
      have h2:=HT.o.2.2 k h1
      have h3:=y2.gr.size
      omega
     have H10:=hid ((HP8.o.gr G9.o).move m10 hc10 hkM hkS)
     have HAL10:=hid (z3W HAL.o G6.o G7.o HT.o.1 HT.o.2.1 HT.o.2.2 (HAL8.o.gr G9.o) m10 HPI.o.sk)
     have hE8:EOk E':=(z5M HGV.o).ok HEI.o
     have HDV10:=hid (HDV.o.up ((Gr.up G9.o M8).trans (Mod.up m10 (fun _ _ e=>e▸hkM))))
     have p10:=(m10.block w8.heap.size (block_lt HB9.o) (by show ¬ w8.heap.size=k;omega)).trans HB9.o
     have P10:=hid p10
     clear p10 hc10 hkM hkS a0 a1 a2 a3 a4 a5 a6 a7 a8 a9 g0 g1 g2 g3 g4 g5 g6 g7
     refine (z43 kd8 md8 E'.dec cli M8 w10 H10.o.d (H10.o.SM _ H10.o.smd) H10.o.lt (Nat.le_trans (z2h hE8.d cli) (by omega))).mono ?_
     rintro en w4 ⟨rfl,hl4,hm4⟩
     have H11:=hid (H10.o.setDec hm4 hl4)
     have HA4:=hid (HAL10.o.trans ⟨hm4.mono (fun b _ e=>e▸H10.o.smd),fun _ _ e=>e,fun _ _ e=>e,fun _ e=>e⟩)
     have HDV4:=hid (HDV10.o.up (Mod.up hm4 (fun _ _ e=>e▸H10.o.SM _ H10.o.smd)))
     have mlt:md8<w8.heap.size:=HP8.o.lt _ (HP8.o.SM _ HP8.o.smd)
     have p4:=(hm4.block w8.heap.size (block_lt P10.o) (by show ¬ w8.heap.size=md8;omega)).trans P10.o
     obtain ⟨p0,p1,p2,p3,p4',p5,p6,p7,p8,p9⟩:=z04 p4
     have lp:=block_lt p4
     have r4:=(HA4.o.mod.block (w.heap.size+1) (block_lt HB1.o) (nS _ (Nat.le_succ _))).trans HB1.o
     obtain ⟨b0,b1,b2,b3,b4,b5,b6,b7,b8,b9⟩:=z04 r4
     have l5:=block_lt r4
     have q4:=(HA4.o.mod.block w.heap.size (block_lt HB0.o) (nS _ (Nat.le_refl _))).trans HB0.o
     obtain ⟨a0,a1,a2,a3,a4,a5,a6,a7,a8,a9⟩:=z04 q4
     have lq:=block_lt q4
     obtain ⟨f0,f1,f2,f3,f4,f5,f6,f7,f8,f9⟩:=FZ r4
     have HV9:=hid (z5s HGV.o)
     have HF:=hid (show ∀ w3,Mod (fun x=>x=w.heap.size+1) w4 w3→z4D M S k R.1 R.2 w (.returned (ansV ⟨v0,v1,v2,v3,⟨v4,v5,v6,v7⟩,v8,v9⟩ (.slice Adv v8l cdv) (.slice none 0 0))) w3 from fun w3 m=>by
      rw [← HR9.o]
      have he:z08 evR w4 M8 (.slice none 0 0) v9:=by
       rw [show v9=[] from HV9.o]
       exact z08.none _ _ _
      have hfin:=z0F (a:=⟨v0,v1,v2,v3,⟨v4,v5,v6,v7⟩,v8,v9⟩) (fun b e=>HLT.o.1 b (HLT.o.2.1 b e)) G1.o (Nat.le_succ w.heap.size) (block_lt HB1.o) (show EngR w4 M8 _ k (popE E' true cli) from ⟨_,_,_,_,_,_,_,H11.o⟩) HA4.o HDV4.o he m
      exact ⟨.slice Adv v8l cdv,.slice none 0 0,M8,_,rfl,hfin⟩)
     clear p4 r4 q4 hl4 hm4 mlt
     go_wp2_with fail
     refine bodyPost_ret (v:=ansV ⟨v0,v1,v2,v3,⟨v4,v5,v6,v7⟩,v8,v9⟩ (.slice Adv v8l cdv) (.slice none 0 0)) (by simp [results,Tryz.results62,go_sem,ansV,ansC,b0,b1,b2,b3,b4,b5,b6,b7,b8,b9]) rfl ?_
     refine HF.o _ ?_
     exact z1f w4 (w.heap.size+1) _ _ _ _ _ _ _ _ _ _
set_option maxHeartbeats 8000000 in
theorem zgM (PUT:z0e) (k:Nat) (E:ES) (c:Call) (d l:Value) (M S:Bl) (w:World) (h:EngR w M S k E) (hE:EOk E) (hdue:E.due.length≤998000) (hc:z0P w M c d l) (hkind:c.kind=9) :
  Calls Tryz.prog 62 #[.pointer (some ⟨k,0,none⟩),z0E c d l] w (z4D M S k (z3G E false c.list).1 (z3G E false c.list).2 w):=by
 obtain ⟨Ad,cd,rfl⟩:=hc.1.shape
 obtain ⟨Al,cl,rfl,_⟩:=hc.2.shape
 have HENG:=hid h
 have HLT:=hid h.lt
 have HC:=hid hc
 have HE:=hid hE
 have HDUE:=hid hdue
 have hks:k<w.heap.size:=h.lt.1 k (h.lt.2.1 k h.lt.2.2)
 clear hc hE hdue
 obtain ⟨kd,ka,md,ma,mr,kh,hv,hP⟩:=h
 obtain ⟨e0,e1,e2,e3,e4,e5,e6,hkl⟩:=hP.cells
 clear hP
 obtain ⟨R,hR⟩:∃ R,z3G E false c.list=R:=⟨_,rfl⟩
 rw [hR]
 have HR:=hid (show z1v false c.list E (rowOf (z2L E false) c.list)=R from hR)
 clear hR
 rcases c with ⟨ck,cf,cli,cn,⟨tf,tr,te,tt⟩,cdat,cls⟩
 simp only at hkind
 subst hkind
 have HGIVE:=hid (fun k' E' t M' S' W h hE hdue hc hw hta=>z7W PUT k' E' ⟨9,cf,cli,cn,⟨tf,tr,te,tt⟩,cdat,cls⟩ (.slice Ad cdat.length cd) (.slice Al cls.length cl) t M' S' W h hE hdue hc hw hta)
 simp only [z0E,z1U] at *
 generalize cdat.length=dl at *
 generalize cls.length=ll at *
 go_enter Tryz.func62,Tryz.ntmps62
 go_wp2_with fail
 obtain ⟨w1,hw1,g1,hb0,hb1⟩:=z4Q w (.cells #[.int .i64 9,.int .i64 cf,.int .i64 cli,.int .i64 cn,.int .i64 tf,.int .i64 tr,.int .i64 te,.int .i64 tt,.slice Ad dl cd,.slice Al ll cl] 35) (.cells #[.int .i64 0,.int .i64 0,.int .i64 0,.bool false,.int .i64 0,.int .i64 0,.int .i64 0,.int .i64 0,.slice none 0 0,.slice none 0 0] 31)
 rw [hw1]
 clear hw1
 have HM1:=hid (HENG.o.more g1 (Nat.le_succ _) (block_lt hb1))
 have G1:=hid g1
 have HB0:=hid hb0
 have HB1:=hid hb1
 have hcell:w1.cell? ⟨k,1,none⟩=some (.pointer (some ⟨ka,0,none⟩)):=(g1.cell (p:=⟨k,1,none⟩) hkl).trans e1
 have HCELL:=hid hcell
 clear hcell g1 hb0 hb1 e0 e1 e2 e3 e4 e5 e6
 go_loopg [5] (rowOf (z2L E false) cli).length (fun g rv wr=>∃ (Ei:ES) (Mi Si:Bl),rv=.pointer (some ⟨ka,0,none⟩)∧EngR wr Mi Si k Ei∧wr.cell? ⟨k,1,none⟩=some (.pointer (some ⟨ka,0,none⟩))∧EOk Ei∧Ei.due.length≤998000∧z1v false cli Ei (rowOf (z2L Ei false) cli)=R∧g=(rowOf (z2L Ei false) cli).length∧z0j w1 (fun b=>M b∨b=w.heap.size+1) S wr Mi Si)
 case atStart=>exact ⟨E,_,S,rfl,HM1.o,HCELL.o,HE.o,HDUE.o,HR.o,rfl,z0j.refl _ _ _⟩
 case round =>
  obtain ⟨Ei,Mi,Si,rfl,heng,hcell,hEi,hdi,hR,rfl,hal⟩:=hrel
  have HENGI:=hid heng
  have HAL:=hid hal
  have HEI:=hid hEi
  have HDI:=hid hdi
  have HPR:=hid hR
  have nS:∀ b,w.heap.size≤b→¬ S b:=fun b hb e=>by have:=HLT.o.1 b (HLT.o.2.1 b e);omega
  have q0:=(hal.mod.block w.heap.size (block_lt HB0.o) (nS _ (Nat.le_refl _))).trans HB0.o
  have q1:=(hal.mod.block (w.heap.size+1) (block_lt HB1.o) (nS _ (Nat.le_succ _))).trans HB1.o
  have Q0:=hid q0
  have Q1:=hid q1
  obtain ⟨a0,a1,a2,a3,a4,a5,a6,a7,a8,a9⟩:=z04 q0
  have l0:=block_lt q0
  have l1:=block_lt q1
  obtain ⟨kd',ka',md',ma',mr',kh',hv',hPi⟩:=heng
  have hkk:ka'=ka:=by
   have:=hPi.cells.2.1
   rw [hcell] at this
   injection this with this
   injection this with this
   injection this with this
   injection this with this _
   exact this.symm
  subst hkk
  have HPI:=hid hPi
  obtain ⟨e0,e1,e2,e3,e4,e5,e6,hkl'⟩:=hPi.cells
  clear hal hEi hdi hR hPi hcell q0 q1
  cases hrow:rowOf (z2L Ei false) cli with
  | nil =>
   have HPEEK:=hid (fun W (g:Gr wr W)=>(show Calls Tryz.prog 101 #[.pointer (some ⟨ka',0,none⟩),.int .i64 cli] W (RetE (.tuple #[.agg #[.int .i64 0,.int .i64 0,.int .i64 0,.int .i64 0],.bool false]) W) from by
    have:=z3T ka' ma' Ei.act cli Mi W (HPI.o.a.gr g)
    rw [show rowOf Ei.act cli=[] from hrow] at this
    exact this))
   go_wp2_with (go_at_call 101;refine (HPEEK.o _ (Gr.refl _)).mono ?_;rintro en _ ⟨rfl,y1,rfl⟩)
   have G4:=hid (y1.gr.alloc (.cells #[.int .i64 0,.int .i64 0,.int .i64 0,.int .i64 0] 84))
   refine (z43 ka' ma' Ei.act cli Mi _ (HPI.o.a.gr G4.o) (HPI.o.SM _ HPI.o.sma) (fun b e=>Nat.lt_of_lt_of_le (HENGI.o.lt.1 b e) G4.o.size) (Nat.le_trans (z2h HEI.o.a.toROk cli) (by omega))).mono ?_
   rw [show rowOf Ei.act cli=[] from hrow]
   simp only [List.headD_nil,List.isEmpty_nil,Bool.not_true,tkV,tk0]
   rintro en w4 ⟨rfl,hl4,hm4⟩
   have HL4:=hid hl4
   have M4:=hid hm4
   have HA4:=hid (show z0j w1 (fun b=>M b∨b=w.heap.size+1) S w4 Mi Si from HAL.o.trans ⟨(G4.o.mod Si).trans hm4 (fun b _ e=>e▸HPI.o.sma),fun _ _ e=>e,fun _ _ e=>e,fun _ e=>e⟩)
   have q4:=(HA4.o.mod.block w.heap.size (block_lt HB0.o) (nS _ (Nat.le_refl _))).trans HB0.o
   have r4:=(HA4.o.mod.block (w.heap.size+1) (block_lt HB1.o) (nS _ (Nat.le_succ _))).trans HB1.o
   obtain ⟨a0,a1,a2,a3,a4,a5,a6,a7,a8,a9⟩:=z04 q4
   obtain ⟨b0,b1,b2,b3,b4,b5,b6,b7,b8,b9⟩:=z04 r4
   have l4:=block_lt q4
   have l5:=block_lt r4
   obtain ⟨f0,f1,f2,f3,f4,f5,f6,f7,f8,f9⟩:=FZ r4
   clear q4 r4
   have HF:=hid (show ∀ w3,Mod (fun x=>x=w.heap.size+1) w4 w3→z4D M S k R.1 R.2 w (.returned (ansV ans0 (.slice none 0 0) (.slice none 0 0))) w3 from fun w3 m=>by
    have hR0:R=(ans0,Ei):=by rw [← HPR.o,hrow];rfl
    have hp:popR Ei.act cli=Ei.act:=by unfold popR;rw [show rowOf Ei.act cli=[] from hrow]
    have h5:=(HPI.o.gr G4.o).setAct M4.o (hp▸HL4.o)
    have h6:EngR w4 Mi Si k Ei:=⟨_,_,_,_,_,_,_,h5⟩
    rw [hR0]
    have hd:BysM w4 Mi (.slice none 0 0) ans0.data:=BysM.none _ _
    have he:z08 evR w4 Mi (.slice none 0 0) ans0.events:=z08.none _ _ _
    have hfin:=z0F (fun b e=>HLT.o.1 b (HLT.o.2.1 b e)) G1.o (Nat.le_succ w.heap.size) (block_lt HB1.o) h6 HA4.o hd he m
    exact ⟨.slice none 0 0,.slice none 0 0,Mi,Si,rfl,hfin⟩)
   go_wp2_with fail
   refine bodyPost_ret (v:=ansV ans0 (.slice none 0 0) (.slice none 0 0)) (by simp [results,Tryz.results62,go_sem,ansV,ansC,ans0,tok0,b0,b1,b2,b3,b4,b5,b6,b7,b8,b9,l5]) rfl ?_
   refine HF.o _ ?_
   exact (z1f w4 (w.heap.size+1) _ _ _ _ _ _ _ _ _ _).gr ((Gr.refl _).alloc _)
  | cons t r =>
   obtain ⟨t1,t2,t3,t4⟩:=t
   have HROW:=hid hrow
   have HPEEK:=hid (fun W (g:Gr wr W)=>(show Calls Tryz.prog 101 #[.pointer (some ⟨ka',0,none⟩),.int .i64 cli] W (RetE (.tuple #[.agg #[.int .i64 t1,.int .i64 t2,.int .i64 t3,.int .i64 t4],.bool true]) W) from by
    have:=z3T ka' ma' Ei.act cli Mi W (HPI.o.a.gr g)
    rw [show rowOf Ei.act cli=⟨t1,t2,t3,t4⟩::r from hrow] at this
    exact this))
   have HW:=hid (fun W (g:Gr wr W)=>z6x k Ei ⟨t1,t2,t3,t4⟩ Mi Si W (HENGI.o.gr g))
   simp only [tkV] at HW
   go_upto_region 5 with (go_at_call 101;refine (HPEEK.o _ (Gr.refl _)).mono ?_;rintro en _ ⟨rfl,y1,rfl⟩)
   have HB6:=hid (heap_alloc_new y1.val (.cells #[.int .i64 t1,.int .i64 t2,.int .i64 t3,.int .i64 t4] 84))
   have G5:=hid (y1.gr.alloc (.cells #[.int .i64 t1,.int .i64 t2,.int .i64 t3,.int .i64 t4] 84))
   obtain ⟨w5,hw5⟩:∃ w5,y1.val.alloc (.cells #[.int .i64 t1,.int .i64 t2,.int .i64 t3,.int .i64 t4] 84)=w5:=⟨_,rfl⟩
   rw [hw5] at HB6 G5 ⊢
   clear hw5
   generalize y1.val.heap.size=n6 at *
   clear y1
   obtain ⟨c0,c1,c2,c3⟩:=z0C HB6.o
   have l6:=block_lt HB6.o
   clear a0 a1 a2 a3 a4 a5 a6 a7 a8 a9 e0 e1 e2 e3 e4 e5 e6
   obtain ⟨a0,a1,a2,a3,a4,a5,a6,a7,a8,a9⟩:=z04 ((G5.o.block _ l0).trans Q0.o)
   have l0':=Nat.lt_of_lt_of_le l0 G5.o.size
   have hk5:=(G5.o.block k hkl').trans HPI.o.cell
   have HK5:=hid hk5
   have hkl5:=block_lt hk5
   clear l0 l1 hkl' hk5
   cases hwant:z1y Ei ⟨t1,t2,t3,t4⟩ with
   | false =>
    rw [hwant] at HW
    go_wp2_with (go_at_call 102;refine (HW.o _ G5.o).mono ?_;rintro en _ ⟨rfl,y2,rfl⟩)
    have G4:=hid (G5.o.trans y2.gr)
    refine (z43 ka' ma' Ei.act cli Mi _ (HPI.o.a.gr G4.o) (HPI.o.SM _ HPI.o.sma) (fun b e=>Nat.lt_of_lt_of_le (HENGI.o.lt.1 b e) G4.o.size) (Nat.le_trans (z2h HEI.o.a.toROk cli) (by omega))).mono ?_
    rw [show rowOf Ei.act cli=⟨t1,t2,t3,t4⟩::r from HROW.o]
    simp only [List.headD_cons,List.isEmpty_cons,Bool.not_false,tkV]
    rintro en w4 ⟨rfl,hl4,hm4⟩
    have HL4:=hid hl4
    have M4:=hid hm4
    have HA4:=hid (show z0j w1 (fun b=>M b∨b=w.heap.size+1) S w4 Mi Si from HAL.o.trans ⟨(G4.o.mod Si).trans hm4 (fun b _ e=>e▸HPI.o.sma),fun _ _ e=>e,fun _ _ e=>e,fun _ e=>e⟩)
    go_wp2_with fail
    go_roundg r.length
    case rel =>
     have h5:EngP (w4.alloc (.cells #[.int .i64 t1,.int .i64 t2,.int .i64 t3,.int .i64 t4] 84)) Mi Si k (popE Ei false cli) kd' ka' md' ma' mr' kh' hv':=((HPI.o.gr G4.o).setAct M4.o HL4.o).gr ((Gr.refl _).alloc _)
     exact ⟨popE Ei false cli,Mi,Si,rfl,⟨_,_,_,_,_,_,_,h5⟩,h5.cells.2.1,(z4U (E:=Ei) (d:=false) (list:=cli)).ok HEI.o,HDI.o,by rw [z59 false cli Ei _ r HEI.o HROW.o,← zcH hwant,← HROW.o];exact HPR.o,by rw [z59 false cli Ei _ r HEI.o HROW.o],HA4.o.gr ((Gr.refl _).alloc _)⟩
    case measure=>rw [HROW.o];simp
   | true =>
    rw [hwant] at HW
    go_wp2_with (go_at_call 102;refine (HW.o _ G5.o).mono ?_;rintro en _ ⟨rfl,y2,rfl⟩)
    have G6:=hid (G5.o.trans y2.gr)
    refine (z3U k Ei Mi Si _ (HENGI.o.gr G6.o) (Nat.le_trans HDI.o (by omega))).mono ?_
    rintro en w7 ⟨M7,S7,k7,rfl,g7,heng7,hMM,hMo,hS7⟩
    have HT:=hid (And.intro hMM (And.intro hMo hS7))
    have G7:=hid g7
    have HE7:=hid heng7
    have G57:=hid (y2.gr.trans g7)
    have G07:=hid (G6.o.trans g7)
    obtain ⟨a0,a1,a2,a3,a4,a5,a6,a7,a8,a9⟩:=z04 ((G07.o.block _ (block_lt Q0.o)).trans Q0.o)
    obtain ⟨c0,c1,c2,c3⟩:=z0C ((G57.o.block _ l6).trans HB6.o)
    have l7:=Nat.lt_of_lt_of_le l0' G57.o.size
    have l8:=Nat.lt_of_lt_of_le l6 G57.o.size
    clear hMM hMo hS7 g7 heng7
    go_wp2_with fail
    have hup:Up M w M7 w7:=(((⟨G1.o.mod M,fun b hb e=>by
     rcases e with e | e
     ·exact e
     ·omega⟩:Up M w (fun b=>M b∨b=w.heap.size+1) w1).trans (HAL.o.up (fun b e=>.inl (HLT.o.2.1 b e)))).gr G6.o).trans ⟨G7.o.mod Mi,HT.o.2.1⟩
    refine (HGIVE.o k7 Ei ⟨t1,t2,t3,t4⟩ M7 S7 w7 HE7.o HEI.o HDI.o (HC.o.up hup) hwant (fun _=>HEI.o.a.row cli _ (by rw [show rowOf Ei.act cli=_ from HROW.o];exact List.mem_cons_self ..))).mono ?_
    clear hup
    intro en w8 hg
    obtain ⟨g,hgv⟩:∃ g,z2b Ei false ⟨t1,t2,t3,t4⟩=g:=⟨_,rfl⟩
    have hg':RetG M7 S7 k7 g w7 en w8:=hgv▸hg
    have HGV:=hid hgv
    clear hgv hg
    cases g with
    | none =>
     obtain ⟨a,A,n,c',rfl,m8⟩:=hg'
     have G8:=hid (z2c (w:=y2.val) G7.o m8 HT.o.2.2)
     have HA4:=hid (HAL.o.gr (G6.o.trans G8.o))
     clear m8 a0 a1 a2 a3 a4 a5 a6 a7 a8 a9
     have r4:=(HA4.o.mod.block (w.heap.size+1) (block_lt HB1.o) (nS _ (Nat.le_succ _))).trans HB1.o
     obtain ⟨b0,b1,b2,b3,b4,b5,b6,b7,b8,b9⟩:=z04 r4
     have l5:=block_lt r4
     obtain ⟨f0,f1,f2,f3,f4,f5,f6,f7,f8,f9⟩:=FZ r4
     clear r4
     have HF:=hid (show ∀ w3,Mod (fun x=>x=w.heap.size+1) w8 w3→z4D M S k R.1 R.2 w (.returned (ansV ans0 (.slice none 0 0) (.slice none 0 0))) w3 from fun w3 m=>by
      have hR0:R=(ans0,Ei):=by rw [← HPR.o,HROW.o,zcI hwant HGV.o]
      have h6:EngR w8 Mi Si k Ei:=HENGI.o.gr (G6.o.trans G8.o)
      rw [hR0]
      have hd:BysM w8 Mi (.slice none 0 0) ans0.data:=BysM.none _ _
      have he:z08 evR w8 Mi (.slice none 0 0) ans0.events:=z08.none _ _ _
      have hfin:=z0F (fun b e=>HLT.o.1 b (HLT.o.2.1 b e)) G1.o (Nat.le_succ w.heap.size) (block_lt HB1.o) h6 HA4.o hd he m
      exact ⟨.slice none 0 0,.slice none 0 0,Mi,Si,rfl,hfin⟩)
     simp only [ansV,ansC]
     go_wp2_with fail
     refine bodyPost_ret (v:=ansV ans0 (.slice none 0 0) (.slice none 0 0)) (by simp [results,Tryz.results62,go_sem,ansV,ansC,ans0,tok0,b0,b1,b2,b3,b4,b5,b6,b7,b8,b9,l5]) rfl ?_
     refine HF.o _ ?_
     exact (z1f w8 (w.heap.size+1) _ _ _ _ _ _ _ _ _ _).gr ((Gr.refl _).alloc _)
    | some x =>
     obtain ⟨a,E'⟩:=x
     obtain ⟨dv,M8,S8,rfl,heng8,hal8,hdv⟩:=hg'
     have HAL8:=hid hal8
     have HDV:=hid hdv
     have HE8:=hid heng8
     obtain ⟨kd8,ka8,md8,ma8,mr8,kh8,hv8,hP8⟩:=heng8
     have HP8:=hid hP8
     have hk7:k7<w8.heap.size:=hP8.cells.2.2.2.2.2.2.2
     have hS7k:¬ S7 k:=fun e=>by have:=HT.o.2.2 k e;have:=y2.gr.size;omega
     have hk8:=(hal8.mod.block k (Nat.lt_of_lt_of_le hkl5 G57.o.size) hS7k).trans ((G57.o.block k hkl5).trans HK5.o)
     have HK8:=hid hk8
     have hkl8:=block_lt hk8
     have q8:=(hal8.mod.block w.heap.size (by omega) (fun e=>by have:=HT.o.2.2 _ e;have:=y2.gr.size;omega)).trans ((G07.o.block _ (block_lt Q0.o)).trans Q0.o)
     have Q8:=hid q8
     have l9:=block_lt q8
     obtain ⟨Adv,cdv,rfl⟩:=hdv.shape
     clear hal8 hdv hP8 hk8 q8
     have HR9:=hid (show (a,popE E' false cli)=R from by rw [← HPR.o,HROW.o,zcJ hwant HGV.o])
     rcases a with ⟨v0,v1,v2,v3,⟨v4,v5,v6,v7⟩,v8,v9⟩
     simp only [ansV,ansC]
     generalize hv8l:v8.length=v8l at *
     have HV8:=hid hv8l
     clear hv8l
     go_upto_region 10 with fail
     have HB9:=hid (heap_alloc_new w8 (.cells #[.int .i64 v0,.int .i64 v1,.int .i64 v2,.bool v3,.int .i64 v4,.int .i64 v5,.int .i64 v6,.int .i64 v7,.slice Adv v8l cdv,.slice none 0 0] 31))
     have G9:=hid ((Gr.refl w8).alloc (.cells #[.int .i64 v0,.int .i64 v1,.int .i64 v2,.bool v3,.int .i64 v4,.int .i64 v5,.int .i64 v6,.int .i64 v7,.slice Adv v8l cdv,.slice none 0 0] 31))
     obtain ⟨w9,hw9⟩:∃ w9,w8.alloc (.cells #[.int .i64 v0,.int .i64 v1,.int .i64 v2,.bool v3,.int .i64 v4,.int .i64 v5,.int .i64 v6,.int .i64 v7,.slice Adv v8l cdv,.slice none 0 0] 31)=w9:=⟨_,rfl⟩
     rw [hw9] at HB9 G9 ⊢
     clear hw9
     have hk7:k7<w9.heap.size:=Nat.lt_of_lt_of_le hk7 G9.o.size
     obtain ⟨g0,g1,g2,g3,g4,g5,g6,g7⟩:=(HP8.o.gr G9.o).cells
     have hk9:=(G9.o.block k hkl8).trans HK8.o
     have HK9:=hid hk9
     have hkl9:=block_lt hk9
     have z0:=z00 (j:=0) hk9
     have z1:=z00 (j:=1) hk9
     have z2:=z00 (j:=2) hk9
     have z3:=z00 (j:=3) hk9
     have z4:=z00 (j:=4) hk9
     have z5:=z00 (j:=5) hk9
     have z6:=z00 (j:=6) hk9
     obtain ⟨a0,a1,a2,a3,a4,a5,a6,a7,a8,a9⟩:=z04 ((G9.o.block _ l9).trans Q8.o)
     have l9':=Nat.lt_of_lt_of_le l9 G9.o.size
     obtain ⟨y0,y1,y2,y3,y4,y5,y6⟩:=z0p hk9
     clear hk9
     go_wp2_with fail
     clear y0 y1 y2 y3 y4 y5 y6
     obtain ⟨w10,hw10,m10,hc10⟩:=z4z (a':=.pointer (some ⟨kd8,0,none⟩)) (b':=.pointer (some ⟨ka8,0,none⟩)) (c':=.int .i64 E'.shard) (d':=.int .i64 E'.groups) (e':=.int .i64 E'.now) (f':=.map (some mr8)) (g':=.pointer (some ⟨kh8,0,none⟩)) HK9.o
     rw [hw10]
     clear hw10
     have hkM:M8 k:=HAL8.o.mm k (HT.o.1 k (HPI.o.SM k HPI.o.sk))
     have hkS:¬ S8 k:=fun e=>by
      have h1:=HAL8.o.s k (Nat.lt_of_lt_of_le hkl5 G57.o.size) e
      have h2:=HT.o.2.2 k h1
      have h3:=y2.gr.size
      omega
     have H10:=hid ((HP8.o.gr G9.o).move m10 hc10 hkM hkS)
     have HAL10:=hid (z3W HAL.o G6.o G7.o HT.o.1 HT.o.2.1 HT.o.2.2 (HAL8.o.gr G9.o) m10 HPI.o.sk)
     have hE8:EOk E':=(z5M HGV.o).ok HEI.o
     have HDV10:=hid (HDV.o.up ((Gr.up G9.o M8).trans (Mod.up m10 (fun _ _ e=>e▸hkM))))
     have p10:=(m10.block w8.heap.size (block_lt HB9.o) (by show ¬ w8.heap.size=k;omega)).trans HB9.o
     have P10:=hid p10
     clear p10 hc10 hkM hkS a0 a1 a2 a3 a4 a5 a6 a7 a8 a9 g0 g1 g2 g3 g4 g5 g6 g7
     refine (z43 ka8 ma8 E'.act cli M8 w10 H10.o.a (H10.o.SM _ H10.o.sma) H10.o.lt (Nat.le_trans (z2h hE8.a.toROk cli) (by omega))).mono ?_
     rintro en w4 ⟨rfl,hl4,hm4⟩
     have H11:=hid (H10.o.setAct hm4 hl4)
     have HA4:=hid (HAL10.o.trans ⟨hm4.mono (fun b _ e=>e▸H10.o.sma),fun _ _ e=>e,fun _ _ e=>e,fun _ e=>e⟩)
     have HDV4:=hid (HDV10.o.up (Mod.up hm4 (fun _ _ e=>e▸H10.o.SM _ H10.o.sma)))
     have mlt:ma8<w8.heap.size:=HP8.o.lt _ (HP8.o.SM _ HP8.o.sma)
     have p4:=(hm4.block w8.heap.size (block_lt P10.o) (by show ¬ w8.heap.size=ma8;omega)).trans P10.o
     obtain ⟨p0,p1,p2,p3,p4',p5,p6,p7,p8,p9⟩:=z04 p4
     have lp:=block_lt p4
     have r4:=(HA4.o.mod.block (w.heap.size+1) (block_lt HB1.o) (nS _ (Nat.le_succ _))).trans HB1.o
     obtain ⟨b0,b1,b2,b3,b4,b5,b6,b7,b8,b9⟩:=z04 r4
     have l5:=block_lt r4
     have q4:=(HA4.o.mod.block w.heap.size (block_lt HB0.o) (nS _ (Nat.le_refl _))).trans HB0.o
     obtain ⟨a0,a1,a2,a3,a4,a5,a6,a7,a8,a9⟩:=z04 q4
     have lq:=block_lt q4
     obtain ⟨f0,f1,f2,f3,f4,f5,f6,f7,f8,f9⟩:=FZ r4
     have HV9:=hid (z5s HGV.o)
     have HF:=hid (show ∀ w3,Mod (fun x=>x=w.heap.size+1) w4 w3→z4D M S k R.1 R.2 w (.returned (ansV ⟨v0,v1,v2,v3,⟨v4,v5,v6,v7⟩,v8,v9⟩ (.slice Adv v8l cdv) (.slice none 0 0))) w3 from fun w3 m=>by
      rw [← HR9.o]
      have he:z08 evR w4 M8 (.slice none 0 0) v9:=by
       rw [show v9=[] from HV9.o]
       exact z08.none _ _ _
      have hfin:=z0F (a:=⟨v0,v1,v2,v3,⟨v4,v5,v6,v7⟩,v8,v9⟩) (fun b e=>HLT.o.1 b (HLT.o.2.1 b e)) G1.o (Nat.le_succ w.heap.size) (block_lt HB1.o) (show EngR w4 M8 _ k (popE E' false cli) from ⟨_,_,_,_,_,_,_,H11.o⟩) HA4.o HDV4.o he m
      exact ⟨.slice Adv v8l cdv,.slice none 0 0,M8,_,rfl,hfin⟩)
     clear p4 r4 q4 hl4 hm4 mlt
     go_wp2_with fail
     refine bodyPost_ret (v:=ansV ⟨v0,v1,v2,v3,⟨v4,v5,v6,v7⟩,v8,v9⟩ (.slice Adv v8l cdv) (.slice none 0 0)) (by simp [results,Tryz.results62,go_sem,ansV,ansC,b0,b1,b2,b3,b4,b5,b6,b7,b8,b9]) rfl ?_
     refine HF.o _ ?_
     exact z1f w4 (w.heap.size+1) _ _ _ _ _ _ _ _ _ _
end Go.Proofs.YtniknicnnaiilaaGreat
end
