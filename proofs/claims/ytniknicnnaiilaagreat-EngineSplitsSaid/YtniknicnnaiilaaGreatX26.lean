/- Lemmas of the engine. -/
import Derived.Test.YtniknicnnaiilaaGreatX15
import Derived.Test.YtniknicnnaiilaaGreatX24
import Derived.Test.YtniknicnnaiilaaGreatX25
section
namespace Go.Proofs.YtniknicnnaiilaaGreat
set_option maxRecDepth 100000
open Go.RowKit Go.Ext Go.BigFrame Go.Maps Go.MapKept
attribute [local go_sem] Ext.cell Ext.frozen Ext.lt Ext.le s1 s2 s3 s4 s5 s6 t1 t2 t3 t4 t5 t6
attribute [local go_sem ↓] Go.wp_at_zero Go.wp_at_succ
theorem z4R (w:World) (o0 o1 o2:Obj):∃ w1,((w.alloc o0).alloc o1).alloc o2=w1∧Gr w w1∧w1.heap[w.heap.size]?=some o0∧w1.heap[w.heap.size+1]?=some o1∧w1.heap[w.heap.size+1+1]?=some o2:=by
 refine ⟨_,rfl,(((Gr.refl w).alloc _).alloc _).alloc _,?_,?_,?_⟩
 ·exact (((Gr.refl _).alloc o1).alloc o2).block _ (by simp) |>.trans (heap_alloc_new w o0)
 ·exact ((Gr.refl _).alloc o2).block _ (by simp) |>.trans (by have:=heap_alloc_new (w.alloc o0) o1;simpa using this)
 ·have:=heap_alloc_new ((w.alloc o0).alloc o1) o2;simpa using this
set_option maxHeartbeats 8000000 in
theorem do_1 (PUT:z0e) (k:Nat) (E:ES) (c:Call) (d l:Value) (M S:Bl) (w:World) (h:EngR w M S k E) (hE:EOk E) (hdue:E.due.length≤998000) (hc:z0P w M c d l) (hkind:c.kind=1) :
  Calls Tryz.prog 33 #[.pointer (some ⟨k,0,none⟩),z0E c d l] w (RetF M S k (doE (z09 E.groups) E c) w):=by
 obtain ⟨Ad,cd,rfl⟩:=hc.1.shape
 obtain ⟨Al,cl,rfl,_⟩:=hc.2.shape
 have HLT:=hid h.lt
 have hks:k<w.heap.size:=h.lt.1 k (h.lt.2.1 k h.lt.2.2)
 have HE:=hid hE
 obtain ⟨w1,hw1,g1,hb0,hb1,hb2⟩:=z4R w (.cells #[.pointer (some ⟨k,0,none⟩)] 24) (.cells #[.int .i64 c.kind,.int .i64 c.flow,.int .i64 c.list,.int .i64 c.n,.int .i64 c.tok.flow,.int .i64 c.tok.run,.int .i64 c.tok.event,.int .i64 c.tok.turn,.slice Ad c.data.length cd,.slice Al c.l.length cl] 35) (.cells #[.int .i64 0,.int .i64 0,.int .i64 0,.bool false,.int .i64 0,.int .i64 0,.int .i64 0,.int .i64 0,.slice none 0 0,.slice none 0 0] 31)
 have G1:=hid g1
 have HB0:=hid hb0
 have HB1:=hid hb1
 have HB2:=hid hb2
 have HM1:=hid (show EngR w1 (fun b=>M b∨b=w.heap.size+1+1) S k E from h.more g1 (by omega) (block_lt hb2))
 have HCM:=hid (hc.up (⟨g1.mod M,fun b hb e=>by
  rcases e with e | e
  ·exact e
  ·omega⟩:Up M w (fun b=>M b∨b=w.heap.size+1+1) w1))
 have NS:=hid (show ∀ b,w.heap.size≤b→¬ S b from fun b hb e=>by have:=h.lt.1 b (h.lt.2.1 b e);omega)
 have HS:=hid (show ∀ b,S b→b<w.heap.size from fun b e=>h.lt.1 b (h.lt.2.1 b e))
 have HCALL:=hid (zcX PUT k E c (.slice Ad c.data.length cd) (.slice Al c.l.length cl) _ S w1 HM1.o hE hdue HCM.o)
 obtain ⟨X,hX⟩:∃ X,doE (z09 E.groups) E c=X:=⟨_,rfl⟩
 rw [hX]
 have HX:=hid hX
 clear hX hc hE hdue h g1 hb0 hb1 hb2
 rcases c with ⟨ck,cf,cli,cn,⟨tf,tr,te,tt⟩,cdat,cls⟩
 simp only at hkind
 subst hkind
 simp only [z0E,z1U] at *
 generalize hdl:cdat.length=dl at *
 generalize hll:cls.length=ll at *
 have HDL:=hid hdl
 have HW1:=hid hw1
 clear hw1 hdl hll
 have p0:w1.cell? ⟨w.heap.size,0,none⟩=some (.pointer (some ⟨k,0,none⟩)):=by simp [World.cell?,HB0.o]
 obtain ⟨a0,a1,a2,a3,a4,a5,a6,a7,a8,a9⟩:=z04 HB1.o
 have l0:=block_lt HB0.o
 have l1:=block_lt HB1.o
 have l2:=block_lt HB2.o
 go_enter Tryz.func33,Tryz.ntmps33
 go_upto_region 1 with fail
 rw [HW1.o]
 go_wp2_with fail
 have hX2:z2n E ⟨1,cf,cli,cn,⟨tf,tr,te,tt⟩,cdat,cls⟩=X:=HX.o
 rw [hX2] at HCALL
 refine HCALL.o.mono ?_
 intro en w2 hret
 rcases X with ⟨a,X⟩
 cases X with
 | none =>
  obtain ⟨⟨v0,v1,v2,v3,⟨v4,v5,v6,v7⟩,v8,v9⟩,A,n,c',A',n',c'',rfl,hm⟩:=hret
  have r4:=(hm.block _ l2 (NS.o _ (by omega))).trans HB2.o
  obtain ⟨b0,b1,b2,b3,b4,b5,b6,b7,b8,b9⟩:=z04 r4
  have l4:=block_lt r4
  obtain ⟨f0,f1,f2,f3,f4,f5,f6,f7,f8,f9⟩:=FZ r4
  have HF:=hid (show ∀ w3,Mod (fun x=>x=w.heap.size+1+1) w2 w3→RetF M S k (a,none) w (.returned (.tuple #[ansV ⟨v0,v1,v2,v3,⟨v4,v5,v6,v7⟩,v8,v9⟩ (.slice A n c') (.slice A' n' c''),.bool true])) w3 from fun w3 m =>
   ⟨⟨v0,v1,v2,v3,⟨v4,v5,v6,v7⟩,v8,v9⟩,A,n,c',A',n',c'',rfl,z4q G1.o (by omega) hm m⟩)
  clear r4 hm
  simp only [ansV,ansC]
  go_wp2_with fail
  refine bodyPost_ret (v:=.tuple #[ansV ⟨v0,v1,v2,v3,⟨v4,v5,v6,v7⟩,v8,v9⟩ (.slice A n c') (.slice A' n' c''),.bool true]) (by simp [results,Tryz.results33,go_sem,ansV,ansC,b0,b1,b2,b3,b4,b5,b6,b7,b8,b9]) rfl ?_
  refine HF.o _ ?_
  exact z1f w2 (w.heap.size+1+1) _ _ _ _ _ _ _ _ _ _
 | some E' =>
  obtain ⟨dv,ev,M',S',rfl,heng,hal,hd,he⟩:=hret
  have HEN:=hid heng
  have HAL:=hid hal
  have HD:=hid hd
  have HV:=hid he
  have r4:=(hal.mod.block _ l2 (NS.o _ (by omega))).trans HB2.o
  obtain ⟨b0,b1,b2,b3,b4,b5,b6,b7,b8,b9⟩:=z04 r4
  have l4:=block_lt r4
  obtain ⟨f0,f1,f2,f3,f4,f5,f6,f7,f8,f9⟩:=FZ r4
  obtain ⟨Av,cv,rfl⟩:=hd.shape
  obtain ⟨Ae,ce,rfl,_⟩:=he.shape
  rcases a with ⟨v0,v1,v2,v3,⟨v4,v5,v6,v7⟩,v8,v9⟩
  clear heng hal hd he r4
  simp only at *
  generalize v8.length=n8 at *
  generalize v9.length=n9 at *
  have HF:=hid (show ∀ w3,Mod (fun x=>x=w.heap.size+1+1) w2 w3→RetF M S k (⟨v0,v1,v2,v3,⟨v4,v5,v6,v7⟩,v8,v9⟩,some E') w (.returned (.tuple #[ansV ⟨v0,v1,v2,v3,⟨v4,v5,v6,v7⟩,v8,v9⟩ (.slice Av n8 cv) (.slice Ae n9 ce),.bool false])) w3 from fun w3 m=>by
   exact ⟨(.slice Av n8 cv),(.slice Ae n9 ce),_,_,rfl,z0F (a:=⟨v0,v1,v2,v3,⟨v4,v5,v6,v7⟩,v8,v9⟩) HS.o G1.o (by omega) l2 HEN.o HAL.o HD.o HV.o m⟩)
  simp only [ansV,ansC]
  go_wp2_with fail
  refine bodyPost_ret (v:=.tuple #[ansV ⟨v0,v1,v2,v3,⟨v4,v5,v6,v7⟩,v8,v9⟩ (.slice Av n8 cv) (.slice Ae n9 ce),.bool false]) (by simp [results,Tryz.results33,go_sem,ansV,ansC,b0,b1,b2,b3,b4,b5,b6,b7,b8,b9]) rfl ?_
  refine HF.o _ ?_
  exact z1f w2 (w.heap.size+1+1) _ _ _ _ _ _ _ _ _ _
set_option maxHeartbeats 8000000 in
theorem do_7 (PUT:z0e) (k:Nat) (E:ES) (c:Call) (d l:Value) (M S:Bl) (w:World) (h:EngR w M S k E) (hE:EOk E) (hdue:E.due.length≤998000) (hc:z0P w M c d l) (hkind:c.kind=7) :
  Calls Tryz.prog 33 #[.pointer (some ⟨k,0,none⟩),z0E c d l] w (RetF M S k (doE (z09 E.groups) E c) w):=by
 obtain ⟨Ad,cd,rfl⟩:=hc.1.shape
 obtain ⟨Al,cl,rfl,_⟩:=hc.2.shape
 have HLT:=hid h.lt
 have hks:k<w.heap.size:=h.lt.1 k (h.lt.2.1 k h.lt.2.2)
 have HE:=hid hE
 obtain ⟨w1,hw1,g1,hb0,hb1,hb2⟩:=z4R w (.cells #[.pointer (some ⟨k,0,none⟩)] 24) (.cells #[.int .i64 c.kind,.int .i64 c.flow,.int .i64 c.list,.int .i64 c.n,.int .i64 c.tok.flow,.int .i64 c.tok.run,.int .i64 c.tok.event,.int .i64 c.tok.turn,.slice Ad c.data.length cd,.slice Al c.l.length cl] 35) (.cells #[.int .i64 0,.int .i64 0,.int .i64 0,.bool false,.int .i64 0,.int .i64 0,.int .i64 0,.int .i64 0,.slice none 0 0,.slice none 0 0] 31)
 have G1:=hid g1
 have HB0:=hid hb0
 have HB1:=hid hb1
 have HB2:=hid hb2
 have HM1:=hid (show EngR w1 (fun b=>M b∨b=w.heap.size+1+1) S k E from h.more g1 (by omega) (block_lt hb2))
 have HCM:=hid (hc.up (⟨g1.mod M,fun b hb e=>by
  rcases e with e | e
  ·exact e
  ·omega⟩:Up M w (fun b=>M b∨b=w.heap.size+1+1) w1))
 have NS:=hid (show ∀ b,w.heap.size≤b→¬ S b from fun b hb e=>by have:=h.lt.1 b (h.lt.2.1 b e);omega)
 have HS:=hid (show ∀ b,S b→b<w.heap.size from fun b e=>h.lt.1 b (h.lt.2.1 b e))
 have HCALL:=hid (zgL PUT k E c (.slice Ad c.data.length cd) (.slice Al c.l.length cl) _ S w1 HM1.o hE hdue HCM.o hkind)
 obtain ⟨X,hX⟩:∃ X,doE (z09 E.groups) E c=X:=⟨_,rfl⟩
 rw [hX]
 have HX:=hid hX
 clear hX hc hE hdue h g1 hb0 hb1 hb2
 rcases c with ⟨ck,cf,cli,cn,⟨tf,tr,te,tt⟩,cdat,cls⟩
 simp only at hkind
 subst hkind
 simp only [z0E,z1U] at *
 generalize hdl:cdat.length=dl at *
 generalize hll:cls.length=ll at *
 have HDL:=hid hdl
 have HW1:=hid hw1
 clear hw1 hdl hll
 have p0:w1.cell? ⟨w.heap.size,0,none⟩=some (.pointer (some ⟨k,0,none⟩)):=by simp [World.cell?,HB0.o]
 obtain ⟨a0,a1,a2,a3,a4,a5,a6,a7,a8,a9⟩:=z04 HB1.o
 have l0:=block_lt HB0.o
 have l1:=block_lt HB1.o
 have l2:=block_lt HB2.o
 go_enter Tryz.func33,Tryz.ntmps33
 go_upto_region 1 with fail
 rw [HW1.o]
 go_wp2_with fail
 have hX2:((z3G E true cli).1,some (z3G E true cli).2)=X:=HX.o
 generalize z3G E true cli=pr at *
 refine HCALL.o.mono ?_
 intro en w2 hret
 rcases pr with ⟨a,E'⟩
 obtain ⟨dv,ev,M',S',rfl,heng,hal,hd,he⟩:=hret
 have HEN:=hid heng
 have HAL:=hid hal
 have HD:=hid hd
 have HV:=hid he
 have r4:=(hal.mod.block _ l2 (NS.o _ (by omega))).trans HB2.o
 obtain ⟨b0,b1,b2,b3,b4,b5,b6,b7,b8,b9⟩:=z04 r4
 have l4:=block_lt r4
 obtain ⟨f0,f1,f2,f3,f4,f5,f6,f7,f8,f9⟩:=FZ r4
 obtain ⟨Av,cv,rfl⟩:=hd.shape
 obtain ⟨Ae,ce,rfl,_⟩:=he.shape
 rcases a with ⟨v0,v1,v2,v3,⟨v4,v5,v6,v7⟩,v8,v9⟩
 have HX2:=hid hX2
 clear heng hal hd he r4 hX2
 simp only at *
 generalize v8.length=n8 at *
 generalize v9.length=n9 at *
 have HF:=hid (show ∀ w3,Mod (fun x=>x=w.heap.size+1+1) w2 w3→RetF M S k X w (.returned (.tuple #[ansV ⟨v0,v1,v2,v3,⟨v4,v5,v6,v7⟩,v8,v9⟩ (.slice Av n8 cv) (.slice Ae n9 ce),.bool false])) w3 from fun w3 m=>by
  rw [← HX2.o]
  exact ⟨(.slice Av n8 cv),(.slice Ae n9 ce),_,_,rfl,z0F (a:=⟨v0,v1,v2,v3,⟨v4,v5,v6,v7⟩,v8,v9⟩) HS.o G1.o (by omega) l2 HEN.o HAL.o HD.o HV.o m⟩)
 simp only [ansV,ansC]
 go_wp2_with fail
 refine bodyPost_ret (v:=.tuple #[ansV ⟨v0,v1,v2,v3,⟨v4,v5,v6,v7⟩,v8,v9⟩ (.slice Av n8 cv) (.slice Ae n9 ce),.bool false]) (by simp [results,Tryz.results33,go_sem,ansV,ansC,b0,b1,b2,b3,b4,b5,b6,b7,b8,b9]) rfl ?_
 refine HF.o _ ?_
 exact z1f w2 (w.heap.size+1+1) _ _ _ _ _ _ _ _ _ _
set_option maxHeartbeats 8000000 in
theorem do_9 (PUT:z0e) (k:Nat) (E:ES) (c:Call) (d l:Value) (M S:Bl) (w:World) (h:EngR w M S k E) (hE:EOk E) (hdue:E.due.length≤998000) (hc:z0P w M c d l) (hkind:c.kind=9) :
  Calls Tryz.prog 33 #[.pointer (some ⟨k,0,none⟩),z0E c d l] w (RetF M S k (doE (z09 E.groups) E c) w):=by
 obtain ⟨Ad,cd,rfl⟩:=hc.1.shape
 obtain ⟨Al,cl,rfl,_⟩:=hc.2.shape
 have HLT:=hid h.lt
 have hks:k<w.heap.size:=h.lt.1 k (h.lt.2.1 k h.lt.2.2)
 have HE:=hid hE
 obtain ⟨w1,hw1,g1,hb0,hb1,hb2⟩:=z4R w (.cells #[.pointer (some ⟨k,0,none⟩)] 24) (.cells #[.int .i64 c.kind,.int .i64 c.flow,.int .i64 c.list,.int .i64 c.n,.int .i64 c.tok.flow,.int .i64 c.tok.run,.int .i64 c.tok.event,.int .i64 c.tok.turn,.slice Ad c.data.length cd,.slice Al c.l.length cl] 35) (.cells #[.int .i64 0,.int .i64 0,.int .i64 0,.bool false,.int .i64 0,.int .i64 0,.int .i64 0,.int .i64 0,.slice none 0 0,.slice none 0 0] 31)
 have G1:=hid g1
 have HB0:=hid hb0
 have HB1:=hid hb1
 have HB2:=hid hb2
 have HM1:=hid (show EngR w1 (fun b=>M b∨b=w.heap.size+1+1) S k E from h.more g1 (by omega) (block_lt hb2))
 have HCM:=hid (hc.up (⟨g1.mod M,fun b hb e=>by
  rcases e with e | e
  ·exact e
  ·omega⟩:Up M w (fun b=>M b∨b=w.heap.size+1+1) w1))
 have NS:=hid (show ∀ b,w.heap.size≤b→¬ S b from fun b hb e=>by have:=h.lt.1 b (h.lt.2.1 b e);omega)
 have HS:=hid (show ∀ b,S b→b<w.heap.size from fun b e=>h.lt.1 b (h.lt.2.1 b e))
 have HCALL:=hid (zgM PUT k E c (.slice Ad c.data.length cd) (.slice Al c.l.length cl) _ S w1 HM1.o hE hdue HCM.o hkind)
 obtain ⟨X,hX⟩:∃ X,doE (z09 E.groups) E c=X:=⟨_,rfl⟩
 rw [hX]
 have HX:=hid hX
 clear hX hc hE hdue h g1 hb0 hb1 hb2
 rcases c with ⟨ck,cf,cli,cn,⟨tf,tr,te,tt⟩,cdat,cls⟩
 simp only at hkind
 subst hkind
 simp only [z0E,z1U] at *
 generalize hdl:cdat.length=dl at *
 generalize hll:cls.length=ll at *
 have HDL:=hid hdl
 have HW1:=hid hw1
 clear hw1 hdl hll
 have p0:w1.cell? ⟨w.heap.size,0,none⟩=some (.pointer (some ⟨k,0,none⟩)):=by simp [World.cell?,HB0.o]
 obtain ⟨a0,a1,a2,a3,a4,a5,a6,a7,a8,a9⟩:=z04 HB1.o
 have l0:=block_lt HB0.o
 have l1:=block_lt HB1.o
 have l2:=block_lt HB2.o
 go_enter Tryz.func33,Tryz.ntmps33
 go_upto_region 1 with fail
 rw [HW1.o]
 go_wp2_with fail
 have hX2:((z3G E false cli).1,some (z3G E false cli).2)=X:=HX.o
 generalize z3G E false cli=pr at *
 refine HCALL.o.mono ?_
 intro en w2 hret
 rcases pr with ⟨a,E'⟩
 obtain ⟨dv,ev,M',S',rfl,heng,hal,hd,he⟩:=hret
 have HEN:=hid heng
 have HAL:=hid hal
 have HD:=hid hd
 have HV:=hid he
 have r4:=(hal.mod.block _ l2 (NS.o _ (by omega))).trans HB2.o
 obtain ⟨b0,b1,b2,b3,b4,b5,b6,b7,b8,b9⟩:=z04 r4
 have l4:=block_lt r4
 obtain ⟨f0,f1,f2,f3,f4,f5,f6,f7,f8,f9⟩:=FZ r4
 obtain ⟨Av,cv,rfl⟩:=hd.shape
 obtain ⟨Ae,ce,rfl,_⟩:=he.shape
 rcases a with ⟨v0,v1,v2,v3,⟨v4,v5,v6,v7⟩,v8,v9⟩
 have HX2:=hid hX2
 clear heng hal hd he r4 hX2
 simp only at *
 generalize v8.length=n8 at *
 generalize v9.length=n9 at *
 have HF:=hid (show ∀ w3,Mod (fun x=>x=w.heap.size+1+1) w2 w3→RetF M S k X w (.returned (.tuple #[ansV ⟨v0,v1,v2,v3,⟨v4,v5,v6,v7⟩,v8,v9⟩ (.slice Av n8 cv) (.slice Ae n9 ce),.bool false])) w3 from fun w3 m=>by
  rw [← HX2.o]
  exact ⟨(.slice Av n8 cv),(.slice Ae n9 ce),_,_,rfl,z0F (a:=⟨v0,v1,v2,v3,⟨v4,v5,v6,v7⟩,v8,v9⟩) HS.o G1.o (by omega) l2 HEN.o HAL.o HD.o HV.o m⟩)
 simp only [ansV,ansC]
 go_wp2_with fail
 refine bodyPost_ret (v:=.tuple #[ansV ⟨v0,v1,v2,v3,⟨v4,v5,v6,v7⟩,v8,v9⟩ (.slice Av n8 cv) (.slice Ae n9 ce),.bool false]) (by simp [results,Tryz.results33,go_sem,ansV,ansC,b0,b1,b2,b3,b4,b5,b6,b7,b8,b9]) rfl ?_
 refine HF.o _ ?_
 exact z1f w2 (w.heap.size+1+1) _ _ _ _ _ _ _ _ _ _
set_option maxHeartbeats 8000000 in
theorem do_5 (_:z0e) (k:Nat) (E:ES) (c:Call) (d l:Value) (M S:Bl) (w:World) (h:EngR w M S k E) (hE:EOk E) (_:E.due.length≤998000) (hc:z0P w M c d l) (hkind:c.kind=5) :
  Calls Tryz.prog 33 #[.pointer (some ⟨k,0,none⟩),z0E c d l] w (RetF M S k (doE (z09 E.groups) E c) w):=by
 obtain ⟨Ad,cd,rfl⟩:=hc.1.shape
 obtain ⟨Al,cl,rfl,_⟩:=hc.2.shape
 have HLT:=hid h.lt
 have hks:k<w.heap.size:=h.lt.1 k (h.lt.2.1 k h.lt.2.2)
 have HE:=hid hE
 obtain ⟨w1,hw1,g1,hb0,hb1,hb2⟩:=z4R w (.cells #[.pointer (some ⟨k,0,none⟩)] 24) (.cells #[.int .i64 c.kind,.int .i64 c.flow,.int .i64 c.list,.int .i64 c.n,.int .i64 c.tok.flow,.int .i64 c.tok.run,.int .i64 c.tok.event,.int .i64 c.tok.turn,.slice Ad c.data.length cd,.slice Al c.l.length cl] 35) (.cells #[.int .i64 0,.int .i64 0,.int .i64 0,.bool false,.int .i64 0,.int .i64 0,.int .i64 0,.int .i64 0,.slice none 0 0,.slice none 0 0] 31)
 have G1:=hid g1
 have HB0:=hid hb0
 have HB1:=hid hb1
 have HB2:=hid hb2
 have HM1:=hid (show EngR w1 (fun b=>M b∨b=w.heap.size+1+1) S k E from h.more g1 (by omega) (block_lt hb2))
 have HCM:=hid (hc.up (⟨g1.mod M,fun b hb e=>by
  rcases e with e | e
  ·exact e
  ·omega⟩:Up M w (fun b=>M b∨b=w.heap.size+1+1) w1))
 have NS:=hid (show ∀ b,w.heap.size≤b→¬ S b from fun b hb e=>by have:=h.lt.1 b (h.lt.2.1 b e);omega)
 have HS:=hid (show ∀ b,S b→b<w.heap.size from fun b e=>h.lt.1 b (h.lt.2.1 b e))
 have HFLOW:=hid (fun W=>z3l c (.slice Ad c.data.length cd) (.slice Al c.l.length cl) W ⟨⟨_,_,_,rfl⟩,_,_,_,rfl⟩)
 obtain ⟨fl,hfl⟩:∃ fl,z16 c=fl:=⟨_,rfl⟩
 rw [hfl] at HFLOW
 have HFE:=hid hfl
 clear hfl
 obtain ⟨X,hX⟩:∃ X,doE (z09 E.groups) E c=X:=⟨_,rfl⟩
 rw [hX]
 have HX:=hid hX
 clear hX hc hE h g1 hb0 hb1 hb2
 rcases c with ⟨ck,cf,cli,cn,⟨tf,tr,te,tt⟩,cdat,cls⟩
 simp only at hkind
 subst hkind
 simp only [z0E,z1U] at *
 generalize hdl:cdat.length=dl at *
 generalize hll:cls.length=ll at *
 have HDL:=hid hdl
 have HW1:=hid hw1
 clear hw1 hdl hll
 have p0:w1.cell? ⟨w.heap.size,0,none⟩=some (.pointer (some ⟨k,0,none⟩)):=by simp [World.cell?,HB0.o]
 obtain ⟨a0,a1,a2,a3,a4,a5,a6,a7,a8,a9⟩:=z04 HB1.o
 have l0:=block_lt HB0.o
 have l1:=block_lt HB1.o
 have l2:=block_lt HB2.o
 go_enter Tryz.func33,Tryz.ntmps33
 go_upto_region 1 with fail
 rw [HW1.o]
 go_upto_region 14 with (go_at_call 64;refine (HFLOW.o _).mono ?_;rintro en _ ⟨rfl,y1,rfl⟩)
 obtain ⟨w2,hw2⟩:∃ w2,y1.val=w2:=⟨_,rfl⟩
 have G2:=hid (show Gr w1 w2 from hw2▸y1.gr)
 rw [hw2]
 clear hw2 y1
 clear p0 a0 a1 a2 a3 a4 a5 a6 a7 a8 a9
 have p0:w2.cell? ⟨w.heap.size,0,none⟩=some (.pointer (some ⟨k,0,none⟩)):=by
  have:=(G2.o.block _ l0).trans HB0.o
  simp [World.cell?,this]
 obtain ⟨a0,a1,a2,a3,a4,a5,a6,a7,a8,a9⟩:=z04 ((G2.o.block _ l1).trans HB1.o)
 have m0:=Nat.lt_of_lt_of_le l0 G2.o.size
 have m1:=Nat.lt_of_lt_of_le l1 G2.o.size
 obtain ⟨kd,ka,md,ma,mr,kh,hv,hP⟩:=HM1.o.gr G2.o
 obtain ⟨_,_,_,_,_,f5,_,hk2⟩:=hP.cells
 have HP:=hid hP
 rcases hP.look fl true with ⟨hn,hlk'⟩ | ⟨r,kf,hr,hf,hlk'⟩
 ·simp only [if_true] at hlk'
  have HRQ:=hid hn
  have hlk:=hlk' w2 (Gr.refl _)
  have HXX:=hid (show X=(z0b 2,some E) from by rw [← HX.o];unfold doE;simp [z1Z,HFE.o,HRQ.o])
  clear hlk' hn hP
  go_upto_region 15 with fail
  have HQ9:=hid (heap_alloc_new w2 (.cells #[.pointer none,.int .i64 0,.int .i64 0] 109))
  have G9:=hid ((Gr.refl w2).alloc (.cells #[.pointer none,.int .i64 0,.int .i64 0] 109))
  obtain ⟨w3,hw3⟩:∃ w3,w2.alloc (.cells #[.pointer none,.int .i64 0,.int .i64 0] 109)=w3:=⟨_,rfl⟩
  have HQ:=hid (show w3.heap[w2.heap.size]?=some (.cells #[.pointer none,.int .i64 0,.int .i64 0] 109) from by rw [← hw3];exact HQ9.o)
  rw [hw3] at G9 ⊢
  clear hw3 HQ9
  generalize hq9:w2.heap.size=q9 at *
  have HN9:=hid hq9
  clear hq9
  have G3:=hid (G2.o.trans G9.o)
  clear p0 a0 a1 a2 a3 a4 a5 a6 a7 a8 a9
  have p0:w3.cell? ⟨w.heap.size,0,none⟩=some (.pointer (some ⟨k,0,none⟩)):=by
   have:=(G3.o.block _ l0).trans HB0.o
   simp [World.cell?,this]
  obtain ⟨a0,a1,a2,a3,a4,a5,a6,a7,a8,a9⟩:=z04 ((G3.o.block _ l1).trans HB1.o)
  have m0:=Nat.lt_of_lt_of_le l0 G3.o.size
  have m1:=Nat.lt_of_lt_of_le l1 G3.o.size
  obtain ⟨u0,u1,u2⟩:=z0o HQ.o
  have ul:=block_lt HQ.o
  have HFL:=hid (fun W=>z0R 2 W)
  go_wp2_with (go_at_call 32;refine (HFL.o _).mono ?_;rintro en _ ⟨rfl,y2,rfl⟩;(have G4:=hid (G3.o.trans y2.gr));(have r4:=(G4.o.block _ l2).trans HB2.o);(obtain ⟨b0,b1,b2,b3,b4,b5,b6,b7,b8,b9⟩:=z04 r4);(have l4:=block_lt r4);(obtain ⟨f0,f1,f2,f3,f4,f5,f6,f7,f8,f9⟩:=FZ r4))
  have HF:=hid (show ∀ w3,Mod (fun x=>x=w.heap.size+1+1) y2.val w3→RetF M S k X w (.returned (.tuple #[ansV (z0b 2) (.slice none 0 0) (.slice none 0 0),.bool false])) w3 from fun w3 m=>by
   rw [HXX.o]
   have hd:BysM y2.val (fun b=>M b∨b=w.heap.size+1+1) (.slice none 0 0) (z0b 2).data:=BysM.none _ _
   have he:z08 evR y2.val (fun b=>M b∨b=w.heap.size+1+1) (.slice none 0 0) (z0b 2).events:=z08.none _ _ _
   exact ⟨.slice none 0 0,.slice none 0 0,_,S,rfl,z0F HS.o G1.o (by omega) l2 (HM1.o.gr G4.o) ((z0j.refl w1 _ S).gr G4.o) hd he m⟩)
  clear r4
  refine bodyPost_ret (v:=.tuple #[ansV (z0b 2) (.slice none 0 0) (.slice none 0 0),.bool false]) (by simp [results,Tryz.results33,go_sem,ansV,ansC,z0b,ans0,tok0,b0,b1,b2,b3,b4,b5,b6,b7,b8,b9]) rfl ?_
  refine HF.o _ ?_
  exact z1f y2.val (w.heap.size+1+1) _ _ _ _ _ _ _ _ _ _
 ·simp only [if_true,runV] at hlk'
  have HRQ:=hid hr
  have hlk:=hlk' w2 (Gr.refl _)
  have HXX:=hid (show X=({ ans0 with run:=r.f.run,status:=z0B r.f.l,data:=z4K r.f },some E) from by rw [← HX.o];unfold doE;simp [z1Z,HFE.o,HRQ.o])
  have hFOK:=(HE.o.get hr).1
  have hlen:=hFOK.len
  have hne:r.f.l≠[]:=hFOK.ne
  clear hlk' hr hP
  go_upto_region 15 with fail
  have HQ9:=hid (heap_alloc_new w2 (.cells #[.pointer (some ⟨kf,0,none⟩),.int .i64 r.pf,.int .i64 r.pr] 109))
  have G9:=hid ((Gr.refl w2).alloc (.cells #[.pointer (some ⟨kf,0,none⟩),.int .i64 r.pf,.int .i64 r.pr] 109))
  obtain ⟨w3,hw3⟩:∃ w3,w2.alloc (.cells #[.pointer (some ⟨kf,0,none⟩),.int .i64 r.pf,.int .i64 r.pr] 109)=w3:=⟨_,rfl⟩
  have HQ:=hid (show w3.heap[w2.heap.size]?=some (.cells #[.pointer (some ⟨kf,0,none⟩),.int .i64 r.pf,.int .i64 r.pr] 109) from by rw [← hw3];exact HQ9.o)
  rw [hw3] at G9 ⊢
  clear hw3 HQ9
  generalize hq9:w2.heap.size=q9 at *
  have HN9:=hid hq9
  clear hq9
  have G3:=hid (G2.o.trans G9.o)
  clear p0 a0 a1 a2 a3 a4 a5 a6 a7 a8 a9
  have p0:w3.cell? ⟨w.heap.size,0,none⟩=some (.pointer (some ⟨k,0,none⟩)):=by
   have:=(G3.o.block _ l0).trans HB0.o
   simp [World.cell?,this]
  obtain ⟨a0,a1,a2,a3,a4,a5,a6,a7,a8,a9⟩:=z04 ((G3.o.block _ l1).trans HB1.o)
  have m0:=Nat.lt_of_lt_of_le l0 G3.o.size
  have m1:=Nat.lt_of_lt_of_le l1 G3.o.size
  obtain ⟨u0,u1,u2⟩:=z0o HQ.o
  have ul:=block_lt HQ.o
  have hq4:w.heap.size+1+1<q9:=by
   have:=G2.o.size
   have:=HN9.o
   omega
  have hI:=fun (W:World) (m:Mod (fun b=>b=w.heap.size+1+1) w3 W)=>(hf.up (Gr.up G9.o (fun b=>M b∨b=w.heap.size+1+1))).up (Mod.up m (fun _ _ e=>.inr e):Up (fun b=>M b∨b=w.heap.size+1+1) w3 (fun b=>M b∨b=w.heap.size+1+1) W)
  have HRUN:=hid (show ∀ (W:World),Mod (fun b=>b=w.heap.size+1+1) w3 W→Calls Tryz.prog 63 #[.pointer (some ⟨kf,0,none⟩)] W (RetE (.int .i64 r.f.run) W) from fun W m=>by
   obtain ⟨_,mb,_,h⟩:=hI W m
   exact z2S kf mb r.f _ W h)
  have HST:=hid (show ∀ (W:World),Mod (fun b=>b=w.heap.size+1+1) w3 W→Calls Tryz.prog 65 #[.pointer (some ⟨kf,0,none⟩)] W (RetE (.int .i64 (z0B r.f.l)) W) from fun W m=>by
   obtain ⟨_,mb,_,h⟩:=hI W m
   exact z2w kf mb r.f _ W h (by omega))
  have HRS:=hid (show ∀ (W:World),Mod (fun b=>b=w.heap.size+1+1) w3 W→Calls Tryz.prog 66 #[.pointer (some ⟨kf,0,none⟩)] W (RetB (z4K r.f) W) from fun W m=>by
   obtain ⟨_,mb,_,h⟩:=hI W m
   exact zaT kf mb r.f _ W h (by omega) hne)
  generalize z0B r.f.l=st at *
  generalize z4K r.f=rd at *
  generalize r.f.run=rn at *
  generalize r.pf=pf at *
  generalize r.pr=pr at *
  clear hI hf hlen hne hFOK HRQ
  have HQQ:=hid (show ∀ W,Mod (fun b=>b=w.heap.size+1+1) w3 W→W.cell? ⟨q9,0,none⟩=some (.pointer (some ⟨kf,0,none⟩))∧q9<W.heap.size from fun W m=>by
   have:=(m.block q9 ul (by show ¬ q9=w.heap.size+1+1;omega)).trans HQ.o
   exact ⟨(z0o this).1,block_lt this⟩)
  have HCC:=hid (show ∀ W,Mod (fun b=>b=w.heap.size+1+1) w3 W→W.cell? ⟨w.heap.size+1,3,none⟩=some (.int .i64 cn)∧w.heap.size+1<W.heap.size from fun W m=>by
   have:=(m.block _ m1 (by show ¬ w.heap.size+1=w.heap.size+1+1;omega)).trans ((G3.o.block _ l1).trans HB1.o)
   exact ⟨(z04 this).2.2.2.1,block_lt this⟩)
  go_upto_region 19 with fail
  refine z01 [(0,false),(1,false),(3,false),(4,false),(6,false),(7,false),(2,true),(5,true),(8,true),(9,false),(10,true),(11,true)] (fun W=>Mod (fun b=>b=w.heap.size+1+1) w3 W) (by kernel_rfl) (by kernel_rfl) (fun _ _ d _ _ h=>by cases d<;>exact h) ((Gr.refl w3).drew.mod _) (fun _=>?_)
  iterate 6 (refine z03 (v:=?_) rfl (by rfl) ?_ ?_;rotate_left;(focus (intro W9 hW9;obtain ⟨q0,ql⟩:=HQQ.o W9 hW9;obtain ⟨n0,nl⟩:=HCC.o W9 hW9;go_simp;(try with_reducible rfl);done));(try simp only [AP]))
  refine z05 rfl (by rfl) (fun K hK=>?_)
  go_simp
  go_at_call 63
  refine (HRUN.o _ ((Gr.refl w3).drew.mod _)).mono ?_
  rintro en _ ⟨rfl,y5,rfl⟩
  have G5:=hid ((Gr.refl w3).drew.ext y5)
  refine hK.o (fun W=>Mod (fun b=>b=w.heap.size+1+1) w3 W) _ _ (G5.o.mod _) (fun W h=>h) (fun _=>?_)
  clear hK K
  (try simp only [AP])
  refine z05 rfl (by rfl) (fun K hK=>?_)
  go_simp
  go_at_call 65
  refine (HST.o _ (G5.o.mod _)).mono ?_
  rintro en _ ⟨rfl,y6,rfl⟩
  have G6:=hid (G5.o.ext y6)
  refine hK.o (fun W=>Mod (fun b=>b=w.heap.size+1+1) w3 W) _ _ (G6.o.mod _) (fun W h=>h) (fun _=>?_)
  clear hK K
  (try simp only [AP])
  refine z05 rfl (by rfl) (fun K hK=>?_)
  go_simp
  go_at_call 66
  refine (HRS.o _ (G6.o.mod _)).mono ?_
  rintro en _ ⟨A7,c7,y7,rfl,rfl,hl7,ho7⟩
  have G7:=hid (G6.o.ext y7)
  have HD7:=hid (RetB.m (M:=(fun b=>M b∨b=w.heap.size+1+1)) ho7 hl7 (fun b e=>Nat.lt_of_lt_of_le ((HM1.o.gr G3.o).lt.1 b e) G6.o.size))
  clear hl7 ho7
  generalize rd.length=rdl at *
  refine hK.o (fun W=>Mod (fun b=>b=w.heap.size+1+1) w3 W) _ _ (G7.o.mod _) (fun W h=>h) (fun _=>?_)
  clear hK K
  (try simp only [AP])
  have G37:=hid (G3.o.trans G7.o)
  have r4:=(G37.o.block _ l2).trans HB2.o
  obtain ⟨b0,b1,b2,b3,b4,b5,b6,b7,b8,b9⟩:=z04 r4
  have l4:=block_lt r4
  obtain ⟨f0,f1,f2,f3,f4,f5,f6,f7,f8,f9⟩:=FZ r4
  have R4:=hid r4
  clear r4
  have HF:=hid (show ∀ w3,Mod (fun x=>x=w.heap.size+1+1) y7.val w3→RetF M S k X w (.returned (.tuple #[ansV { ans0 with run:=rn,status:=st,data:=rd } (.slice A7 rdl c7) (.slice none 0 0),.bool false])) w3 from fun w3 m=>by
   rw [HXX.o]
   have hd:BysM y7.val (fun b=>M b∨b=w.heap.size+1+1) (.slice A7 rdl c7) ({ ans0 with run:=rn,status:=st,data:=rd }:Ans).data:=HD7.o
   have he:z08 evR y7.val (fun b=>M b∨b=w.heap.size+1+1) (.slice none 0 0) ({ ans0 with run:=rn,status:=st,data:=rd }:Ans).events:=z08.none _ _ _
   exact ⟨(.slice A7 rdl c7),(.slice none 0 0),_,S,rfl,z0F HS.o G1.o (by omega) l2 (HM1.o.gr G37.o) ((z0j.refl w1 _ S).gr G37.o) hd he m⟩)
  iterate 1 (refine z03 (v:=?_) rfl (by rfl) ?_ ?_;rotate_left;(focus (intro W9 hW9;(try dsimp only at hW9);go_simp;(try with_reducible rfl);done));(try simp only [AP]))
  refine z05 rfl (by rfl) (fun K hK=>?_)
  go_simp
  refine hK.o (fun W=>Mod (fun b=>b=w.heap.size+1+1) w3 W) _ _ ((G7.o.mod _).trans (z1f y7.val (w.heap.size+1+1) _ _ _ _ _ _ _ _ _ _) (fun _ _ e=>e)) (fun W h=>h) (fun _=>?_)
  clear hK K
  (try simp only [AP])
  refine z06 rfl (by rfl) (fun K hK=>?_)
  go_simp
  refine hK.o _ _ ?_
  clear hK K
  go_wp2_with fail
  refine bodyPost_ret (v:=.tuple #[ansV { ans0 with run:=rn,status:=st,data:=rd } (.slice A7 rdl c7) (.slice none 0 0),.bool false]) (by simp [results,Tryz.results33,go_sem,ansV,ansC,ans0,tok0,b0,b1,b2,b3,b4,b5,b6,b7,b8,b9]) rfl ?_
  refine HF.o _ ?_
  exact z1f y7.val (w.heap.size+1+1) _ _ _ _ _ _ _ _ _ _
set_option maxHeartbeats 8000000 in
theorem do_6 (_:z0e) (k:Nat) (E:ES) (c:Call) (d l:Value) (M S:Bl) (w:World) (h:EngR w M S k E) (hE:EOk E) (_:E.due.length≤998000) (hc:z0P w M c d l) (hkind:c.kind=6) (hn:0≤c.n∧c.n≤1048576) :
  Calls Tryz.prog 33 #[.pointer (some ⟨k,0,none⟩),z0E c d l] w (RetF M S k (doE (z09 E.groups) E c) w):=by
 obtain ⟨Ad,cd,rfl⟩:=hc.1.shape
 obtain ⟨Al,cl,rfl,_⟩:=hc.2.shape
 have HLT:=hid h.lt
 have hks:k<w.heap.size:=h.lt.1 k (h.lt.2.1 k h.lt.2.2)
 have HE:=hid hE
 obtain ⟨w1,hw1,g1,hb0,hb1,hb2⟩:=z4R w (.cells #[.pointer (some ⟨k,0,none⟩)] 24) (.cells #[.int .i64 c.kind,.int .i64 c.flow,.int .i64 c.list,.int .i64 c.n,.int .i64 c.tok.flow,.int .i64 c.tok.run,.int .i64 c.tok.event,.int .i64 c.tok.turn,.slice Ad c.data.length cd,.slice Al c.l.length cl] 35) (.cells #[.int .i64 0,.int .i64 0,.int .i64 0,.bool false,.int .i64 0,.int .i64 0,.int .i64 0,.int .i64 0,.slice none 0 0,.slice none 0 0] 31)
 have G1:=hid g1
 have HB0:=hid hb0
 have HB1:=hid hb1
 have HB2:=hid hb2
 have HM1:=hid (show EngR w1 (fun b=>M b∨b=w.heap.size+1+1) S k E from h.more g1 (by omega) (block_lt hb2))
 have HCM:=hid (hc.up (⟨g1.mod M,fun b hb e=>by
  rcases e with e | e
  ·exact e
  ·omega⟩:Up M w (fun b=>M b∨b=w.heap.size+1+1) w1))
 have NS:=hid (show ∀ b,w.heap.size≤b→¬ S b from fun b hb e=>by have:=h.lt.1 b (h.lt.2.1 b e);omega)
 have HS:=hid (show ∀ b,S b→b<w.heap.size from fun b e=>h.lt.1 b (h.lt.2.1 b e))
 have HFLOW:=hid (fun W=>z3l c (.slice Ad c.data.length cd) (.slice Al c.l.length cl) W ⟨⟨_,_,_,rfl⟩,_,_,_,rfl⟩)
 obtain ⟨fl,hfl⟩:∃ fl,z16 c=fl:=⟨_,rfl⟩
 rw [hfl] at HFLOW
 have HFE:=hid hfl
 clear hfl
 have HNN:=hid hn
 clear hn
 obtain ⟨X,hX⟩:∃ X,doE (z09 E.groups) E c=X:=⟨_,rfl⟩
 rw [hX]
 have HX:=hid hX
 clear hX hc hE h g1 hb0 hb1 hb2
 rcases c with ⟨ck,cf,cli,cn,⟨tf,tr,te,tt⟩,cdat,cls⟩
 simp only at hkind
 subst hkind
 simp only [z0E,z1U] at *
 generalize hdl:cdat.length=dl at *
 generalize hll:cls.length=ll at *
 have HDL:=hid hdl
 have HW1:=hid hw1
 clear hw1 hdl hll
 have p0:w1.cell? ⟨w.heap.size,0,none⟩=some (.pointer (some ⟨k,0,none⟩)):=by simp [World.cell?,HB0.o]
 obtain ⟨a0,a1,a2,a3,a4,a5,a6,a7,a8,a9⟩:=z04 HB1.o
 have l0:=block_lt HB0.o
 have l1:=block_lt HB1.o
 have l2:=block_lt HB2.o
 go_enter Tryz.func33,Tryz.ntmps33
 go_upto_region 1 with fail
 rw [HW1.o]
 go_upto_region 14 with (go_at_call 64;refine (HFLOW.o _).mono ?_;rintro en _ ⟨rfl,y1,rfl⟩)
 obtain ⟨w2,hw2⟩:∃ w2,y1.val=w2:=⟨_,rfl⟩
 have G2:=hid (show Gr w1 w2 from hw2▸y1.gr)
 rw [hw2]
 clear hw2 y1
 clear p0 a0 a1 a2 a3 a4 a5 a6 a7 a8 a9
 have p0:w2.cell? ⟨w.heap.size,0,none⟩=some (.pointer (some ⟨k,0,none⟩)):=by
  have:=(G2.o.block _ l0).trans HB0.o
  simp [World.cell?,this]
 obtain ⟨a0,a1,a2,a3,a4,a5,a6,a7,a8,a9⟩:=z04 ((G2.o.block _ l1).trans HB1.o)
 have m0:=Nat.lt_of_lt_of_le l0 G2.o.size
 have m1:=Nat.lt_of_lt_of_le l1 G2.o.size
 obtain ⟨kd,ka,md,ma,mr,kh,hv,hP⟩:=HM1.o.gr G2.o
 obtain ⟨_,_,_,_,_,f5,_,hk2⟩:=hP.cells
 have HP:=hid hP
 rcases hP.look fl true with ⟨hn,hlk'⟩ | ⟨r,kf,hr,hf,hlk'⟩
 ·simp only [if_true] at hlk'
  have HRQ:=hid hn
  have hlk:=hlk' w2 (Gr.refl _)
  have HXX:=hid (show X=(z0b 2,some E) from by rw [← HX.o];unfold doE;simp [z1Z,HFE.o,HRQ.o])
  clear hlk' hn hP
  go_upto_region 15 with fail
  have HQ9:=hid (heap_alloc_new w2 (.cells #[.pointer none,.int .i64 0,.int .i64 0] 109))
  have G9:=hid ((Gr.refl w2).alloc (.cells #[.pointer none,.int .i64 0,.int .i64 0] 109))
  obtain ⟨w3,hw3⟩:∃ w3,w2.alloc (.cells #[.pointer none,.int .i64 0,.int .i64 0] 109)=w3:=⟨_,rfl⟩
  have HQ:=hid (show w3.heap[w2.heap.size]?=some (.cells #[.pointer none,.int .i64 0,.int .i64 0] 109) from by rw [← hw3];exact HQ9.o)
  rw [hw3] at G9 ⊢
  clear hw3 HQ9
  generalize hq9:w2.heap.size=q9 at *
  have HN9:=hid hq9
  clear hq9
  have G3:=hid (G2.o.trans G9.o)
  clear p0 a0 a1 a2 a3 a4 a5 a6 a7 a8 a9
  have p0:w3.cell? ⟨w.heap.size,0,none⟩=some (.pointer (some ⟨k,0,none⟩)):=by
   have:=(G3.o.block _ l0).trans HB0.o
   simp [World.cell?,this]
  obtain ⟨a0,a1,a2,a3,a4,a5,a6,a7,a8,a9⟩:=z04 ((G3.o.block _ l1).trans HB1.o)
  have m0:=Nat.lt_of_lt_of_le l0 G3.o.size
  have m1:=Nat.lt_of_lt_of_le l1 G3.o.size
  obtain ⟨u0,u1,u2⟩:=z0o HQ.o
  have ul:=block_lt HQ.o
  have HFL:=hid (fun W=>z0R 2 W)
  go_wp2_with (go_at_call 32;refine (HFL.o _).mono ?_;rintro en _ ⟨rfl,y2,rfl⟩;(have G4:=hid (G3.o.trans y2.gr));(have r4:=(G4.o.block _ l2).trans HB2.o);(obtain ⟨b0,b1,b2,b3,b4,b5,b6,b7,b8,b9⟩:=z04 r4);(have l4:=block_lt r4);(obtain ⟨f0,f1,f2,f3,f4,f5,f6,f7,f8,f9⟩:=FZ r4))
  have HF:=hid (show ∀ w3,Mod (fun x=>x=w.heap.size+1+1) y2.val w3→RetF M S k X w (.returned (.tuple #[ansV (z0b 2) (.slice none 0 0) (.slice none 0 0),.bool false])) w3 from fun w3 m=>by
   rw [HXX.o]
   have hd:BysM y2.val (fun b=>M b∨b=w.heap.size+1+1) (.slice none 0 0) (z0b 2).data:=BysM.none _ _
   have he:z08 evR y2.val (fun b=>M b∨b=w.heap.size+1+1) (.slice none 0 0) (z0b 2).events:=z08.none _ _ _
   exact ⟨.slice none 0 0,.slice none 0 0,_,S,rfl,z0F HS.o G1.o (by omega) l2 (HM1.o.gr G4.o) ((z0j.refl w1 _ S).gr G4.o) hd he m⟩)
  clear r4
  refine bodyPost_ret (v:=.tuple #[ansV (z0b 2) (.slice none 0 0) (.slice none 0 0),.bool false]) (by simp [results,Tryz.results33,go_sem,ansV,ansC,z0b,ans0,tok0,b0,b1,b2,b3,b4,b5,b6,b7,b8,b9]) rfl ?_
  refine HF.o _ ?_
  exact z1f y2.val (w.heap.size+1+1) _ _ _ _ _ _ _ _ _ _
 ·simp only [if_true,runV] at hlk'
  have HRQ:=hid hr
  have hlk:=hlk' w2 (Gr.refl _)
  have HXX:=hid (show X=({ ans0 with run:=r.f.run,events:=z15 r.f cn },some E) from by rw [← HX.o];unfold doE;simp [z1Z,HFE.o,HRQ.o])
  have hFOK:=(HE.o.get hr).1
  have hlen:=hFOK.len
  have hne:r.f.l≠[]:=hFOK.ne
  clear hlk' hr hP
  go_upto_region 15 with fail
  have HQ9:=hid (heap_alloc_new w2 (.cells #[.pointer (some ⟨kf,0,none⟩),.int .i64 r.pf,.int .i64 r.pr] 109))
  have G9:=hid ((Gr.refl w2).alloc (.cells #[.pointer (some ⟨kf,0,none⟩),.int .i64 r.pf,.int .i64 r.pr] 109))
  obtain ⟨w3,hw3⟩:∃ w3,w2.alloc (.cells #[.pointer (some ⟨kf,0,none⟩),.int .i64 r.pf,.int .i64 r.pr] 109)=w3:=⟨_,rfl⟩
  have HQ:=hid (show w3.heap[w2.heap.size]?=some (.cells #[.pointer (some ⟨kf,0,none⟩),.int .i64 r.pf,.int .i64 r.pr] 109) from by rw [← hw3];exact HQ9.o)
  rw [hw3] at G9 ⊢
  clear hw3 HQ9
  generalize hq9:w2.heap.size=q9 at *
  have HN9:=hid hq9
  clear hq9
  have G3:=hid (G2.o.trans G9.o)
  clear p0 a0 a1 a2 a3 a4 a5 a6 a7 a8 a9
  have p0:w3.cell? ⟨w.heap.size,0,none⟩=some (.pointer (some ⟨k,0,none⟩)):=by
   have:=(G3.o.block _ l0).trans HB0.o
   simp [World.cell?,this]
  obtain ⟨a0,a1,a2,a3,a4,a5,a6,a7,a8,a9⟩:=z04 ((G3.o.block _ l1).trans HB1.o)
  have m0:=Nat.lt_of_lt_of_le l0 G3.o.size
  have m1:=Nat.lt_of_lt_of_le l1 G3.o.size
  obtain ⟨u0,u1,u2⟩:=z0o HQ.o
  have ul:=block_lt HQ.o
  have hq4:w.heap.size+1+1<q9:=by
   have:=G2.o.size
   have:=HN9.o
   omega
  have hI:=fun (W:World) (m:Mod (fun b=>b=w.heap.size+1+1) w3 W)=>(hf.up (Gr.up G9.o (fun b=>M b∨b=w.heap.size+1+1))).up (Mod.up m (fun _ _ e=>.inr e):Up (fun b=>M b∨b=w.heap.size+1+1) w3 (fun b=>M b∨b=w.heap.size+1+1) W)
  have HRUN:=hid (show ∀ (W:World),Mod (fun b=>b=w.heap.size+1+1) w3 W→Calls Tryz.prog 63 #[.pointer (some ⟨kf,0,none⟩)] W (RetE (.int .i64 r.f.run) W) from fun W m=>by
   obtain ⟨_,mb,_,h⟩:=hI W m
   exact z2S kf mb r.f _ W h)
  have hml:∀ W,Mod (fun b=>b=w.heap.size+1+1) w3 W→∀ b,(fun b=>M b∨b=w.heap.size+1+1) b→b<W.heap.size:=fun W m b e=>Nat.lt_of_lt_of_le ((HM1.o.gr G3.o).lt.1 b e) m.size
  have HEV:=hid (show ∀ (W:World),Mod (fun b=>b=w.heap.size+1+1) w3 W→Calls Tryz.prog 67 #[.pointer (some ⟨kf,0,none⟩),.int .i64 cn] W (fun e w'=>∃ A c,e=.returned (.slice A (z15 r.f cn).length c)∧Gr W w'∧z08 evR w' (fun b=>M b∨b=w.heap.size+1+1) (.slice A (z15 r.f cn).length c) (z15 r.f cn)) from fun W m=>by
   obtain ⟨_,mb,_,h⟩:=hI W m
   have hn:=HNN.o
   try simp only at hn
   exact z4e kf mb r.f _ cn W h (by omega) hne (hml W m) ⟨by omega,by omega⟩)
  generalize z15 r.f cn=re at *
  generalize r.f.run=rn at *
  generalize r.pf=pf at *
  generalize r.pr=pr at *
  clear hI hf hlen hne hFOK HRQ
  have HQQ:=hid (show ∀ W,Mod (fun b=>b=w.heap.size+1+1) w3 W→W.cell? ⟨q9,0,none⟩=some (.pointer (some ⟨kf,0,none⟩))∧q9<W.heap.size from fun W m=>by
   have:=(m.block q9 ul (by show ¬ q9=w.heap.size+1+1;omega)).trans HQ.o
   exact ⟨(z0o this).1,block_lt this⟩)
  have HCC:=hid (show ∀ W,Mod (fun b=>b=w.heap.size+1+1) w3 W→W.cell? ⟨w.heap.size+1,3,none⟩=some (.int .i64 cn)∧w.heap.size+1<W.heap.size from fun W m=>by
   have:=(m.block _ m1 (by show ¬ w.heap.size+1=w.heap.size+1+1;omega)).trans ((G3.o.block _ l1).trans HB1.o)
   exact ⟨(z04 this).2.2.2.1,block_lt this⟩)
  go_upto_region 21 with fail
  refine z01 [(0,false),(1,false),(3,false),(4,false),(5,false),(6,false),(2,true),(7,true),(8,false),(9,true),(10,true)] (fun W=>Mod (fun b=>b=w.heap.size+1+1) w3 W) (by kernel_rfl) (by kernel_rfl) (fun _ _ d _ _ h=>by cases d<;>exact h) ((Gr.refl w3).drew.mod _) (fun _=>?_)
  iterate 6 (refine z03 (v:=?_) rfl (by rfl) ?_ ?_;rotate_left;(focus (intro W9 hW9;obtain ⟨q0,ql⟩:=HQQ.o W9 hW9;obtain ⟨n0,nl⟩:=HCC.o W9 hW9;go_simp;(try with_reducible rfl);done));(try simp only [AP]))
  refine z05 rfl (by rfl) (fun K hK=>?_)
  go_simp
  go_at_call 63
  refine (HRUN.o _ ((Gr.refl w3).drew.mod _)).mono ?_
  rintro en _ ⟨rfl,y5,rfl⟩
  have G5:=hid ((Gr.refl w3).drew.ext y5)
  refine hK.o (fun W=>Mod (fun b=>b=w.heap.size+1+1) w3 W) _ _ (G5.o.mod _) (fun W h=>h) (fun _=>?_)
  clear hK K
  (try simp only [AP])
  refine z05 rfl (by rfl) (fun K hK=>?_)
  go_simp
  go_at_call 67
  refine (HEV.o _ (G5.o.mod _)).mono ?_
  rintro en w7 ⟨A7,c7,rfl,g7,hv7⟩
  have HV7:=hid hv7
  have G7:=hid (G5.o.trans g7)
  clear hv7 g7
  generalize re.length=rel at *
  refine hK.o (fun W=>Mod (fun b=>b=w.heap.size+1+1) w3 W) _ _ (G7.o.mod _) (fun W h=>h) (fun _=>?_)
  clear hK K
  (try simp only [AP])
  have G37:=hid (G3.o.trans G7.o)
  have r4:=(G37.o.block _ l2).trans HB2.o
  obtain ⟨b0,b1,b2,b3,b4,b5,b6,b7,b8,b9⟩:=z04 r4
  have l4:=block_lt r4
  obtain ⟨f0,f1,f2,f3,f4,f5,f6,f7,f8,f9⟩:=FZ r4
  have R4:=hid r4
  clear r4
  have HF:=hid (show ∀ w3,Mod (fun x=>x=w.heap.size+1+1) w7 w3→RetF M S k X w (.returned (.tuple #[ansV { ans0 with run:=rn,events:=re } (.slice none 0 0) (.slice A7 rel c7),.bool false])) w3 from fun w3 m=>by
   rw [HXX.o]
   have hd:BysM w7 (fun b=>M b∨b=w.heap.size+1+1) (.slice none 0 0) ({ ans0 with run:=rn,events:=re }:Ans).data:=BysM.none _ _
   have he:z08 evR w7 (fun b=>M b∨b=w.heap.size+1+1) (.slice A7 rel c7) ({ ans0 with run:=rn,events:=re }:Ans).events:=HV7.o
   exact ⟨(.slice none 0 0),(.slice A7 rel c7),_,S,rfl,z0F HS.o G1.o (by omega) l2 (HM1.o.gr G37.o) ((z0j.refl w1 _ S).gr G37.o) hd he m⟩)
  iterate 1 (refine z03 (v:=?_) rfl (by rfl) ?_ ?_;rotate_left;(focus (intro W9 hW9;(try dsimp only at hW9);go_simp;(try with_reducible rfl);done));(try simp only [AP]))
  refine z05 rfl (by rfl) (fun K hK=>?_)
  go_simp
  refine hK.o (fun W=>Mod (fun b=>b=w.heap.size+1+1) w3 W) _ _ ((G7.o.mod _).trans (z1f w7 (w.heap.size+1+1) _ _ _ _ _ _ _ _ _ _) (fun _ _ e=>e)) (fun W h=>h) (fun _=>?_)
  clear hK K
  (try simp only [AP])
  refine z06 rfl (by rfl) (fun K hK=>?_)
  go_simp
  refine hK.o _ _ ?_
  clear hK K
  go_wp2_with fail
  refine bodyPost_ret (v:=.tuple #[ansV { ans0 with run:=rn,events:=re } (.slice none 0 0) (.slice A7 rel c7),.bool false]) (by simp [results,Tryz.results33,go_sem,ansV,ansC,ans0,tok0,b0,b1,b2,b3,b4,b5,b6,b7,b8,b9]) rfl ?_
  refine HF.o _ ?_
  exact z1f w7 (w.heap.size+1+1) _ _ _ _ _ _ _ _ _ _
end Go.Proofs.YtniknicnnaiilaaGreat
end
