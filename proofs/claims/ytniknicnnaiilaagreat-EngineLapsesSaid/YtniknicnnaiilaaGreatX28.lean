/- Lemmas of the engine. -/
import Derived.Test.YtniknicnnaiilaaGreatX27
section
namespace Go.Proofs.YtniknicnnaiilaaGreat
set_option maxRecDepth 100000
open Go.RowKit Go.Ext Go.BigFrame Go.Maps Go.MapKept
attribute [local go_sem] Ext.cell Ext.frozen Ext.lt Ext.le s1 s2 s3 s4 s5 s6 t1 t2 t3 t4 t5 t6
attribute [local go_sem ↓] Go.wp_at_zero Go.wp_at_succ
set_option maxHeartbeats 8000000 in
theorem do_8 (PUT:z0e) (k:Nat) (E:ES) (c:Call) (d l:Value) (M S:Bl) (w:World) (h:EngR w M S k E) (hE:EOk E) (hdue:E.due.length≤998000) (hc:z0P w M c d l) (hkind:c.kind=8) (hnear:E.groups=1∧E.shard=0∧c.l.length≤100000) :
  Calls Tryz.prog 33 #[.pointer (some ⟨k,0,none⟩),z0E c d l] w (RetF M S k (doE (z09 E.groups) E c) w):=by
 obtain ⟨Ad,cd,rfl⟩:=hc.1.shape
 obtain ⟨Al,cl,rfl,_⟩:=hc.2.shape
 have HLT:=hid h.lt
 have hks:k<w.heap.size:=h.lt.1 k (h.lt.2.1 k h.lt.2.2)
 have HE:=hid hE
 obtain ⟨w1,hw1,g1,hb0,hb1,hb2⟩:=z4R w (.cells #[.pointer (some ⟨k,0,none⟩)] 24) (.cells #[.int .i64 c.kind,.int .i64 c.flow,.int .i64 c.list,.int .i64 c.n,.int .i64 c.tok.flow,.int .i64 c.tok.run,.int .i64 c.tok.event,.int .i64 c.tok.turn,.slice Ad c.data.length cd,.slice Al c.l.length cl] 35) (.cells #[.int .i64 0,.int .i64 0,.int .i64 0,.bool false,.int .i64 0,.int .i64 0,.int .i64 0,.int .i64 0,.slice none 0 0,.slice none 0 0] 31)
 have G1:=hid g1
 have HB0:=hid hb0
 have HB1:=hid hb1
 have HB2:=hid hb2
 have HM1:=hid (show EngR w1 (fun b=>M b∨b=w.heap.size+1+1) S k E from h.more g1 (by omega) (block_lt hb2))
 have HCM:=hid (hc.up (⟨g1.mod M,fun b hb e=>by
  rcases e with e | e
  ·exact e
  ·omega⟩:Up M w (fun b=>M b∨b=w.heap.size+1+1) w1))
 have NS:=hid (show ∀ b,w.heap.size≤b→¬ S b from fun b hb e=>by have:=h.lt.1 b (h.lt.2.1 b e);omega)
 have HS:=hid (show ∀ b,S b→b<w.heap.size from fun b e=>h.lt.1 b (h.lt.2.1 b e))
 have HFLOW:=hid (fun W=>z3l c (.slice Ad c.data.length cd) (.slice Al c.l.length cl) W ⟨⟨_,_,_,rfl⟩,_,_,_,rfl⟩)
 obtain ⟨fl,hfl⟩:∃ fl,z16 c=fl:=⟨_,rfl⟩
 rw [hfl] at HFLOW
 have HFE:=hid hfl
 clear hfl
 have HNEAR:=hid hnear
 clear hnear
 have HCHG:=hid (fun (w3:World) (g3:Gr w1 w3) (r:RunS) (hr:lk E.runs fl=some r)=>z5h PUT (.pointer (some ⟨w.heap.size,0,none⟩)) (.pointer (some ⟨w.heap.size+1,0,none⟩)) k E fl (askE (z09 E.groups) E c) (fun b=>M b∨b=w.heap.size+1+1) S (fun _=>False) (fun _=>True) w3 (HM1.o.gr g3) hE hdue r hr (z3Y _ _ _) (z5t _ _ _) (fun _ e=>e.elim) (fun W M' k' g hMM hMo hff hlt hkM hlo=>by
  obtain ⟨kd,ka,md,ma,mr,kh,hv,hP⟩:=HM1.o.gr (g3.trans g)
  have hks':k<w3.heap.size:=Nat.lt_of_lt_of_le hks (Nat.le_trans G1.o.size g3.size)
  have he:=((g3.trans g).block _ (block_lt HB0.o)).trans HB0.o
  have hpc:=((g3.trans g).block _ (block_lt HB1.o)).trans HB1.o
  have hcm:z0P W M' c (.slice Ad c.data.length cd) (.slice Al c.l.length cl):=HCM.o.up ⟨(g3.trans g).mod _,fun b hb e=>hMo b (Nat.lt_of_lt_of_le hb g3.size) e⟩
  refine (z8I PUT w.heap.size (w.heap.size+1) k k' kd ka mr kh E c _ _ r.f M' W hP.cell hff hlt hkM (by omega) (HE.o.get hr).1 hcm (fun _=>HNEAR.o) he hpc).mono ?_
  intro en W' hh
  obtain ⟨A,c',h1,h2,h3,h4⟩:=hh
  exact ⟨A,c',h1,h2,h3,h4.mono (fun _ _ e=>.inl e),trivial⟩))
 obtain ⟨X,hX⟩:∃ X,doE (z09 E.groups) E c=X:=⟨_,rfl⟩
 rw [hX]
 have HX:=hid hX
 clear hX hc hE hdue h g1 hb0 hb1 hb2
 rcases c with ⟨ck,cf,cli,cn,⟨tf,tr,te,tt⟩,cdat,cls⟩
 simp only at hkind
 subst hkind
 simp only [z0E,z1U] at *
 generalize hdl:cdat.length=dl at *
 generalize hll:cls.length=ll at *
 have HDL:=hid hdl
 have HW1:=hid hw1
 clear hw1 hdl hll
 have p0:w1.cell? ⟨w.heap.size,0,none⟩=some (.pointer (some ⟨k,0,none⟩)):=by simp [World.cell?,HB0.o]
 obtain ⟨a0,a1,a2,a3,a4,a5,a6,a7,a8,a9⟩:=z04 HB1.o
 have l0:=block_lt HB0.o
 have l1:=block_lt HB1.o
 have l2:=block_lt HB2.o
 go_enter Tryz.func33,Tryz.ntmps33
 go_upto_region 1 with fail
 rw [HW1.o]
 obtain ⟨kd,ka,md,ma,mr,kh,hv,hP⟩:=HM1.o
 obtain ⟨_,_,_,_,_,f5,_,hk2⟩:=hP.cells
 rcases hP.look tf true with ⟨hn,hlk'⟩ | ⟨r0,kf0,hr,hf,hlk'⟩
 ·simp only [if_true] at hlk'
  have hlk:=fun (y:Ext w1)=>hlk' y.val y.gr
  have HXX:=hid (show X=(z0b 21,some E) from by rw [← HX.o];unfold doE z1Z;simp [hn])
  clear hlk' hn hP
  go_upto_region 10 with fail
  refine z01 [(0,false),(1,false),(2,false),(3,false),(4,false),(5,false),(6,false),(7,false),(8,false),(9,false),(10,false),(11,true),(12,true),(13,true)] (fun W=>Gr w1 W) (by kernel_rfl) (by kernel_rfl) (fun _ _ d _ _ h=>by cases d<;>exact h) (Gr.refl w1).drew (fun _=>?_)
  iterate 11 (refine z03 (v:=?_) rfl (by rfl) ?_ ?_;rotate_left;(focus (intro W9 hW9;obtain ⟨x9,rfl⟩:∃ x:Ext w1,W9=x.val:=⟨⟨W9,hW9⟩,rfl⟩;go_simp;(try with_reducible rfl);done));(try simp only [AP]))
  refine z05 rfl (by rfl) (fun K hK=>?_)
  go_simp
  refine hK.o (fun W=>Gr w1 W) _ _ ?_ (fun W h=>h) (fun _=>?_)
  ·exact ((Gr.refl w1).alloc _).drew
  clear hK K
  (try simp only [AP])
  refine z05 rfl (by rfl) (fun K hK=>?_)
  go_simp
  refine hK.o (fun W=>Gr w1 W) _ _ ?_ (fun W h=>h) (fun _=>?_)
  ·exact ((Gr.refl w1).alloc _).drew
  clear hK K
  (try simp only [AP])
  refine z06 rfl (by rfl) (fun K hK=>?_)
  go_simp
  refine hK.o _ _ ?_
  clear hK K
  have HQ9:=hid (heap_alloc_new w1 (.cells #[.pointer none,.int .i64 0,.int .i64 0] 109))
  have GB:=hid ((Gr.refl w1).alloc (.cells #[.pointer none,.int .i64 0,.int .i64 0] 109)).drew
  obtain ⟨wb,hwb⟩:∃ wb,(w1.alloc (.cells #[.pointer none,.int .i64 0,.int .i64 0] 109)).drew=wb:=⟨_,rfl⟩
  have HQB:=hid (show wb.heap[w1.heap.size]?=some (.cells #[.pointer none,.int .i64 0,.int .i64 0] 109) from by rw [← hwb];exact HQ9.o)
  rw [hwb] at GB ⊢
  clear hwb HQ9
  obtain ⟨qb,hqb⟩:∃ qb,w1.heap.size=qb:=⟨_,rfl⟩
  rw [hqb] at HQB ⊢
  clear hqb
  clear p0 a0 a1 a2 a3 a4 a5 a6 a7 a8 a9
  have p0:wb.cell? ⟨w.heap.size,0,none⟩=some (.pointer (some ⟨k,0,none⟩)):=by
   have:=(GB.o.block _ l0).trans HB0.o
   simp [World.cell?,this]
  obtain ⟨a0,a1,a2,a3,a4,a5,a6,a7,a8,a9⟩:=z04 ((GB.o.block _ l1).trans HB1.o)
  have m0:=Nat.lt_of_lt_of_le l0 GB.o.size
  have m1:=Nat.lt_of_lt_of_le l1 GB.o.size
  obtain ⟨u0,u1,u2⟩:=z0o HQB.o
  have ul:=block_lt HQB.o
  go_upto_region 11 with fail
  refine z01 [(0,false),(1,false),(2,false),(3,false),(4,false),(6,false),(7,false),(8,false),(5,true),(9,false),(10,false),(11,false),(12,false),(13,false),(14,false),(15,false),(16,false),(17,false),(18,false),(19,false),(20,false),(21,true)] (fun W=>Gr wb W) (by kernel_rfl) (by kernel_rfl) (fun _ _ d _ _ h=>by cases d<;>exact h) (Gr.refl wb).drew (fun _=>?_)
  iterate 8 (first | (refine z03 (v:=?_) rfl (by rfl) ?_ ?_;rotate_left;(focus (intro W9 hW9;obtain ⟨x9,rfl⟩:∃ x:Ext wb,W9=x.val:=⟨⟨W9,hW9⟩,rfl⟩;go_simp;(try with_reducible rfl);done));(try simp only [AP])) | (refine z0i rfl (by rfl) ?_;(try simp only [AP])))
  refine z2z rfl (by rfl) ?_
  (try simp only [AP])
  iterate 12 (first | (refine z03 (v:=?_) rfl (by rfl) ?_ ?_;rotate_left;(focus (intro W9 hW9;obtain ⟨x9,rfl⟩:∃ x:Ext wb,W9=x.val:=⟨⟨W9,hW9⟩,rfl⟩;go_simp;(try with_reducible rfl);done));(try simp only [AP])) | (refine z0i rfl (by rfl) ?_;(try simp only [AP])))
  refine z06 rfl (by rfl) (fun K hK=>?_)
  go_simp
  refine hK.o _ _ ?_
  clear hK K
  have HFL:=hid (fun W=>z0R 21 W)
  go_wp2_with (go_at_call 32;refine (HFL.o _).mono ?_;rintro en _ ⟨rfl,y2,rfl⟩;(have G4:=hid ((GB.o.drew).trans y2.gr));(have r4:=(G4.o.block _ l2).trans HB2.o);(obtain ⟨b0,b1,b2,b3,b4,b5,b6,b7,b8,b9⟩:=z04 r4);(have l4:=block_lt r4);(obtain ⟨f0,f1,f2,f3,f4,f5,f6,f7,f8,f9⟩:=FZ r4))
  have HF:=hid (show ∀ w3,Mod (fun x=>x=w.heap.size+1+1) y2.val w3→RetF M S k X w (.returned (.tuple #[ansV (z0b 21) (.slice none 0 0) (.slice none 0 0),.bool false])) w3 from fun w3 m=>by
   rw [HXX.o]
   have hd:BysM y2.val (fun b=>M b∨b=w.heap.size+1+1) (.slice none 0 0) (z0b 21).data:=BysM.none _ _
   have he:z08 evR y2.val (fun b=>M b∨b=w.heap.size+1+1) (.slice none 0 0) (z0b 21).events:=z08.none _ _ _
   exact ⟨.slice none 0 0,.slice none 0 0,_,S,rfl,z0F HS.o G1.o (by omega) l2 (HM1.o.gr G4.o) ((z0j.refl w1 _ S).gr G4.o) hd he m⟩)
  clear r4
  refine bodyPost_ret (v:=.tuple #[ansV (z0b 21) (.slice none 0 0) (.slice none 0 0),.bool false]) (by simp [results,Tryz.results33,go_sem,ansV,ansC,z0b,ans0,tok0,b0,b1,b2,b3,b4,b5,b6,b7,b8,b9]) rfl ?_
  refine HF.o _ ?_
  exact z1f y2.val (w.heap.size+1+1) _ _ _ _ _ _ _ _ _ _
 ·simp only [if_true,runV] at hlk'
  have hlk:=fun (y:Ext w1)=>hlk' y.val y.gr
  have HRUN0:=hid hr
  have HFI:=hid hf
  clear hlk' hr hP hf
  go_upto_region 10 with fail
  refine z01 [(0,false),(1,false),(2,false),(3,false),(4,false),(5,false),(6,false),(7,false),(8,false),(9,false),(10,false),(11,true),(12,true),(13,true)] (fun W=>Gr w1 W) (by kernel_rfl) (by kernel_rfl) (fun _ _ d _ _ h=>by cases d<;>exact h) (Gr.refl w1).drew (fun _=>?_)
  iterate 11 (refine z03 (v:=?_) rfl (by rfl) ?_ ?_;rotate_left;(focus (intro W9 hW9;obtain ⟨x9,rfl⟩:∃ x:Ext w1,W9=x.val:=⟨⟨W9,hW9⟩,rfl⟩;go_simp;(try with_reducible rfl);done));(try simp only [AP]))
  refine z05 rfl (by rfl) (fun K hK=>?_)
  go_simp
  refine hK.o (fun W=>Gr w1 W) _ _ ?_ (fun W h=>h) (fun _=>?_)
  ·exact ((Gr.refl w1).alloc _).drew
  clear hK K
  (try simp only [AP])
  refine z05 rfl (by rfl) (fun K hK=>?_)
  go_simp
  refine hK.o (fun W=>Gr w1 W) _ _ ?_ (fun W h=>h) (fun _=>?_)
  ·exact ((Gr.refl w1).alloc _).drew
  clear hK K
  (try simp only [AP])
  refine z06 rfl (by rfl) (fun K hK=>?_)
  go_simp
  refine hK.o _ _ ?_
  clear hK K
  have HQ9:=hid (heap_alloc_new w1 (.cells #[.pointer (some ⟨kf0,0,none⟩),.int .i64 r0.pf,.int .i64 r0.pr] 109))
  have GB:=hid ((Gr.refl w1).alloc (.cells #[.pointer (some ⟨kf0,0,none⟩),.int .i64 r0.pf,.int .i64 r0.pr] 109)).drew
  obtain ⟨wb,hwb⟩:∃ wb,(w1.alloc (.cells #[.pointer (some ⟨kf0,0,none⟩),.int .i64 r0.pf,.int .i64 r0.pr] 109)).drew=wb:=⟨_,rfl⟩
  have HQB:=hid (show wb.heap[w1.heap.size]?=some (.cells #[.pointer (some ⟨kf0,0,none⟩),.int .i64 r0.pf,.int .i64 r0.pr] 109) from by rw [← hwb];exact HQ9.o)
  rw [hwb] at GB ⊢
  clear hwb HQ9
  obtain ⟨qb,hqb⟩:∃ qb,w1.heap.size=qb:=⟨_,rfl⟩
  rw [hqb] at HQB ⊢
  clear hqb
  clear p0 a0 a1 a2 a3 a4 a5 a6 a7 a8 a9
  have p0:wb.cell? ⟨w.heap.size,0,none⟩=some (.pointer (some ⟨k,0,none⟩)):=by
   have:=(GB.o.block _ l0).trans HB0.o
   simp [World.cell?,this]
  obtain ⟨a0,a1,a2,a3,a4,a5,a6,a7,a8,a9⟩:=z04 ((GB.o.block _ l1).trans HB1.o)
  have m0:=Nat.lt_of_lt_of_le l0 GB.o.size
  have m1:=Nat.lt_of_lt_of_le l1 GB.o.size
  obtain ⟨u0,u1,u2⟩:=z0o HQB.o
  have ul:=block_lt HQB.o
  go_upto_region 11 with fail
  have HRN:=hid (show ∀ W,Gr wb W→Calls Tryz.prog 63 #[.pointer (some ⟨kf0,0,none⟩)] W (RetE (.int .i64 r0.f.run) W) from fun W g=>by
   obtain ⟨_,mb,_,h⟩:=HFI.o
   exact z2S kf0 mb r0.f _ W (h.gr (GB.o.trans g)))
  have HRR:=hid (rfl:r0.f.run=r0.f.run)
  cases hrb:(r0.f.run != tr)
  ·have hre:r0.f.run=tr:=by simpa using hrb
   have HNS:=hid (show z1Z E ⟨8,cf,cli,cn,⟨tf,tr,te,tt⟩,cdat,cls⟩=false from by unfold z1Z;simp [HRUN0.o,hre])
   rw [hre] at HRN
   clear hre hrb
   refine z01 [(0,false),(1,false),(2,false),(3,false),(4,false),(6,false),(7,false),(8,false),(5,true),(9,false),(10,false),(11,false),(12,false),(13,false),(14,false),(15,false),(16,false),(17,false),(18,false),(19,false),(20,false),(21,true)] (fun W=>Gr wb W) (by kernel_rfl) (by kernel_rfl) (fun _ _ d _ _ h=>by cases d<;>exact h) (Gr.refl wb).drew (fun _=>?_)
   iterate 8 (first | (refine z03 (v:=?_) rfl (by rfl) ?_ ?_;rotate_left;(focus (intro W9 hW9;obtain ⟨x9,rfl⟩:∃ x:Ext wb,W9=x.val:=⟨⟨W9,hW9⟩,rfl⟩;go_simp;(try with_reducible rfl);done));(try simp only [AP])) | (refine z0i rfl (by rfl) ?_;(try simp only [AP])))
   refine z05 rfl (by rfl) (fun K hK=>?_)
   go_simp
   go_at_call 63
   refine (HRN.o _ (Gr.refl wb).drew).mono ?_
   rintro en _ ⟨rfl,y5,rfl⟩
   have G5:=hid ((Gr.refl wb).drew.ext y5)
   refine hK.o (fun W=>Gr wb W) _ _ G5.o (fun W h=>h) (fun _=>?_)
   clear hK K
   (try simp only [AP])
   iterate 12 (first | (refine z03 (v:=?_) rfl (by rfl) ?_ ?_;rotate_left;(focus (intro W9 hW9;obtain ⟨x9,rfl⟩:∃ x:Ext wb,W9=x.val:=⟨⟨W9,hW9⟩,rfl⟩;go_simp;(try with_reducible rfl);done));(try simp only [AP])) | (refine z0i rfl (by rfl) ?_;(try simp only [AP])))
   refine z06 rfl (by rfl) (fun K hK=>?_)
   go_simp
   refine hK.o _ _ ?_
   clear hK K
   have GX:=hid (GB.o.trans G5.o)
   clear u0 u1 u2 p0 a0 a1 a2 a3 a4 a5 a6 a7 a8 a9
   have p0:y5.val.cell? ⟨w.heap.size,0,none⟩=some (.pointer (some ⟨k,0,none⟩)):=by
    have:=(GX.o.block _ l0).trans HB0.o
    simp [World.cell?,this]
   obtain ⟨a0,a1,a2,a3,a4,a5,a6,a7,a8,a9⟩:=z04 ((GX.o.block _ l1).trans HB1.o)
   have m0:=Nat.lt_of_lt_of_le l0 GX.o.size
   have m1:=Nat.lt_of_lt_of_le l1 GX.o.size
   go_upto_region 14 with (go_at_call 64;refine (HFLOW.o _).mono ?_;rintro en _ ⟨rfl,y1,rfl⟩)
   obtain ⟨w2,hw2⟩:∃ w2,y1.val=w2:=⟨_,rfl⟩
   have G2:=hid (show Gr w1 w2 from hw2▸GX.o.trans y1.gr)
   rw [hw2]
   clear hw2 y1
   clear p0 a0 a1 a2 a3 a4 a5 a6 a7 a8 a9
   have p0:w2.cell? ⟨w.heap.size,0,none⟩=some (.pointer (some ⟨k,0,none⟩)):=by
    have:=(G2.o.block _ l0).trans HB0.o
    simp [World.cell?,this]
   obtain ⟨a0,a1,a2,a3,a4,a5,a6,a7,a8,a9⟩:=z04 ((G2.o.block _ l1).trans HB1.o)
   have m0:=Nat.lt_of_lt_of_le l0 G2.o.size
   have m1:=Nat.lt_of_lt_of_le l1 G2.o.size
   obtain ⟨kd,ka,md,ma,mr,kh,hv,hP⟩:=HM1.o.gr G2.o
   obtain ⟨_,_,_,_,_,f5,_,hk2⟩:=hP.cells
   have HP:=hid hP
   rcases hP.look fl true with ⟨hn,hlk'⟩ | ⟨r,kf,hr,hf,hlk'⟩
   ·simp only [if_true] at hlk'
    have HRQ:=hid hn
    have hlk:=hlk' w2 (Gr.refl _)
    have HXX:=hid (show X=(z0b 2,some E) from by rw [← HX.o];unfold doE;simp [HNS.o,HFE.o,HRQ.o])
    clear hlk' hn hP
    go_upto_region 15 with fail
    have HQ9:=hid (heap_alloc_new w2 (.cells #[.pointer none,.int .i64 0,.int .i64 0] 109))
    have G9:=hid ((Gr.refl w2).alloc (.cells #[.pointer none,.int .i64 0,.int .i64 0] 109))
    obtain ⟨w3,hw3⟩:∃ w3,w2.alloc (.cells #[.pointer none,.int .i64 0,.int .i64 0] 109)=w3:=⟨_,rfl⟩
    have HQ:=hid (show w3.heap[w2.heap.size]?=some (.cells #[.pointer none,.int .i64 0,.int .i64 0] 109) from by rw [← hw3];exact HQ9.o)
    rw [hw3] at G9 ⊢
    clear hw3 HQ9
    generalize hq9:w2.heap.size=q9 at *
    have HN9:=hid hq9
    clear hq9
    have G3:=hid (G2.o.trans G9.o)
    clear p0 a0 a1 a2 a3 a4 a5 a6 a7 a8 a9
    have p0:w3.cell? ⟨w.heap.size,0,none⟩=some (.pointer (some ⟨k,0,none⟩)):=by
     have:=(G3.o.block _ l0).trans HB0.o
     simp [World.cell?,this]
    obtain ⟨a0,a1,a2,a3,a4,a5,a6,a7,a8,a9⟩:=z04 ((G3.o.block _ l1).trans HB1.o)
    have m0:=Nat.lt_of_lt_of_le l0 G3.o.size
    have m1:=Nat.lt_of_lt_of_le l1 G3.o.size
    obtain ⟨u0,u1,u2⟩:=z0o HQ.o
    have ul:=block_lt HQ.o
    have HFL:=hid (fun W=>z0R 2 W)
    go_wp2_with (go_at_call 32;refine (HFL.o _).mono ?_;rintro en _ ⟨rfl,y2,rfl⟩;(have G4:=hid (G3.o.trans y2.gr));(have r4:=(G4.o.block _ l2).trans HB2.o);(obtain ⟨b0,b1,b2,b3,b4,b5,b6,b7,b8,b9⟩:=z04 r4);(have l4:=block_lt r4);(obtain ⟨f0,f1,f2,f3,f4,f5,f6,f7,f8,f9⟩:=FZ r4))
    have HF:=hid (show ∀ w3,Mod (fun x=>x=w.heap.size+1+1) y2.val w3→RetF M S k X w (.returned (.tuple #[ansV (z0b 2) (.slice none 0 0) (.slice none 0 0),.bool false])) w3 from fun w3 m=>by
     rw [HXX.o]
     have hd:BysM y2.val (fun b=>M b∨b=w.heap.size+1+1) (.slice none 0 0) (z0b 2).data:=BysM.none _ _
     have he:z08 evR y2.val (fun b=>M b∨b=w.heap.size+1+1) (.slice none 0 0) (z0b 2).events:=z08.none _ _ _
     exact ⟨.slice none 0 0,.slice none 0 0,_,S,rfl,z0F HS.o G1.o (by omega) l2 (HM1.o.gr G4.o) ((z0j.refl w1 _ S).gr G4.o) hd he m⟩)
    clear r4
    refine bodyPost_ret (v:=.tuple #[ansV (z0b 2) (.slice none 0 0) (.slice none 0 0),.bool false]) (by simp [results,Tryz.results33,go_sem,ansV,ansC,z0b,ans0,tok0,b0,b1,b2,b3,b4,b5,b6,b7,b8,b9]) rfl ?_
    refine HF.o _ ?_
    exact z1f y2.val (w.heap.size+1+1) _ _ _ _ _ _ _ _ _ _
   ·simp only [if_true,runV] at hlk'
    have HRQ:=hid hr
    have hlk:=hlk' w2 (Gr.refl _)
    have hXX:X=(z0b (z0k E fl (askE (z09 E.groups) E ⟨8,cf,cli,cn,⟨tf,tr,te,tt⟩,cdat,cls⟩)).1,(z0k E fl (askE (z09 E.groups) E ⟨8,cf,cli,cn,⟨tf,tr,te,tt⟩,cdat,cls⟩)).2):=by rw [← HX.o];unfold doE;simp [HNS.o,HFE.o,HRQ.o]
    have HXX:=hid hXX
    clear hlk' hr hP hXX
    go_upto_region 15 with fail
    have HQ9:=hid (heap_alloc_new w2 (.cells #[.pointer (some ⟨kf,0,none⟩),.int .i64 r.pf,.int .i64 r.pr] 109))
    have G9:=hid ((Gr.refl w2).alloc (.cells #[.pointer (some ⟨kf,0,none⟩),.int .i64 r.pf,.int .i64 r.pr] 109))
    obtain ⟨w3,hw3⟩:∃ w3,w2.alloc (.cells #[.pointer (some ⟨kf,0,none⟩),.int .i64 r.pf,.int .i64 r.pr] 109)=w3:=⟨_,rfl⟩
    have HQ:=hid (show w3.heap[w2.heap.size]?=some (.cells #[.pointer (some ⟨kf,0,none⟩),.int .i64 r.pf,.int .i64 r.pr] 109) from by rw [← hw3];exact HQ9.o)
    rw [hw3] at G9 ⊢
    clear hw3 HQ9
    generalize hq9:w2.heap.size=q9 at *
    have HN9:=hid hq9
    clear hq9
    have G3:=hid (G2.o.trans G9.o)
    clear p0 a0 a1 a2 a3 a4 a5 a6 a7 a8 a9
    have p0:w3.cell? ⟨w.heap.size,0,none⟩=some (.pointer (some ⟨k,0,none⟩)):=by
     have:=(G3.o.block _ l0).trans HB0.o
     simp [World.cell?,this]
    obtain ⟨a0,a1,a2,a3,a4,a5,a6,a7,a8,a9⟩:=z04 ((G3.o.block _ l1).trans HB1.o)
    have m0:=Nat.lt_of_lt_of_le l0 G3.o.size
    have m1:=Nat.lt_of_lt_of_le l1 G3.o.size
    obtain ⟨u0,u1,u2⟩:=z0o HQ.o
    have ul:=block_lt HQ.o
    have HC3:=hid (HCHG.o w3 G3.o r HRQ.o)
    obtain ⟨x,hx⟩:∃ x,z0k E fl (askE (z09 E.groups) E ⟨8,cf,cli,cn,⟨tf,tr,te,tt⟩,cdat,cls⟩)=x:=⟨_,rfl⟩
    rw [hx] at HC3 HXX
    clear hx hf
    rcases x with ⟨ec,RX⟩
    try simp only at HC3 HXX
    go_wp2_with fail
    refine HC3.o.mono ?_
    rintro en w4 ⟨w5,_,hmX,hret⟩
    have G5:=z2c (Gr.refl w3) hmX (fun _ e=>e.elim)
    rcases hret.cases with ⟨hR,v,rfl,⟨x,rfl⟩,hm⟩ | ⟨E',M',S',hR,rfl,heng,hal⟩
    ·have HM4:=hid (((G3.o.trans G5).mod S).trans hm (fun _ _ e=>e))
     subst hR
     clear p0 a0 a1 a2 a3 a4 a5 a6 a7 a8 a9 u0 u1 u2 m0 m1
     have p0:w4.cell? ⟨w.heap.size,0,none⟩=some (.pointer (some ⟨k,0,none⟩)):=by
      have:=(HM4.o.block _ l0 (NS.o _ (Nat.le_refl _))).trans HB0.o
      simp [World.cell?,this]
     obtain ⟨a0,a1,a2,a3,a4,a5,a6,a7,a8,a9⟩:=z04 ((HM4.o.block _ l1 (NS.o _ (Nat.le_succ _))).trans HB1.o)
     have m0:=Nat.lt_of_lt_of_le l0 HM4.o.size
     have m1:=Nat.lt_of_lt_of_le l1 HM4.o.size
     clear hret hm hmX G5
     have HFL:=hid (fun W=>z0R x W)
     go_wp2_with (go_at_call 32;refine (HFL.o _).mono ?_;rintro en _ ⟨rfl,y2,rfl⟩;(have r4:=(y2.gr.block _ (Nat.lt_of_lt_of_le l2 HM4.o.size)).trans ((HM4.o.block _ l2 (NS.o _ (by omega))).trans HB2.o));(obtain ⟨b0,b1,b2,b3,b4,b5,b6,b7,b8,b9⟩:=z04 r4);(have l4:=block_lt r4);(obtain ⟨f0,f1,f2,f3,f4,f5,f6,f7,f8,f9⟩:=FZ r4))
     have HF:=hid (show ∀ w3,Mod (fun x=>x=w.heap.size+1+1) y2.val w3→RetF M S k X w (.returned (.tuple #[ansV (z0b x) (.slice none 0 0) (.slice none 0 0),.bool true])) w3 from fun w3 m=>by
      rw [HXX.o]
      exact ⟨_,none,0,0,none,0,0,rfl,z4q G1.o (by omega) (HM4.o.gr y2.gr) m⟩)
     clear r4
     refine bodyPost_ret (v:=.tuple #[ansV (z0b x) (.slice none 0 0) (.slice none 0 0),.bool true]) (by simp [results,Tryz.results33,go_sem,ansV,ansC,z0b,ans0,tok0,b0,b1,b2,b3,b4,b5,b6,b7,b8,b9]) rfl ?_
     refine HF.o _ ?_
     exact z1f y2.val (w.heap.size+1+1) _ _ _ _ _ _ _ _ _ _
    ·have HAL:=hid (((z0j.refl w1 (fun b=>M b∨b=w.heap.size+1+1) S).gr (G3.o.trans G5)).trans hal)
     have HEN:=hid heng
     subst hR
     clear p0 a0 a1 a2 a3 a4 a5 a6 a7 a8 a9 u0 u1 u2 m0 m1
     have p0:w4.cell? ⟨w.heap.size,0,none⟩=some (.pointer (some ⟨k,0,none⟩)):=by
      have:=(HAL.o.mod.block _ l0 (NS.o _ (Nat.le_refl _))).trans HB0.o
      simp [World.cell?,this]
     obtain ⟨a0,a1,a2,a3,a4,a5,a6,a7,a8,a9⟩:=z04 ((HAL.o.mod.block _ l1 (NS.o _ (Nat.le_succ _))).trans HB1.o)
     have m0:=Nat.lt_of_lt_of_le l0 HAL.o.mod.size
     have m1:=Nat.lt_of_lt_of_le l1 HAL.o.mod.size
     clear hret hal heng hmX G5
     have HFL:=hid (fun W=>z0R ec W)
     go_wp2_with (go_at_call 32;refine (HFL.o _).mono ?_;rintro en _ ⟨rfl,y2,rfl⟩;(have r4:=(y2.gr.block _ (Nat.lt_of_lt_of_le l2 HAL.o.mod.size)).trans ((HAL.o.mod.block _ l2 (NS.o _ (by omega))).trans HB2.o));(obtain ⟨b0,b1,b2,b3,b4,b5,b6,b7,b8,b9⟩:=z04 r4);(have l4:=block_lt r4);(obtain ⟨f0,f1,f2,f3,f4,f5,f6,f7,f8,f9⟩:=FZ r4))
     have HF:=hid (show ∀ w3,Mod (fun x=>x=w.heap.size+1+1) y2.val w3→RetF M S k X w (.returned (.tuple #[ansV (z0b ec) (.slice none 0 0) (.slice none 0 0),.bool false])) w3 from fun w3 m=>by
      rw [HXX.o]
      have hd:BysM y2.val M' (.slice none 0 0) (z0b ec).data:=BysM.none _ _
      have he:z08 evR y2.val M' (.slice none 0 0) (z0b ec).events:=z08.none _ _ _
      exact ⟨.slice none 0 0,.slice none 0 0,M',S',rfl,z0F HS.o G1.o (by omega) l2 (HEN.o.gr y2.gr) (HAL.o.gr y2.gr) hd he m⟩)
     clear r4
     refine bodyPost_ret (v:=.tuple #[ansV (z0b ec) (.slice none 0 0) (.slice none 0 0),.bool false]) (by simp [results,Tryz.results33,go_sem,ansV,ansC,z0b,ans0,tok0,b0,b1,b2,b3,b4,b5,b6,b7,b8,b9]) rfl ?_
     refine HF.o _ ?_
     exact z1f y2.val (w.heap.size+1+1) _ _ _ _ _ _ _ _ _ _
  ·have hre:r0.f.run≠tr:=by simpa using hrb
   have HXX:=hid (show X=(z0b 21,some E) from by rw [← HX.o];unfold doE z1Z;simp [HRUN0.o,hre])
   generalize r0.f.run=rn0 at *
   refine z01 [(0,false),(1,false),(2,false),(3,false),(4,false),(6,false),(7,false),(8,false),(5,true),(9,false),(10,false),(11,false),(12,false),(13,false),(14,false),(15,false),(16,false),(17,false),(18,false),(19,false),(20,false),(21,true)] (fun W=>Gr wb W) (by kernel_rfl) (by kernel_rfl) (fun _ _ d _ _ h=>by cases d<;>exact h) (Gr.refl wb).drew (fun _=>?_)
   iterate 8 (first | (refine z03 (v:=?_) rfl (by rfl) ?_ ?_;rotate_left;(focus (intro W9 hW9;obtain ⟨x9,rfl⟩:∃ x:Ext wb,W9=x.val:=⟨⟨W9,hW9⟩,rfl⟩;go_simp;(try with_reducible rfl);done));(try simp only [AP])) | (refine z0i rfl (by rfl) ?_;(try simp only [AP])))
   refine z05 rfl (by rfl) (fun K hK=>?_)
   go_simp
   go_at_call 63
   refine (HRN.o _ (Gr.refl wb).drew).mono ?_
   rintro en _ ⟨rfl,y5,rfl⟩
   have G5:=hid ((Gr.refl wb).drew.ext y5)
   refine hK.o (fun W=>Gr wb W) _ _ G5.o (fun W h=>h) (fun _=>?_)
   clear hK K
   (try simp only [AP])
   iterate 12 (first | (refine z03 (v:=?_) rfl (by rfl) ?_ ?_;rotate_left;(focus (intro W9 hW9;obtain ⟨x9,rfl⟩:∃ x:Ext wb,W9=x.val:=⟨⟨W9,hW9⟩,rfl⟩;go_simp;(try with_reducible rfl);done));(try simp only [AP])) | (refine z0i rfl (by rfl) ?_;(try simp only [AP])))
   refine z06 rfl (by rfl) (fun K hK=>?_)
   go_simp
   refine hK.o _ _ ?_
   clear hK K
   have HFL:=hid (fun W=>z0R 21 W)
   go_wp2_with (go_at_call 32;refine (HFL.o _).mono ?_;rintro en _ ⟨rfl,y2,rfl⟩;(have G4:=hid ((GB.o.trans G5.o).trans y2.gr));(have r4:=(G4.o.block _ l2).trans HB2.o);(obtain ⟨b0,b1,b2,b3,b4,b5,b6,b7,b8,b9⟩:=z04 r4);(have l4:=block_lt r4);(obtain ⟨f0,f1,f2,f3,f4,f5,f6,f7,f8,f9⟩:=FZ r4))
   have HF:=hid (show ∀ w3,Mod (fun x=>x=w.heap.size+1+1) y2.val w3→RetF M S k X w (.returned (.tuple #[ansV (z0b 21) (.slice none 0 0) (.slice none 0 0),.bool false])) w3 from fun w3 m=>by
    rw [HXX.o]
    have hd:BysM y2.val (fun b=>M b∨b=w.heap.size+1+1) (.slice none 0 0) (z0b 21).data:=BysM.none _ _
    have he:z08 evR y2.val (fun b=>M b∨b=w.heap.size+1+1) (.slice none 0 0) (z0b 21).events:=z08.none _ _ _
    exact ⟨.slice none 0 0,.slice none 0 0,_,S,rfl,z0F HS.o G1.o (by omega) l2 (HM1.o.gr G4.o) ((z0j.refl w1 _ S).gr G4.o) hd he m⟩)
   clear r4
   refine bodyPost_ret (v:=.tuple #[ansV (z0b 21) (.slice none 0 0) (.slice none 0 0),.bool false]) (by simp [results,Tryz.results33,go_sem,ansV,ansC,z0b,ans0,tok0,b0,b1,b2,b3,b4,b5,b6,b7,b8,b9]) rfl ?_
   refine HF.o _ ?_
   exact z1f y2.val (w.heap.size+1+1) _ _ _ _ _ _ _ _ _ _
end Go.Proofs.YtniknicnnaiilaaGreat
end
