/- Lemmas of the engine. -/
import Derived.Test.YtniknicnnaiilaaGreatX24
import Derived.Test.YtniknicnnaiilaaGreatX27
import Derived.Test.YtniknicnnaiilaaGreatX28
section
namespace Go.Proofs.YtniknicnnaiilaaGreat
set_option maxRecDepth 100000
open Go.RowKit Go.Ext Go.BigFrame Go.Maps Go.MapKept
attribute [local go_sem] Ext.cell Ext.frozen Ext.lt Ext.le s1 s2 s3 s4 s5 s6 t1 t2 t3 t4 t5 t6
attribute [local go_sem ↓] Go.wp_at_zero Go.wp_at_succ
set_option maxHeartbeats 8000000 in
theorem z9y (PUT:z0e) (k:Nat) (E:ES) (c:Call) (d l:Value) (M S:Bl) (w:World) (h:EngR w M S k E) (hE:EOk E) (hdue:E.due.length≤998000) (hc:z0P w M c d l) (hkind:c.kind=10∨c.kind=11) :
  Calls Tryz.prog 33 #[.pointer (some ⟨k,0,none⟩),z0E c d l] w (RetF M S k (doE (z09 E.groups) E c) w):=by
 obtain ⟨Ad,cd,rfl⟩:=hc.1.shape
 obtain ⟨Al,cl,rfl,_⟩:=hc.2.shape
 have HLT:=hid h.lt
 have hks:k<w.heap.size:=h.lt.1 k (h.lt.2.1 k h.lt.2.2)
 have HE:=hid hE
 obtain ⟨w1,hw1,g1,hb0,hb1,hb2⟩:=z4R w (.cells #[.pointer (some ⟨k,0,none⟩)] 24) (.cells #[.int .i64 c.kind,.int .i64 c.flow,.int .i64 c.list,.int .i64 c.n,.int .i64 c.tok.flow,.int .i64 c.tok.run,.int .i64 c.tok.event,.int .i64 c.tok.turn,.slice Ad c.data.length cd,.slice Al c.l.length cl] 35) (.cells #[.int .i64 0,.int .i64 0,.int .i64 0,.bool false,.int .i64 0,.int .i64 0,.int .i64 0,.int .i64 0,.slice none 0 0,.slice none 0 0] 31)
 have G1:=hid g1
 have HB0:=hid hb0
 have HB1:=hid hb1
 have HB2:=hid hb2
 have HM1:=hid (show EngR w1 (fun b=>M b∨b=w.heap.size+1+1) S k E from h.more g1 (by omega) (block_lt hb2))
 have HCM:=hid (hc.up (⟨g1.mod M,fun b hb e=>by
  rcases e with e | e
  ·exact e
  ·omega⟩:Up M w (fun b=>M b∨b=w.heap.size+1+1) w1))
 have NS:=hid (show ∀ b,w.heap.size≤b→¬ S b from fun b hb e=>by have:=h.lt.1 b (h.lt.2.1 b e);omega)
 have HS:=hid (show ∀ b,S b→b<w.heap.size from fun b e=>h.lt.1 b (h.lt.2.1 b e))
 have HFLOW:=hid (fun W=>z3l c (.slice Ad c.data.length cd) (.slice Al c.l.length cl) W ⟨⟨_,_,_,rfl⟩,_,_,_,rfl⟩)
 obtain ⟨fl,hfl⟩:∃ fl,z16 c=fl:=⟨_,rfl⟩
 rw [hfl] at HFLOW
 have HFE:=hid hfl
 clear hfl
 have HCHG:=hid (fun (w3:World) (g3:Gr w1 w3) (r:RunS) (hr:lk E.runs fl=some r)=>z5h PUT (.pointer (some ⟨w.heap.size,0,none⟩)) (.pointer (some ⟨w.heap.size+1,0,none⟩)) k E fl (askE (z09 E.groups) E c) (fun b=>M b∨b=w.heap.size+1+1) S (fun _=>False) (fun _=>True) w3 (HM1.o.gr g3) hE hdue r hr (z3Y _ _ _) (z5t _ _ _) (fun _ e=>e.elim) (fun W M' k' g hMM hMo hff hlt hkM hlo=>by
  obtain ⟨kd,ka,md,ma,mr,kh,hv,hP⟩:=HM1.o.gr (g3.trans g)
  have hks':k<w3.heap.size:=Nat.lt_of_lt_of_le hks (Nat.le_trans G1.o.size g3.size)
  have he:=((g3.trans g).block _ (block_lt HB0.o)).trans HB0.o
  have hpc:=((g3.trans g).block _ (block_lt HB1.o)).trans HB1.o
  have hcm:z0P W M' c (.slice Ad c.data.length cd) (.slice Al c.l.length cl):=HCM.o.up ⟨(g3.trans g).mod _,fun b hb e=>hMo b (Nat.lt_of_lt_of_le hb g3.size) e⟩
  refine (z8I PUT w.heap.size (w.heap.size+1) k k' kd ka mr kh E c _ _ r.f M' W hP.cell hff hlt hkM (by omega) (HE.o.get hr).1 hcm ((fun e=>by omega)) he hpc).mono ?_
  intro en W' hh
  obtain ⟨A,c',h1,h2,h3,h4⟩:=hh
  exact ⟨A,c',h1,h2,h3,h4.mono (fun _ _ e=>.inl e),trivial⟩))
 obtain ⟨X,hX⟩:∃ X,doE (z09 E.groups) E c=X:=⟨_,rfl⟩
 rw [hX]
 have HX:=hid hX
 clear hX hc hE hdue h g1 hb0 hb1 hb2
 simp only [z0E,z1U] at *
 generalize hdl:c.data.length=dl at *
 generalize hll:c.l.length=ll at *
 clear hdl hll
 rcases hkind with hkind | hkind
 all_goals
  have HK:=hid hkind
  rw [hkind] at hw1 HB1 HFLOW
  rw [hkind]
  have HW1:=hid hw1
  clear hw1 hkind
  have p0:w1.cell? ⟨w.heap.size,0,none⟩=some (.pointer (some ⟨k,0,none⟩)):=by simp [World.cell?,HB0.o]
  obtain ⟨a0,a1,a2,a3,a4,a5,a6,a7,a8,a9⟩:=z04 HB1.o
  have l0:=block_lt HB0.o
  have l1:=block_lt HB1.o
  have l2:=block_lt HB2.o
  go_enter Tryz.func33,Tryz.ntmps33
  go_upto_region 1 with fail
  rw [HW1.o]
  obtain ⟨kd,ka,md,ma,mr,kh,hv,hP⟩:=HM1.o
  obtain ⟨_,_,_,_,_,f5,_,hk2⟩:=hP.cells
  rcases hP.look c.tok.flow true with ⟨hn,hlk'⟩ | ⟨r0,kf0,hr,hf,hlk'⟩
  ·simp only [if_true] at hlk'
   have hlk:=fun (y:Ext w1)=>hlk' y.val y.gr
   have HXX:=hid (show X=(z0b 21,some E) from by rw [← HX.o];unfold doE z1Z;simp [HK.o,hn])
   clear hlk' hn hP
   go_upto_region 10 with fail
   refine z01 [(0,false),(1,false),(2,false),(3,false),(4,false),(5,false),(6,false),(7,false),(8,false),(9,false),(10,false),(11,true),(12,true),(13,true)] (fun W=>Gr w1 W) (by kernel_rfl) (by kernel_rfl) (fun _ _ d _ _ h=>by cases d<;>exact h) (Gr.refl w1).drew (fun _=>?_)
   iterate 11 (refine z03 (v:=?_) rfl (by rfl) ?_ ?_;rotate_left;(focus (intro W9 hW9;obtain ⟨x9,rfl⟩:∃ x:Ext w1,W9=x.val:=⟨⟨W9,hW9⟩,rfl⟩;go_simp;(try with_reducible rfl);done));(try simp only [AP]))
   refine z05 rfl (by rfl) (fun K hK=>?_)
   go_simp
   refine hK.o (fun W=>Gr w1 W) _ _ ?_ (fun W h=>h) (fun _=>?_)
   ·exact ((Gr.refl w1).alloc _).drew
   clear hK K
   (try simp only [AP])
   refine z05 rfl (by rfl) (fun K hK=>?_)
   go_simp
   refine hK.o (fun W=>Gr w1 W) _ _ ?_ (fun W h=>h) (fun _=>?_)
   ·exact ((Gr.refl w1).alloc _).drew
   clear hK K
   (try simp only [AP])
   refine z06 rfl (by rfl) (fun K hK=>?_)
   go_simp
   refine hK.o _ _ ?_
   clear hK K
   have HQ9:=hid (heap_alloc_new w1 (.cells #[.pointer none,.int .i64 0,.int .i64 0] 109))
   have GB:=hid ((Gr.refl w1).alloc (.cells #[.pointer none,.int .i64 0,.int .i64 0] 109)).drew
   obtain ⟨wb,hwb⟩:∃ wb,(w1.alloc (.cells #[.pointer none,.int .i64 0,.int .i64 0] 109)).drew=wb:=⟨_,rfl⟩
   have HQB:=hid (show wb.heap[w1.heap.size]?=some (.cells #[.pointer none,.int .i64 0,.int .i64 0] 109) from by rw [← hwb];exact HQ9.o)
   rw [hwb] at GB ⊢
   clear hwb HQ9
   obtain ⟨qb,hqb⟩:∃ qb,w1.heap.size=qb:=⟨_,rfl⟩
   rw [hqb] at HQB ⊢
   clear hqb
   clear p0 a0 a1 a2 a3 a4 a5 a6 a7 a8 a9
   have p0:wb.cell? ⟨w.heap.size,0,none⟩=some (.pointer (some ⟨k,0,none⟩)):=by
    have:=(GB.o.block _ l0).trans HB0.o
    simp [World.cell?,this]
   obtain ⟨a0,a1,a2,a3,a4,a5,a6,a7,a8,a9⟩:=z04 ((GB.o.block _ l1).trans HB1.o)
   have m0:=Nat.lt_of_lt_of_le l0 GB.o.size
   have m1:=Nat.lt_of_lt_of_le l1 GB.o.size
   obtain ⟨u0,u1,u2⟩:=z0o HQB.o
   have ul:=block_lt HQB.o
   go_upto_region 11 with fail
   refine z01 [(0,false),(1,false),(2,false),(3,false),(4,false),(6,false),(7,false),(8,false),(5,true),(9,false),(10,false),(11,false),(12,false),(13,false),(14,false),(15,false),(16,false),(17,false),(18,false),(19,false),(20,false),(21,true)] (fun W=>Gr wb W) (by kernel_rfl) (by kernel_rfl) (fun _ _ d _ _ h=>by cases d<;>exact h) (Gr.refl wb).drew (fun _=>?_)
   iterate 8 (first | (refine z03 (v:=?_) rfl (by rfl) ?_ ?_;rotate_left;(focus (intro W9 hW9;obtain ⟨x9,rfl⟩:∃ x:Ext wb,W9=x.val:=⟨⟨W9,hW9⟩,rfl⟩;go_simp;(try with_reducible rfl);done));(try simp only [AP])) | (refine z0i rfl (by rfl) ?_;(try simp only [AP])))
   refine z2z rfl (by rfl) ?_
   (try simp only [AP])
   iterate 12 (first | (refine z03 (v:=?_) rfl (by rfl) ?_ ?_;rotate_left;(focus (intro W9 hW9;obtain ⟨x9,rfl⟩:∃ x:Ext wb,W9=x.val:=⟨⟨W9,hW9⟩,rfl⟩;go_simp;(try with_reducible rfl);done));(try simp only [AP])) | (refine z0i rfl (by rfl) ?_;(try simp only [AP])))
   refine z06 rfl (by rfl) (fun K hK=>?_)
   go_simp
   refine hK.o _ _ ?_
   clear hK K
   have HFL:=hid (fun W=>z0R 21 W)
   go_wp2_with (go_at_call 32;refine (HFL.o _).mono ?_;rintro en _ ⟨rfl,y2,rfl⟩;(have G4:=hid ((GB.o.drew).trans y2.gr));(have r4:=(G4.o.block _ l2).trans HB2.o);(obtain ⟨b0,b1,b2,b3,b4,b5,b6,b7,b8,b9⟩:=z04 r4);(have l4:=block_lt r4);(obtain ⟨f0,f1,f2,f3,f4,f5,f6,f7,f8,f9⟩:=FZ r4))
   have HF:=hid (show ∀ w3,Mod (fun x=>x=w.heap.size+1+1) y2.val w3→RetF M S k X w (.returned (.tuple #[ansV (z0b 21) (.slice none 0 0) (.slice none 0 0),.bool false])) w3 from fun w3 m=>by
    rw [HXX.o]
    have hd:BysM y2.val (fun b=>M b∨b=w.heap.size+1+1) (.slice none 0 0) (z0b 21).data:=BysM.none _ _
    have he:z08 evR y2.val (fun b=>M b∨b=w.heap.size+1+1) (.slice none 0 0) (z0b 21).events:=z08.none _ _ _
    exact ⟨.slice none 0 0,.slice none 0 0,_,S,rfl,z0F HS.o G1.o (by omega) l2 (HM1.o.gr G4.o) ((z0j.refl w1 _ S).gr G4.o) hd he m⟩)
   clear r4
   refine bodyPost_ret (v:=.tuple #[ansV (z0b 21) (.slice none 0 0) (.slice none 0 0),.bool false]) (by simp [results,Tryz.results33,go_sem,ansV,ansC,z0b,ans0,tok0,b0,b1,b2,b3,b4,b5,b6,b7,b8,b9]) rfl ?_
   refine HF.o _ ?_
   exact z1f y2.val (w.heap.size+1+1) _ _ _ _ _ _ _ _ _ _
  ·simp only [if_true,runV] at hlk'
   have hlk:=fun (y:Ext w1)=>hlk' y.val y.gr
   have HRUN0:=hid hr
   have HFI:=hid hf
   clear hlk' hr hP hf
   go_upto_region 10 with fail
   refine z01 [(0,false),(1,false),(2,false),(3,false),(4,false),(5,false),(6,false),(7,false),(8,false),(9,false),(10,false),(11,true),(12,true),(13,true)] (fun W=>Gr w1 W) (by kernel_rfl) (by kernel_rfl) (fun _ _ d _ _ h=>by cases d<;>exact h) (Gr.refl w1).drew (fun _=>?_)
   iterate 11 (refine z03 (v:=?_) rfl (by rfl) ?_ ?_;rotate_left;(focus (intro W9 hW9;obtain ⟨x9,rfl⟩:∃ x:Ext w1,W9=x.val:=⟨⟨W9,hW9⟩,rfl⟩;go_simp;(try with_reducible rfl);done));(try simp only [AP]))
   refine z05 rfl (by rfl) (fun K hK=>?_)
   go_simp
   refine hK.o (fun W=>Gr w1 W) _ _ ?_ (fun W h=>h) (fun _=>?_)
   ·exact ((Gr.refl w1).alloc _).drew
   clear hK K
   (try simp only [AP])
   refine z05 rfl (by rfl) (fun K hK=>?_)
   go_simp
   refine hK.o (fun W=>Gr w1 W) _ _ ?_ (fun W h=>h) (fun _=>?_)
   ·exact ((Gr.refl w1).alloc _).drew
   clear hK K
   (try simp only [AP])
   refine z06 rfl (by rfl) (fun K hK=>?_)
   go_simp
   refine hK.o _ _ ?_
   clear hK K
   have HQ9:=hid (heap_alloc_new w1 (.cells #[.pointer (some ⟨kf0,0,none⟩),.int .i64 r0.pf,.int .i64 r0.pr] 109))
   have GB:=hid ((Gr.refl w1).alloc (.cells #[.pointer (some ⟨kf0,0,none⟩),.int .i64 r0.pf,.int .i64 r0.pr] 109)).drew
   obtain ⟨wb,hwb⟩:∃ wb,(w1.alloc (.cells #[.pointer (some ⟨kf0,0,none⟩),.int .i64 r0.pf,.int .i64 r0.pr] 109)).drew=wb:=⟨_,rfl⟩
   have HQB:=hid (show wb.heap[w1.heap.size]?=some (.cells #[.pointer (some ⟨kf0,0,none⟩),.int .i64 r0.pf,.int .i64 r0.pr] 109) from by rw [← hwb];exact HQ9.o)
   rw [hwb] at GB ⊢
   clear hwb HQ9
   obtain ⟨qb,hqb⟩:∃ qb,w1.heap.size=qb:=⟨_,rfl⟩
   rw [hqb] at HQB ⊢
   clear hqb
   clear p0 a0 a1 a2 a3 a4 a5 a6 a7 a8 a9
   have p0:wb.cell? ⟨w.heap.size,0,none⟩=some (.pointer (some ⟨k,0,none⟩)):=by
    have:=(GB.o.block _ l0).trans HB0.o
    simp [World.cell?,this]
   obtain ⟨a0,a1,a2,a3,a4,a5,a6,a7,a8,a9⟩:=z04 ((GB.o.block _ l1).trans HB1.o)
   have m0:=Nat.lt_of_lt_of_le l0 GB.o.size
   have m1:=Nat.lt_of_lt_of_le l1 GB.o.size
   obtain ⟨u0,u1,u2⟩:=z0o HQB.o
   have ul:=block_lt HQB.o
   go_upto_region 11 with fail
   have HRN:=hid (show ∀ W,Gr wb W→Calls Tryz.prog 63 #[.pointer (some ⟨kf0,0,none⟩)] W (RetE (.int .i64 r0.f.run) W) from fun W g=>by
    obtain ⟨_,mb,_,h⟩:=HFI.o
    exact z2S kf0 mb r0.f _ W (h.gr (GB.o.trans g)))
   have HRR:=hid (rfl:r0.f.run=r0.f.run)
   cases hrb:(r0.f.run != c.tok.run)
   ·have hre:r0.f.run=c.tok.run:=by simpa using hrb
    cases htb:(c.tok.turn != 0)
    ·have hte:c.tok.turn=0:=by simpa using htb
     have HNS:=hid (show z1Z E c=false from by unfold z1Z;simp [HK.o,HRUN0.o,hre,hte])
     rw [hre] at HRN
     clear hre hrb
     have HTB:=hid htb
     refine z01 [(0,false),(1,false),(2,false),(3,false),(4,false),(6,false),(7,false),(8,false),(5,true),(9,false),(10,false),(11,false),(12,false),(13,false),(14,false),(15,false),(16,false),(17,false),(18,false),(19,false),(20,false),(21,true)] (fun W=>Gr wb W) (by kernel_rfl) (by kernel_rfl) (fun _ _ d _ _ h=>by cases d<;>exact h) (Gr.refl wb).drew (fun _=>?_)
     iterate 8 (first | (refine z03 (v:=?_) rfl (by rfl) ?_ ?_;rotate_left;(focus (intro W9 hW9;obtain ⟨x9,rfl⟩:∃ x:Ext wb,W9=x.val:=⟨⟨W9,hW9⟩,rfl⟩;go_simp;(try with_reducible rfl);done));(try simp only [AP])) | (refine z0i rfl (by rfl) ?_;(try simp only [AP])))
     refine z05 rfl (by rfl) (fun K hK=>?_)
     go_simp
     go_at_call 63
     refine (HRN.o _ (Gr.refl wb).drew).mono ?_
     rintro en _ ⟨rfl,y5,rfl⟩
     have G5:=hid ((Gr.refl wb).drew.ext y5)
     refine hK.o (fun W=>Gr wb W) _ _ G5.o (fun W h=>h) (fun _=>?_)
     clear hK K
     (try simp only [AP])
     iterate 12 (first | (refine z03 (v:=?_) rfl (by rfl) ?_ ?_;rotate_left;(focus (intro W9 hW9;obtain ⟨x9,rfl⟩:∃ x:Ext wb,W9=x.val:=⟨⟨W9,hW9⟩,rfl⟩;go_simp;(try with_reducible rfl);done));(try simp only [AP])) | (refine z0i rfl (by rfl) ?_;(try simp only [AP])))
     refine z06 rfl (by rfl) (fun K hK=>?_)
     go_simp
     refine hK.o _ _ ?_
     clear hK K
     have GX:=hid (GB.o.trans G5.o)
     clear htb hte u0 u1 u2 p0 a0 a1 a2 a3 a4 a5 a6 a7 a8 a9
     have p0:y5.val.cell? ⟨w.heap.size,0,none⟩=some (.pointer (some ⟨k,0,none⟩)):=by
      have:=(GX.o.block _ l0).trans HB0.o
      simp [World.cell?,this]
     obtain ⟨a0,a1,a2,a3,a4,a5,a6,a7,a8,a9⟩:=z04 ((GX.o.block _ l1).trans HB1.o)
     have m0:=Nat.lt_of_lt_of_le l0 GX.o.size
     have m1:=Nat.lt_of_lt_of_le l1 GX.o.size
     go_upto_region 14 with (go_at_call 64;refine (HFLOW.o _).mono ?_;rintro en _ ⟨rfl,y1,rfl⟩)
     obtain ⟨w2,hw2⟩:∃ w2,y1.val=w2:=⟨_,rfl⟩
     have G2:=hid (show Gr w1 w2 from hw2▸GX.o.trans y1.gr)
     rw [hw2]
     clear hw2 y1
     clear p0 a0 a1 a2 a3 a4 a5 a6 a7 a8 a9
     have p0:w2.cell? ⟨w.heap.size,0,none⟩=some (.pointer (some ⟨k,0,none⟩)):=by
      have:=(G2.o.block _ l0).trans HB0.o
      simp [World.cell?,this]
     obtain ⟨a0,a1,a2,a3,a4,a5,a6,a7,a8,a9⟩:=z04 ((G2.o.block _ l1).trans HB1.o)
     have m0:=Nat.lt_of_lt_of_le l0 G2.o.size
     have m1:=Nat.lt_of_lt_of_le l1 G2.o.size
     obtain ⟨kd,ka,md,ma,mr,kh,hv,hP⟩:=HM1.o.gr G2.o
     obtain ⟨_,_,_,_,_,f5,_,hk2⟩:=hP.cells
     have HP:=hid hP
     rcases hP.look fl true with ⟨hn,hlk'⟩ | ⟨r,kf,hr,hf,hlk'⟩
     ·simp only [if_true] at hlk'
      have HRQ:=hid hn
      have hlk:=hlk' w2 (Gr.refl _)
      have HXX:=hid (show X=(z0b 2,some E) from by rw [← HX.o];unfold doE;simp [HK.o,HNS.o,HFE.o,HRQ.o])
      clear hlk' hn hP
      go_upto_region 15 with fail
      have HQ9:=hid (heap_alloc_new w2 (.cells #[.pointer none,.int .i64 0,.int .i64 0] 109))
      have G9:=hid ((Gr.refl w2).alloc (.cells #[.pointer none,.int .i64 0,.int .i64 0] 109))
      obtain ⟨w3,hw3⟩:∃ w3,w2.alloc (.cells #[.pointer none,.int .i64 0,.int .i64 0] 109)=w3:=⟨_,rfl⟩
      have HQ:=hid (show w3.heap[w2.heap.size]?=some (.cells #[.pointer none,.int .i64 0,.int .i64 0] 109) from by rw [← hw3];exact HQ9.o)
      rw [hw3] at G9 ⊢
      clear hw3 HQ9
      generalize hq9:w2.heap.size=q9 at *
      have HN9:=hid hq9
      clear hq9
      have G3:=hid (G2.o.trans G9.o)
      clear p0 a0 a1 a2 a3 a4 a5 a6 a7 a8 a9
      have p0:w3.cell? ⟨w.heap.size,0,none⟩=some (.pointer (some ⟨k,0,none⟩)):=by
       have:=(G3.o.block _ l0).trans HB0.o
       simp [World.cell?,this]
      obtain ⟨a0,a1,a2,a3,a4,a5,a6,a7,a8,a9⟩:=z04 ((G3.o.block _ l1).trans HB1.o)
      have m0:=Nat.lt_of_lt_of_le l0 G3.o.size
      have m1:=Nat.lt_of_lt_of_le l1 G3.o.size
      obtain ⟨u0,u1,u2⟩:=z0o HQ.o
      have ul:=block_lt HQ.o
      have HFL:=hid (fun W=>z0R 2 W)
      go_wp2_with (go_at_call 32;refine (HFL.o _).mono ?_;rintro en _ ⟨rfl,y2,rfl⟩;(have G4:=hid (G3.o.trans y2.gr));(have r4:=(G4.o.block _ l2).trans HB2.o);(obtain ⟨b0,b1,b2,b3,b4,b5,b6,b7,b8,b9⟩:=z04 r4);(have l4:=block_lt r4);(obtain ⟨f0,f1,f2,f3,f4,f5,f6,f7,f8,f9⟩:=FZ r4))
      have HF:=hid (show ∀ w3,Mod (fun x=>x=w.heap.size+1+1) y2.val w3→RetF M S k X w (.returned (.tuple #[ansV (z0b 2) (.slice none 0 0) (.slice none 0 0),.bool false])) w3 from fun w3 m=>by
       rw [HXX.o]
       have hd:BysM y2.val (fun b=>M b∨b=w.heap.size+1+1) (.slice none 0 0) (z0b 2).data:=BysM.none _ _
       have he:z08 evR y2.val (fun b=>M b∨b=w.heap.size+1+1) (.slice none 0 0) (z0b 2).events:=z08.none _ _ _
       exact ⟨.slice none 0 0,.slice none 0 0,_,S,rfl,z0F HS.o G1.o (by omega) l2 (HM1.o.gr G4.o) ((z0j.refl w1 _ S).gr G4.o) hd he m⟩)
      clear r4
      refine bodyPost_ret (v:=.tuple #[ansV (z0b 2) (.slice none 0 0) (.slice none 0 0),.bool false]) (by simp [results,Tryz.results33,go_sem,ansV,ansC,z0b,ans0,tok0,b0,b1,b2,b3,b4,b5,b6,b7,b8,b9]) rfl ?_
      refine HF.o _ ?_
      exact z1f y2.val (w.heap.size+1+1) _ _ _ _ _ _ _ _ _ _
     ·simp only [if_true,runV] at hlk'
      have HRQ:=hid hr
      have hlk:=hlk' w2 (Gr.refl _)
      have hXX:X=(z0b (z0k E fl (askE (z09 E.groups) E c)).1,(z0k E fl (askE (z09 E.groups) E c)).2):=by rw [← HX.o];unfold doE;simp [HK.o,HNS.o,HFE.o,HRQ.o]
      have HXX:=hid hXX
      clear hlk' hr hP hXX
      go_upto_region 15 with fail
      have HQ9:=hid (heap_alloc_new w2 (.cells #[.pointer (some ⟨kf,0,none⟩),.int .i64 r.pf,.int .i64 r.pr] 109))
      have G9:=hid ((Gr.refl w2).alloc (.cells #[.pointer (some ⟨kf,0,none⟩),.int .i64 r.pf,.int .i64 r.pr] 109))
      obtain ⟨w3,hw3⟩:∃ w3,w2.alloc (.cells #[.pointer (some ⟨kf,0,none⟩),.int .i64 r.pf,.int .i64 r.pr] 109)=w3:=⟨_,rfl⟩
      have HQ:=hid (show w3.heap[w2.heap.size]?=some (.cells #[.pointer (some ⟨kf,0,none⟩),.int .i64 r.pf,.int .i64 r.pr] 109) from by rw [← hw3];exact HQ9.o)
      rw [hw3] at G9 ⊢
      clear hw3 HQ9
      generalize hq9:w2.heap.size=q9 at *
      have HN9:=hid hq9
      clear hq9
      have G3:=hid (G2.o.trans G9.o)
      clear p0 a0 a1 a2 a3 a4 a5 a6 a7 a8 a9
      have p0:w3.cell? ⟨w.heap.size,0,none⟩=some (.pointer (some ⟨k,0,none⟩)):=by
       have:=(G3.o.block _ l0).trans HB0.o
       simp [World.cell?,this]
      obtain ⟨a0,a1,a2,a3,a4,a5,a6,a7,a8,a9⟩:=z04 ((G3.o.block _ l1).trans HB1.o)
      have m0:=Nat.lt_of_lt_of_le l0 G3.o.size
      have m1:=Nat.lt_of_lt_of_le l1 G3.o.size
      obtain ⟨u0,u1,u2⟩:=z0o HQ.o
      have ul:=block_lt HQ.o
      have HC3:=hid (HCHG.o w3 G3.o r HRQ.o)
      obtain ⟨x,hx⟩:∃ x,z0k E fl (askE (z09 E.groups) E c)=x:=⟨_,rfl⟩
      rw [hx] at HC3 HXX
      clear hx hf
      rcases x with ⟨ec,RX⟩
      try simp only at HC3 HXX
      go_wp2_with fail
      refine HC3.o.mono ?_
      rintro en w4 ⟨w5,_,hmX,hret⟩
      have G5:=z2c (Gr.refl w3) hmX (fun _ e=>e.elim)
      rcases hret.cases with ⟨hR,v,rfl,⟨x,rfl⟩,hm⟩ | ⟨E',M',S',hR,rfl,heng,hal⟩
      ·have HM4:=hid (((G3.o.trans G5).mod S).trans hm (fun _ _ e=>e))
       subst hR
       clear p0 a0 a1 a2 a3 a4 a5 a6 a7 a8 a9 u0 u1 u2 m0 m1
       have p0:w4.cell? ⟨w.heap.size,0,none⟩=some (.pointer (some ⟨k,0,none⟩)):=by
        have:=(HM4.o.block _ l0 (NS.o _ (Nat.le_refl _))).trans HB0.o
        simp [World.cell?,this]
       obtain ⟨a0,a1,a2,a3,a4,a5,a6,a7,a8,a9⟩:=z04 ((HM4.o.block _ l1 (NS.o _ (Nat.le_succ _))).trans HB1.o)
       have m0:=Nat.lt_of_lt_of_le l0 HM4.o.size
       have m1:=Nat.lt_of_lt_of_le l1 HM4.o.size
       clear hret hm hmX G5
       have HFL:=hid (fun W=>z0R x W)
       go_wp2_with (go_at_call 32;refine (HFL.o _).mono ?_;rintro en _ ⟨rfl,y2,rfl⟩;(have r4:=(y2.gr.block _ (Nat.lt_of_lt_of_le l2 HM4.o.size)).trans ((HM4.o.block _ l2 (NS.o _ (by omega))).trans HB2.o));(obtain ⟨b0,b1,b2,b3,b4,b5,b6,b7,b8,b9⟩:=z04 r4);(have l4:=block_lt r4);(obtain ⟨f0,f1,f2,f3,f4,f5,f6,f7,f8,f9⟩:=FZ r4))
       have HF:=hid (show ∀ w3,Mod (fun x=>x=w.heap.size+1+1) y2.val w3→RetF M S k X w (.returned (.tuple #[ansV (z0b x) (.slice none 0 0) (.slice none 0 0),.bool true])) w3 from fun w3 m=>by
        rw [HXX.o]
        exact ⟨_,none,0,0,none,0,0,rfl,z4q G1.o (by omega) (HM4.o.gr y2.gr) m⟩)
       clear r4
       refine bodyPost_ret (v:=.tuple #[ansV (z0b x) (.slice none 0 0) (.slice none 0 0),.bool true]) (by simp [results,Tryz.results33,go_sem,ansV,ansC,z0b,ans0,tok0,b0,b1,b2,b3,b4,b5,b6,b7,b8,b9]) rfl ?_
       refine HF.o _ ?_
       exact z1f y2.val (w.heap.size+1+1) _ _ _ _ _ _ _ _ _ _
      ·have HAL:=hid (((z0j.refl w1 (fun b=>M b∨b=w.heap.size+1+1) S).gr (G3.o.trans G5)).trans hal)
       have HEN:=hid heng
       subst hR
       clear p0 a0 a1 a2 a3 a4 a5 a6 a7 a8 a9 u0 u1 u2 m0 m1
       have p0:w4.cell? ⟨w.heap.size,0,none⟩=some (.pointer (some ⟨k,0,none⟩)):=by
        have:=(HAL.o.mod.block _ l0 (NS.o _ (Nat.le_refl _))).trans HB0.o
        simp [World.cell?,this]
       obtain ⟨a0,a1,a2,a3,a4,a5,a6,a7,a8,a9⟩:=z04 ((HAL.o.mod.block _ l1 (NS.o _ (Nat.le_succ _))).trans HB1.o)
       have m0:=Nat.lt_of_lt_of_le l0 HAL.o.mod.size
       have m1:=Nat.lt_of_lt_of_le l1 HAL.o.mod.size
       clear hret hal heng hmX G5
       have HFL:=hid (fun W=>z0R ec W)
       go_wp2_with (go_at_call 32;refine (HFL.o _).mono ?_;rintro en _ ⟨rfl,y2,rfl⟩;(have r4:=(y2.gr.block _ (Nat.lt_of_lt_of_le l2 HAL.o.mod.size)).trans ((HAL.o.mod.block _ l2 (NS.o _ (by omega))).trans HB2.o));(obtain ⟨b0,b1,b2,b3,b4,b5,b6,b7,b8,b9⟩:=z04 r4);(have l4:=block_lt r4);(obtain ⟨f0,f1,f2,f3,f4,f5,f6,f7,f8,f9⟩:=FZ r4))
       have HF:=hid (show ∀ w3,Mod (fun x=>x=w.heap.size+1+1) y2.val w3→RetF M S k X w (.returned (.tuple #[ansV (z0b ec) (.slice none 0 0) (.slice none 0 0),.bool false])) w3 from fun w3 m=>by
        rw [HXX.o]
        have hd:BysM y2.val M' (.slice none 0 0) (z0b ec).data:=BysM.none _ _
        have he:z08 evR y2.val M' (.slice none 0 0) (z0b ec).events:=z08.none _ _ _
        exact ⟨.slice none 0 0,.slice none 0 0,M',S',rfl,z0F HS.o G1.o (by omega) l2 (HEN.o.gr y2.gr) (HAL.o.gr y2.gr) hd he m⟩)
       clear r4
       refine bodyPost_ret (v:=.tuple #[ansV (z0b ec) (.slice none 0 0) (.slice none 0 0),.bool false]) (by simp [results,Tryz.results33,go_sem,ansV,ansC,z0b,ans0,tok0,b0,b1,b2,b3,b4,b5,b6,b7,b8,b9]) rfl ?_
       refine HF.o _ ?_
       exact z1f y2.val (w.heap.size+1+1) _ _ _ _ _ _ _ _ _ _
    ·have hte:c.tok.turn≠0:=by simpa using htb
     have HXX:=hid (show X=(z0b 21,some E) from by rw [← HX.o];unfold doE z1Z;simp [HK.o,HRUN0.o,hre,hte])
     rw [hre] at HRN
     clear hre hrb
     refine z01 [(0,false),(1,false),(2,false),(3,false),(4,false),(6,false),(7,false),(8,false),(5,true),(9,false),(10,false),(11,false),(12,false),(13,false),(14,false),(15,false),(16,false),(17,false),(18,false),(19,false),(20,false),(21,true)] (fun W=>Gr wb W) (by kernel_rfl) (by kernel_rfl) (fun _ _ d _ _ h=>by cases d<;>exact h) (Gr.refl wb).drew (fun _=>?_)
     iterate 8 (first | (refine z03 (v:=?_) rfl (by rfl) ?_ ?_;rotate_left;(focus (intro W9 hW9;obtain ⟨x9,rfl⟩:∃ x:Ext wb,W9=x.val:=⟨⟨W9,hW9⟩,rfl⟩;go_simp;(try with_reducible rfl);done));(try simp only [AP])) | (refine z0i rfl (by rfl) ?_;(try simp only [AP])))
     refine z05 rfl (by rfl) (fun K hK=>?_)
     go_simp
     go_at_call 63
     refine (HRN.o _ (Gr.refl wb).drew).mono ?_
     rintro en _ ⟨rfl,y5,rfl⟩
     have G5:=hid ((Gr.refl wb).drew.ext y5)
     refine hK.o (fun W=>Gr wb W) _ _ G5.o (fun W h=>h) (fun _=>?_)
     clear hK K
     (try simp only [AP])
     iterate 12 (first | (refine z03 (v:=?_) rfl (by rfl) ?_ ?_;rotate_left;(focus (intro W9 hW9;obtain ⟨x9,rfl⟩:∃ x:Ext wb,W9=x.val:=⟨⟨W9,hW9⟩,rfl⟩;go_simp;(try with_reducible rfl);done));(try simp only [AP])) | (refine z0i rfl (by rfl) ?_;(try simp only [AP])))
     refine z06 rfl (by rfl) (fun K hK=>?_)
     go_simp
     refine hK.o _ _ ?_
     clear hK K
     have HFL:=hid (fun W=>z0R 21 W)
     go_wp2_with (go_at_call 32;refine (HFL.o _).mono ?_;rintro en _ ⟨rfl,y2,rfl⟩;(have G4:=hid ((GB.o.trans G5.o).trans y2.gr));(have r4:=(G4.o.block _ l2).trans HB2.o);(obtain ⟨b0,b1,b2,b3,b4,b5,b6,b7,b8,b9⟩:=z04 r4);(have l4:=block_lt r4);(obtain ⟨f0,f1,f2,f3,f4,f5,f6,f7,f8,f9⟩:=FZ r4))
     have HF:=hid (show ∀ w3,Mod (fun x=>x=w.heap.size+1+1) y2.val w3→RetF M S k X w (.returned (.tuple #[ansV (z0b 21) (.slice none 0 0) (.slice none 0 0),.bool false])) w3 from fun w3 m=>by
      rw [HXX.o]
      have hd:BysM y2.val (fun b=>M b∨b=w.heap.size+1+1) (.slice none 0 0) (z0b 21).data:=BysM.none _ _
      have he:z08 evR y2.val (fun b=>M b∨b=w.heap.size+1+1) (.slice none 0 0) (z0b 21).events:=z08.none _ _ _
      exact ⟨.slice none 0 0,.slice none 0 0,_,S,rfl,z0F HS.o G1.o (by omega) l2 (HM1.o.gr G4.o) ((z0j.refl w1 _ S).gr G4.o) hd he m⟩)
     clear r4
     refine bodyPost_ret (v:=.tuple #[ansV (z0b 21) (.slice none 0 0) (.slice none 0 0),.bool false]) (by simp [results,Tryz.results33,go_sem,ansV,ansC,z0b,ans0,tok0,b0,b1,b2,b3,b4,b5,b6,b7,b8,b9]) rfl ?_
     refine HF.o _ ?_
     exact z1f y2.val (w.heap.size+1+1) _ _ _ _ _ _ _ _ _ _
   ·have hre:r0.f.run≠c.tok.run:=by simpa using hrb
    have HXX:=hid (show X=(z0b 21,some E) from by rw [← HX.o];unfold doE z1Z;simp [HK.o,HRUN0.o,hre])
    generalize r0.f.run=rn0 at *
    refine z01 [(0,false),(1,false),(2,false),(3,false),(4,false),(6,false),(7,false),(8,false),(5,true),(9,false),(10,false),(11,false),(12,false),(13,false),(14,false),(15,false),(16,false),(17,false),(18,false),(19,false),(20,false),(21,true)] (fun W=>Gr wb W) (by kernel_rfl) (by kernel_rfl) (fun _ _ d _ _ h=>by cases d<;>exact h) (Gr.refl wb).drew (fun _=>?_)
    iterate 8 (first | (refine z03 (v:=?_) rfl (by rfl) ?_ ?_;rotate_left;(focus (intro W9 hW9;obtain ⟨x9,rfl⟩:∃ x:Ext wb,W9=x.val:=⟨⟨W9,hW9⟩,rfl⟩;go_simp;(try with_reducible rfl);done));(try simp only [AP])) | (refine z0i rfl (by rfl) ?_;(try simp only [AP])))
    refine z05 rfl (by rfl) (fun K hK=>?_)
    go_simp
    go_at_call 63
    refine (HRN.o _ (Gr.refl wb).drew).mono ?_
    rintro en _ ⟨rfl,y5,rfl⟩
    have G5:=hid ((Gr.refl wb).drew.ext y5)
    refine hK.o (fun W=>Gr wb W) _ _ G5.o (fun W h=>h) (fun _=>?_)
    clear hK K
    (try simp only [AP])
    iterate 12 (first | (refine z03 (v:=?_) rfl (by rfl) ?_ ?_;rotate_left;(focus (intro W9 hW9;obtain ⟨x9,rfl⟩:∃ x:Ext wb,W9=x.val:=⟨⟨W9,hW9⟩,rfl⟩;go_simp;(try with_reducible rfl);done));(try simp only [AP])) | (refine z0i rfl (by rfl) ?_;(try simp only [AP])))
    refine z06 rfl (by rfl) (fun K hK=>?_)
    go_simp
    refine hK.o _ _ ?_
    clear hK K
    have HFL:=hid (fun W=>z0R 21 W)
    go_wp2_with (go_at_call 32;refine (HFL.o _).mono ?_;rintro en _ ⟨rfl,y2,rfl⟩;(have G4:=hid ((GB.o.trans G5.o).trans y2.gr));(have r4:=(G4.o.block _ l2).trans HB2.o);(obtain ⟨b0,b1,b2,b3,b4,b5,b6,b7,b8,b9⟩:=z04 r4);(have l4:=block_lt r4);(obtain ⟨f0,f1,f2,f3,f4,f5,f6,f7,f8,f9⟩:=FZ r4))
    have HF:=hid (show ∀ w3,Mod (fun x=>x=w.heap.size+1+1) y2.val w3→RetF M S k X w (.returned (.tuple #[ansV (z0b 21) (.slice none 0 0) (.slice none 0 0),.bool false])) w3 from fun w3 m=>by
     rw [HXX.o]
     have hd:BysM y2.val (fun b=>M b∨b=w.heap.size+1+1) (.slice none 0 0) (z0b 21).data:=BysM.none _ _
     have he:z08 evR y2.val (fun b=>M b∨b=w.heap.size+1+1) (.slice none 0 0) (z0b 21).events:=z08.none _ _ _
     exact ⟨.slice none 0 0,.slice none 0 0,_,S,rfl,z0F HS.o G1.o (by omega) l2 (HM1.o.gr G4.o) ((z0j.refl w1 _ S).gr G4.o) hd he m⟩)
    clear r4
    refine bodyPost_ret (v:=.tuple #[ansV (z0b 21) (.slice none 0 0) (.slice none 0 0),.bool false]) (by simp [results,Tryz.results33,go_sem,ansV,ansC,z0b,ans0,tok0,b0,b1,b2,b3,b4,b5,b6,b7,b8,b9]) rfl ?_
    refine HF.o _ ?_
    exact z1f y2.val (w.heap.size+1+1) _ _ _ _ _ _ _ _ _ _
theorem zeT (PUT:z0e) (k:Nat) (E:ES) (c:Call) (d l:Value) (M S:Bl) (w:World) (h:EngR w M S k E) (hE:EOk E) (hdue:E.due.length≤998000) (hc:z0P w M c d l) (hr:z2l c=true) (hnear:c.kind=8→E.groups=1∧E.shard=0) :
  Calls Tryz.prog 33 #[.pointer (some ⟨k,0,none⟩),z0E c d l] w (RetF M S k (doE (z09 E.groups) E c) w):=by
 unfold z2l at hr
 simp only [Bool.and_eq_true,decide_eq_true_eq] at hr
 obtain ⟨⟨⟨⟨⟨⟨⟨⟨⟨⟨⟨⟨⟨⟨⟨⟨⟨⟨k1,k2⟩,_⟩,_⟩,_⟩,_⟩,_⟩,_⟩,_⟩,_⟩,hn⟩,_⟩,_⟩,_⟩,_⟩,_⟩,_⟩,hl⟩,_⟩:=hr
 have hn':0≤c.n∧c.n≤1048576:=by
  unfold numB at hn
  simpa using hn
 obtain e | e | e | e | e | e | e | e | e | e | e:c.kind=1∨c.kind=2∨c.kind=3∨c.kind=4∨c.kind=5∨c.kind=6∨c.kind=7∨c.kind=8∨c.kind=9∨c.kind=10∨c.kind=11:=by omega
 ·exact do_1 PUT k E c d l M S w h hE hdue hc e
 ·exact z6N PUT k E c d l M S w h hE hdue hc (.inl e)
 ·exact z6N PUT k E c d l M S w h hE hdue hc (.inr (.inl e))
 ·exact z6N PUT k E c d l M S w h hE hdue hc (.inr (.inr e))
 ·exact do_5 PUT k E c d l M S w h hE hdue hc e
 ·exact do_6 PUT k E c d l M S w h hE hdue hc e hn'
 ·exact do_7 PUT k E c d l M S w h hE hdue hc e
 ·exact do_8 PUT k E c d l M S w h hE hdue hc e ⟨(hnear e).1,(hnear e).2,by omega⟩
 ·exact do_9 PUT k E c d l M S w h hE hdue hc e
 ·exact z9y PUT k E c d l M S w h hE hdue hc (.inl e)
 ·exact z9y PUT k E c d l M S w h hE hdue hc (.inr e)
set_option maxHeartbeats 8000000 in
theorem z9q (PUT:z0e) (k:Nat) (E:ES) (c:Call) (d l:Value) (M S:Bl) (w:World) (h:EngR w M S k E) (hE:EOk E) (hdue:E.due.length≤998000) (hc:z0P w M c d l) (hll:c.l.length≤140737488351232) (hdd:∀ d∈c.l,d.data.length≤140737488351232) (hnear:c.kind=8→E.groups=1∧E.shard=0) :
  Calls Tryz.prog 14 #[.pointer (some ⟨k,0,none⟩),z0E c d l] w (z4D M S k (z13 (z09 E.groups) E c).1 (z13 (z09 E.groups) E c).2 w):=by
 obtain ⟨Ad,cd,rfl⟩:=hc.1.shape
 obtain ⟨Al,cl,rfl,_⟩:=hc.2.shape
 have HLT:=hid h.lt
 have hks:k<w.heap.size:=h.lt.1 k (h.lt.2.1 k h.lt.2.2)
 have HE:=hid hE
 have HDUE:=hid hdue
 obtain ⟨w1,hw1,g1,hb0,hb1⟩:=z4Q w (.cells #[.int .i64 c.kind,.int .i64 c.flow,.int .i64 c.list,.int .i64 c.n,.int .i64 c.tok.flow,.int .i64 c.tok.run,.int .i64 c.tok.event,.int .i64 c.tok.turn,.slice Ad c.data.length cd,.slice Al c.l.length cl] 35) (.cells #[.int .i64 0,.int .i64 0,.int .i64 0,.bool false,.int .i64 0,.int .i64 0,.int .i64 0,.int .i64 0,.slice none 0 0,.slice none 0 0] 31)
 have G1:=hid g1
 have HB0:=hid hb0
 have HB1:=hid hb1
 have HM1:=hid (show EngR w1 (fun b=>M b∨b=w.heap.size+1) S k E from h.more g1 (by omega) (block_lt hb1))
 have HCM:=hid (hc.up (⟨g1.mod M,fun b hb e=>by
  rcases e with e | e
  ·exact e
  ·omega⟩:Up M w (fun b=>M b∨b=w.heap.size+1) w1))
 have NS:=hid (show ∀ b,w.heap.size≤b→¬ S b from fun b hb e=>by have:=h.lt.1 b (h.lt.2.1 b e);omega)
 have HS:=hid (show ∀ b,S b→b<w.heap.size from fun b e=>h.lt.1 b (h.lt.2.1 b e))
 have HCHK:=hid (zbc k E c _ _ _ S w1 HM1.o hE HCM.o hll hdd)
 have HDO:=hid (fun k' M' S' W (hh:EngR W M' S' k' E) (hc':z0P W M' c _ _) (hr:z2l c=true)=>zeT PUT k' E c (.slice Ad c.data.length cd) (.slice Al c.l.length cl) M' S' W hh hE hdue hc' hr hnear)
 obtain ⟨X,hX⟩:∃ X,z13 (z09 E.groups) E c=X:=⟨_,rfl⟩
 rw [hX]
 have HX:=hid hX
 obtain ⟨y,hy⟩:∃ y,z1Q (z09 E.groups) E c=y:=⟨_,rfl⟩
 have HY:=hid hy
 rw [hy] at HCHK
 have hy01:y=0∧z2l c=true∨y=1:=by
  rw [← hy]
  unfold z1Q
  by_cases hr:z2l c=true
  ·split
   ·exact .inr rfl
   ·exact .inl ⟨rfl,hr⟩
  ·exact .inr (by rw [if_pos (.inl (by simpa using hr))])
 have HY01:=hid hy01
 clear hX hc hE hdue h g1 hb0 hb1 hll hdd hnear hy hy01
 rcases c with ⟨ck,cf,cli,cn,⟨tf,tr,te,tt⟩,cdat,cls⟩
 simp only [z0E,z1U] at *
 generalize cdat.length=dl at *
 generalize cls.length=ll at *
 have HW1:=hid hw1
 clear hw1
 obtain ⟨a0,a1,a2,a3,a4,a5,a6,a7,a8,a9⟩:=z04 HB0.o
 obtain ⟨b0,b1,b2,b3,b4,b5,b6,b7,b8,b9⟩:=z04 HB1.o
 have l0:=block_lt HB0.o
 have l1:=block_lt HB1.o
 rcases HY01.o with ⟨rfl,hright⟩ | rfl
 rotate_left
 ·have HXX:=hid (show X=(z0b 1,E) from by rw [← HX.o];unfold z13;rw [HY.o];rfl)
  have HFL:=hid (fun W=>z0R 1 W)
  go_enter Tryz.func14,Tryz.ntmps14
  go_upto_region 1 with fail
  rw [HW1.o]
  go_wp2_with (first
   | (go_at_call 31;refine HCHK.o.mono ?_;rintro en _ ⟨rfl,y1,rfl⟩)
   | (go_at_call 32;refine (HFL.o _).mono ?_;rintro en _ ⟨rfl,y2,rfl⟩;(have G4:=hid (y1.gr.trans y2.gr));(have r4:=(G4.o.block _ l1).trans HB1.o);clear b0 b1 b2 b3 b4 b5 b6 b7 b8 b9;(obtain ⟨b0,b1,b2,b3,b4,b5,b6,b7,b8,b9⟩:=z04 r4);(have l4:=block_lt r4);(obtain ⟨f0,f1,f2,f3,f4,f5,f6,f7,f8,f9⟩:=FZ r4)))
  have HF:=hid (show ∀ w3,Mod (fun x=>x=w.heap.size+1) y2.val w3→z4D M S k X.1 X.2 w (.returned (ansV (z0b 1) (.slice none 0 0) (.slice none 0 0))) w3 from fun w3 m=>by
   rw [HXX.o]
   have hd:BysM y2.val (fun b=>M b∨b=w.heap.size+1) (.slice none 0 0) (z0b 1).data:=BysM.none _ _
   have he:z08 evR y2.val (fun b=>M b∨b=w.heap.size+1) (.slice none 0 0) (z0b 1).events:=z08.none _ _ _
   exact ⟨.slice none 0 0,.slice none 0 0,_,S,rfl,z0F HS.o G1.o (by omega) l1 (HM1.o.gr G4.o) ((z0j.refl w1 _ S).gr G4.o) hd he m⟩)
  clear r4
  refine bodyPost_ret (v:=ansV (z0b 1) (.slice none 0 0) (.slice none 0 0)) (by simp [results,Tryz.results14,go_sem,ansV,ansC,z0b,ans0,tok0,b0,b1,b2,b3,b4,b5,b6,b7,b8,b9]) rfl ?_
  refine HF.o _ ?_
  exact z1f y2.val (w.heap.size+1) _ _ _ _ _ _ _ _ _ _
 ·have HRT:=hid hright
  go_enter Tryz.func14,Tryz.ntmps14
  go_upto_region 1 with fail
  rw [HW1.o]
  go_wp2_with (go_at_call 31;refine HCHK.o.mono ?_;rintro en _ ⟨rfl,y1,rfl⟩)
  refine (z3U k E _ S _ (HM1.o.gr y1.gr) (Nat.le_trans HDUE.o (by omega))).mono ?_
  rintro en w7 ⟨M7,S7,k7,rfl,g7,heng7,hMM,hMo,hS7⟩
  have HT:=hid (And.intro hMM (And.intro hMo hS7))
  have G7:=hid g7
  have HE7:=hid heng7
  have G07:=hid (y1.gr.trans g7)
  clear a0 a1 a2 a3 a4 a5 a6 a7 a8 a9 b0 b1 b2 b3 b4 b5 b6 b7 b8 b9
  obtain ⟨a0,a1,a2,a3,a4,a5,a6,a7,a8,a9⟩:=z04 ((G07.o.block _ l0).trans HB0.o)
  have l7:=Nat.lt_of_lt_of_le l0 G07.o.size
  clear hMM hMo hS7 g7 heng7
  go_wp2_with fail
  have hup:Up (fun b=>M b∨b=w.heap.size+1) w1 M7 w7:=(Gr.up y1.gr _).trans ⟨G7.o.mod _,HT.o.2.1⟩
  refine (HDO.o k7 M7 S7 w7 HE7.o (HCM.o.up hup) HRT.o).mono ?_
  clear hup
  intro en w8 hg
  have hXd:X=(match doE (z09 E.groups) E ⟨ck,cf,cli,cn,⟨tf,tr,te,tt⟩,cdat,cls⟩ with | (a,some E')=>(a,E') | (_,none)=>(z0b 4,E)):=by
   rw [← HX.o]
   unfold z13
   rw [HY.o]
   rfl
  obtain ⟨x,hx⟩:∃ x,doE (z09 E.groups) E ⟨ck,cf,cli,cn,⟨tf,tr,te,tt⟩,cdat,cls⟩=x:=⟨_,rfl⟩
  rw [hx] at hg hXd
  have HDOE:=hid hx
  clear hx
  rcases x with ⟨a,x⟩
  cases x with
  | none =>
   obtain ⟨⟨v0,v1,v2,v3,⟨v4,v5,v6,v7⟩,v8,v9⟩,A,n,c',A',n',c'',rfl,m8⟩:=hg
   have HXX:=hid hXd
   have G8:=hid (z2c (w:=y1.val) G7.o m8 HT.o.2.2)
   have G18:=hid (y1.gr.trans G8.o)
   clear m8 a0 a1 a2 a3 a4 a5 a6 a7 a8 a9 hXd
   simp only [ansV,ansC]
   have HFL:=hid (fun W=>z0R 4 W)
   have l18:=Nat.lt_of_lt_of_le l1 G18.o.size
   go_upto_region 7 with fail
   have G9:=hid ((Gr.refl w8).alloc (.cells #[.int .i64 v0,.int .i64 v1,.int .i64 v2,.bool v3,.int .i64 v4,.int .i64 v5,.int .i64 v6,.int .i64 v7,.slice A n c',.slice A' n' c''] 31))
   obtain ⟨w9,hw9⟩:∃ w9,w8.alloc (.cells #[.int .i64 v0,.int .i64 v1,.int .i64 v2,.bool v3,.int .i64 v4,.int .i64 v5,.int .i64 v6,.int .i64 v7,.slice A n c',.slice A' n' c''] 31)=w9:=⟨_,rfl⟩
   rw [hw9] at G9 ⊢
   clear hw9
   go_wp2_with (go_at_call 32;refine (HFL.o _).mono ?_;rintro en _ ⟨rfl,y2,rfl⟩;(have G4:=hid ((G18.o.trans G9.o).trans y2.gr));(have r4:=(G4.o.block _ l1).trans HB1.o);(obtain ⟨b0,b1,b2,b3,b4,b5,b6,b7,b8,b9⟩:=z04 r4);(have l4:=block_lt r4);(obtain ⟨f0,f1,f2,f3,f4,f5,f6,f7,f8,f9⟩:=FZ r4))
   have HF:=hid (show ∀ w3,Mod (fun x=>x=w.heap.size+1) y2.val w3→z4D M S k X.1 X.2 w (.returned (ansV (z0b 4) (.slice none 0 0) (.slice none 0 0))) w3 from fun w3 m=>by
    rw [HXX.o]
    have hd:BysM y2.val (fun b=>M b∨b=w.heap.size+1) (.slice none 0 0) (z0b 4).data:=BysM.none _ _
    have he:z08 evR y2.val (fun b=>M b∨b=w.heap.size+1) (.slice none 0 0) (z0b 4).events:=z08.none _ _ _
    exact ⟨.slice none 0 0,.slice none 0 0,_,S,rfl,z0F HS.o G1.o (by omega) l1 (HM1.o.gr G4.o) ((z0j.refl w1 _ S).gr G4.o) hd he m⟩)
   clear r4
   refine bodyPost_ret (v:=ansV (z0b 4) (.slice none 0 0) (.slice none 0 0)) (by simp [results,Tryz.results14,go_sem,ansV,ansC,z0b,ans0,tok0,b0,b1,b2,b3,b4,b5,b6,b7,b8,b9]) rfl ?_
   refine HF.o _ ?_
   exact z1f y2.val (w.heap.size+1) _ _ _ _ _ _ _ _ _ _
  | some E' =>
   obtain ⟨dv,ev,M8,S8,rfl,heng8,hal8,hdv,hev⟩:=hg
   have HXX:=hid hXd
   have HAL8:=hid hal8
   have HDV:=hid hdv
   have HEV:=hid hev
   obtain ⟨kd8,ka8,md8,ma8,mr8,kh8,hv8,hP8⟩:=heng8
   have HP8:=hid hP8
   have hk7:k7<w8.heap.size:=hP8.cells.2.2.2.2.2.2.2
   obtain ⟨kd,ka,md,ma,mr,kh,hv,hP⟩:=HM1.o
   have hkl1:k<w1.heap.size:=block_lt hP.cell
   have hS7k:¬ S7 k:=fun e=>by have:=HT.o.2.2 k e;have:=y1.gr.size;omega
   have hk8:=(hal8.mod.block k (Nat.lt_of_lt_of_le hkl1 G07.o.size) hS7k).trans ((G07.o.block k hkl1).trans hP.cell)
   have HK8:=hid hk8
   have hkl8:=block_lt hk8
   obtain ⟨Adv,cdv,rfl⟩:=hdv.shape
   obtain ⟨Aev,cev,rfl,_⟩:=hev.shape
   clear hal8 hdv hev hP8 hk8 hP hXd a0 a1 a2 a3 a4 a5 a6 a7 a8 a9
   rcases a with ⟨v0,v1,v2,v3,⟨v4,v5,v6,v7⟩,v8,v9⟩
   simp only [ansV,ansC]
   simp only at HDV HEV
   generalize v8.length=v8l at *
   generalize v9.length=v9l at *
   go_upto_region 8 with fail
   have HB9:=hid (heap_alloc_new w8 (.cells #[.int .i64 v0,.int .i64 v1,.int .i64 v2,.bool v3,.int .i64 v4,.int .i64 v5,.int .i64 v6,.int .i64 v7,.slice Adv v8l cdv,.slice Aev v9l cev] 31))
   have G9:=hid ((Gr.refl w8).alloc (.cells #[.int .i64 v0,.int .i64 v1,.int .i64 v2,.bool v3,.int .i64 v4,.int .i64 v5,.int .i64 v6,.int .i64 v7,.slice Adv v8l cdv,.slice Aev v9l cev] 31))
   obtain ⟨w9,hw9⟩:∃ w9,w8.alloc (.cells #[.int .i64 v0,.int .i64 v1,.int .i64 v2,.bool v3,.int .i64 v4,.int .i64 v5,.int .i64 v6,.int .i64 v7,.slice Adv v8l cdv,.slice Aev v9l cev] 31)=w9:=⟨_,rfl⟩
   rw [hw9] at HB9 G9 ⊢
   clear hw9
   have hk7:k7<w9.heap.size:=Nat.lt_of_lt_of_le hk7 G9.o.size
   obtain ⟨g0,g1,g2,g3,g4,g5,g6,g7⟩:=(HP8.o.gr G9.o).cells
   have hk9:=(G9.o.block k hkl8).trans HK8.o
   have HK9:=hid hk9
   have hkl9:=block_lt hk9
   have z0:=z00 (j:=0) hk9
   have z1:=z00 (j:=1) hk9
   have z2:=z00 (j:=2) hk9
   have z3:=z00 (j:=3) hk9
   have z4:=z00 (j:=4) hk9
   have z5:=z00 (j:=5) hk9
   have z6:=z00 (j:=6) hk9
   obtain ⟨y0,y1_,y2,y3,y4,y5,y6⟩:=z0p hk9
   clear hk9
   go_upto_region 9 with fail
   clear y0 y1_ y2 y3 y4 y5 y6
   obtain ⟨w10,hw10,m10,hc10⟩:=z4z (a':=.pointer (some ⟨kd8,0,none⟩)) (b':=.pointer (some ⟨ka8,0,none⟩)) (c':=.int .i64 E'.shard) (d':=.int .i64 E'.groups) (e':=.int .i64 E'.now) (f':=.map (some mr8)) (g':=.pointer (some ⟨kh8,0,none⟩)) HK9.o
   rw [hw10]
   clear hw10
   have hkM:M8 k:=HAL8.o.mm k (HT.o.1 k (.inl (HLT.o.2.1 k HLT.o.2.2)))
   have hkS:¬ S8 k:=fun e=>hS7k (HAL8.o.s k (Nat.lt_of_lt_of_le hkl1 G07.o.size) e)
   have H10:=hid ((HP8.o.gr G9.o).move m10 hc10 hkM hkS)
   have HAL10:=hid (z3W (z0j.refl w1 (fun b=>M b∨b=w.heap.size+1) S) y1.gr G7.o HT.o.1 HT.o.2.1 HT.o.2.2 (HAL8.o.gr G9.o) m10 HLT.o.2.2)
   have U10:=hid ((Gr.up G9.o M8).trans (Mod.up m10 (fun _ _ e=>e▸hkM)))
   have p4:=(m10.block w8.heap.size (block_lt HB9.o) (by show ¬ w8.heap.size=k;omega)).trans HB9.o
   obtain ⟨p0,p1,p2,p3,p4',p5,p6,p7,p8,p9⟩:=z04 p4
   have lp:=block_lt p4
   have r4:=(HAL10.o.mod.block (w.heap.size+1) l1 (NS.o _ (Nat.le_succ _))).trans HB1.o
   obtain ⟨b0,b1,b2,b3,b4,b5,b6,b7,b8,b9⟩:=z04 r4
   have l5:=block_lt r4
   obtain ⟨f0,f1,f2,f3,f4,f5,f6,f7,f8,f9⟩:=FZ r4
   have HF:=hid (show ∀ w3,Mod (fun x=>x=w.heap.size+1) w10 w3→z4D M S k X.1 X.2 w (.returned (ansV ⟨v0,v1,v2,v3,⟨v4,v5,v6,v7⟩,v8,v9⟩ (.slice Adv v8l cdv) (.slice Aev v9l cev))) w3 from fun w3 m=>by
    rw [HXX.o]
    have hfin:=z0F (a:=⟨v0,v1,v2,v3,⟨v4,v5,v6,v7⟩,v8,v9⟩) HS.o G1.o (Nat.le_succ w.heap.size) l1 (show EngR w10 M8 _ k E' from ⟨_,_,_,_,_,_,_,H10.o⟩) HAL10.o (HDV.o.up U10.o) (HEV.o.up U10.o) m
    exact ⟨.slice Adv v8l cdv,.slice Aev v9l cev,M8,_,rfl,hfin⟩)
   clear p4 r4 hc10 hkM hkS g0 g1 g2 g3 g4 g5 g6 g7
   go_wp2_with fail
   refine bodyPost_ret (v:=ansV ⟨v0,v1,v2,v3,⟨v4,v5,v6,v7⟩,v8,v9⟩ (.slice Adv v8l cdv) (.slice Aev v9l cev)) (by simp [results,Tryz.results14,go_sem,ansV,ansC,b0,b1,b2,b3,b4,b5,b6,b7,b8,b9]) rfl ?_
   refine HF.o _ ?_
   exact z1f w10 (w.heap.size+1) _ _ _ _ _ _ _ _ _ _
end Go.Proofs.YtniknicnnaiilaaGreat
end
