/- Lemmas of the engine. -/
import Derived.Test.YtniknicnnaiilaaGreatX09
import Derived.Test.YtniknicnnaiilaaGreatX15
import Derived.Test.YtniknicnnaiilaaGreatX17
import Derived.Test.YtniknicnnaiilaaGreatX20
import Derived.Test.YtniknicnnaiilaaGreatX22
import Derived.Test.YtniknicnnaiilaaGreatX23
import Derived.Test.YtniknicnnaiilaaGreatX29
import Derived.Test.YtniknicnnaiilaaGreatGrows2
import Derived.Test.YtniknicnnaiilaaGreatGrows3
section
namespace Go.Proofs.YtniknicnnaiilaaGreat
set_option maxRecDepth 100000
open Go.RowKit Go.Ext Go.BigFrame Go.Maps Go.MapKept
attribute [local go_sem] Ext.cell Ext.frozen Ext.lt Ext.le s1 s2 s3 s4 s5 s6 t1 t2 t3 t4 t5 t6
attribute [local go_sem ↓] Go.wp_at_zero Go.wp_at_succ
set_option maxHeartbeats 8000000 in
theorem zbJ (PUT:z0e) (k:Nat) (E:ES) (i:It) (M S:Bl) (w:World) (h:EngR w M S k E) (hE:EOk E) (hdue:E.due.length≤998000):Calls Tryz.prog 43 #[.pointer (some ⟨k,0,none⟩),iv i] w (RetS M S k (z1M E i) (.bool true) vF w):=by
 obtain ⟨kd,ka,md,ma,mr,kh,hv,hP⟩:=h
 obtain ⟨e0,e1,e2,e3,e4,e5,e6,hkl⟩:=hP.cells
 obtain ⟨ia,il,ir,ie,it_,ik⟩:=i
 simp only [iv]
 have HB1:=hid (heap_alloc_new w (.cells #[.int .i64 ia,.int .i64 il,.int .i64 ir,.int .i64 ie,.int .i64 it_,.int .i64 ik] 92))
 have G1:=hid ((Gr.refl w).alloc (.cells #[.int .i64 ia,.int .i64 il,.int .i64 ir,.int .i64 ie,.int .i64 it_,.int .i64 ik] 92))
 have H:=hid hP
 rcases hP.look il true with ⟨hn,hlk'⟩ | ⟨r,kf,hr,hf,hlk'⟩
 ·rw [show z1M E (ia,il,ir,ie,it_,ik)=some E from by unfold z1M;simp only [hn]]
  simp only [if_true] at hlk'
  have HLK:=hid hlk'
  clear hP hlk' hn
  go_enter Tryz.func43,Tryz.ntmps43
  go_upto_region 1 with fail
  obtain ⟨w1,hw1⟩:∃ w1,w.alloc (.cells #[.int .i64 ia,.int .i64 il,.int .i64 ir,.int .i64 ie,.int .i64 it_,.int .i64 ik] 92)=w1:=⟨_,rfl⟩
  rw [hw1] at HB1 G1 ⊢
  clear hw1
  obtain ⟨x0,x1,x2,x3,x4,x5⟩:=z2W HB1.o
  obtain ⟨_,_,_,_,_,f5,_,hk1⟩:=(H.o.gr G1.o).cells
  have hb1:=block_lt HB1.o
  have hlk:=fun (y:Ext w1)=>HLK.o y.val (G1.o.trans y.gr)
  refine z01 [(0,false),(1,false),(2,false),(3,false),(4,false),(5,false),(6,false),(7,false),(8,false),(9,false),(10,true),(11,true),(12,true)] (fun W=>Gr w1 W) (by kernel_rfl) (by kernel_rfl) (fun _ _ d _ _ h=>by cases d<;>exact h) (Gr.refl w1).drew (fun _=>?_)
  iterate 10 (refine z03 (v:=?_) rfl (by rfl) ?_ ?_;rotate_left;(focus (intro W9 hW9;obtain ⟨x9,rfl⟩:∃ x:Ext w1,W9=x.val:=⟨⟨W9,hW9⟩,rfl⟩;go_simp;(try with_reducible rfl);done));(try simp only [AP]))
  refine z05 rfl (by rfl) (fun K hK=>?_)
  go_simp
  refine hK.o (fun W=>Gr w1 W) _ _ ?_ (fun W h=>h) (fun _=>?_)
  ·exact ((Gr.refl w1).alloc _).drew
  clear hK K
  (try simp only [AP])
  refine z05 rfl (by rfl) (fun K hK=>?_)
  go_simp
  refine hK.o (fun W=>Gr w1 W) _ _ ?_ (fun W h=>h) (fun _=>?_)
  ·exact ((Gr.refl w1).alloc _).drew
  clear hK K
  (try simp only [AP])
  refine z06 rfl (by rfl) (fun K hK=>?_)
  go_simp
  refine hK.o _ _ ?_
  clear hK K
  have HB2:=hid (heap_alloc_new w1 (.cells #[.pointer none,.int .i64 0,.int .i64 0] 109))
  have G2:=hid ((Gr.refl w1).alloc (.cells #[.pointer none,.int .i64 0,.int .i64 0] 109)).drew
  obtain ⟨w2,hw2⟩:∃ w2,(w1.alloc (.cells #[.pointer none,.int .i64 0,.int .i64 0] 109)).drew=w2:=⟨_,rfl⟩
  have HQ:=hid (show w2.heap[w1.heap.size]?=some (.cells #[.pointer none,.int .i64 0,.int .i64 0] 109) from by rw [← hw2];exact HB2.o)
  rw [hw2] at G2 ⊢
  clear hw2 HB2
  obtain ⟨q9,hq9⟩:∃ q9,w1.heap.size=q9:=⟨_,rfl⟩
  have HQ9:=hid (show w.heap.size<q9 from by have:=hb1;omega)
  rw [hq9] at HQ ⊢
  clear hq9
  have GG:=hid (G1.o.trans G2.o)
  have HBQ:=hid ((G2.o.block w.heap.size hb1).trans HB1.o)
  clear x0 x1 x2 x3 x4 x5
  obtain ⟨x0,x1,x2,x3,x4,x5⟩:=z2W HBQ.o
  have zl:=block_lt HBQ.o
  obtain ⟨u0,u1,u2⟩:=z0o HQ.o
  have ul:=block_lt HQ.o
  go_upto_region 2 with fail
  refine z01 [(0,false),(1,false),(2,false),(3,false),(4,false),(6,false),(7,false),(5,true),(8,false),(9,true)] (fun W=>Gr w2 W) (by kernel_rfl) (by kernel_rfl) (fun _ _ d _ _ h=>by cases d<;>exact h) (Gr.refl w2).drew (fun _=>?_)
  iterate 7 (first | (refine z03 (v:=?_) rfl (by rfl) ?_ ?_;rotate_left;(focus (intro W9 hW9;obtain ⟨x9,rfl⟩:∃ x:Ext w2,W9=x.val:=⟨⟨W9,hW9⟩,rfl⟩;go_simp;(try with_reducible rfl);done));(try simp only [AP])) | (refine z0i rfl (by rfl) ?_;(try simp only [AP])))
  refine z2z rfl (by rfl) ?_
  (try simp only [AP])
  iterate 1 (first | (refine z03 (v:=?_) rfl (by rfl) ?_ ?_;rotate_left;(focus (intro W9 hW9;obtain ⟨x9,rfl⟩:∃ x:Ext w2,W9=x.val:=⟨⟨W9,hW9⟩,rfl⟩;go_simp;(try with_reducible rfl);done));(try simp only [AP])) | (refine z0i rfl (by rfl) ?_;(try simp only [AP])))
  refine z06 rfl (by rfl) (fun K hK=>?_)
  go_simp
  refine hK.o _ _ ?_
  clear hK K
  go_wp2_with fail
  go_ret
  exact RetS.done ⟨kd,ka,md,ma,mr,kh,hv,H.o.gr GG.o.drew⟩ (GG.o.drew.mod S)
 ·simp only [if_true,runV] at hlk'
  have HLK:=hid hlk'
  have HFI0:=hid hf
  have HFOK:=hid (hE.get hr)
  have HRUN:=hid (show ∀ W,Gr w W→Calls Tryz.prog 63 #[.pointer (some ⟨kf,0,none⟩)] W (RetE (.int .i64 r.f.run) W) from fun W g=>by
   obtain ⟨_,mb,_,hfr⟩:=hf
   exact z2S kf mb r.f M W (hfr.gr g))
  have HRR:=hid hr
  clear hP hlk' hf hr
  cases hrb:(r.f.run != ir)
  rotate_left
  ·have hne:r.f.run≠ir:=by simpa using hrb
   rw [show z1M E (ia,il,ir,ie,it_,ik)=some E from by unfold z1M;simp only [HRR.o];rw [if_pos hne]]
   clear hne
   generalize r.f.run=rn at *
   go_enter Tryz.func43,Tryz.ntmps43
   go_upto_region 1 with fail
   obtain ⟨w1,hw1⟩:∃ w1,w.alloc (.cells #[.int .i64 ia,.int .i64 il,.int .i64 ir,.int .i64 ie,.int .i64 it_,.int .i64 ik] 92)=w1:=⟨_,rfl⟩
   rw [hw1] at HB1 G1 ⊢
   clear hw1
   obtain ⟨x0,x1,x2,x3,x4,x5⟩:=z2W HB1.o
   obtain ⟨_,_,_,_,_,f5,_,hk1⟩:=(H.o.gr G1.o).cells
   have hb1:=block_lt HB1.o
   have hlk:=fun (y:Ext w1)=>HLK.o y.val (G1.o.trans y.gr)
   refine z01 [(0,false),(1,false),(2,false),(3,false),(4,false),(5,false),(6,false),(7,false),(8,false),(9,false),(10,true),(11,true),(12,true)] (fun W=>Gr w1 W) (by kernel_rfl) (by kernel_rfl) (fun _ _ d _ _ h=>by cases d<;>exact h) (Gr.refl w1).drew (fun _=>?_)
   iterate 10 (refine z03 (v:=?_) rfl (by rfl) ?_ ?_;rotate_left;(focus (intro W9 hW9;obtain ⟨x9,rfl⟩:∃ x:Ext w1,W9=x.val:=⟨⟨W9,hW9⟩,rfl⟩;go_simp;(try with_reducible rfl);done));(try simp only [AP]))
   refine z05 rfl (by rfl) (fun K hK=>?_)
   go_simp
   refine hK.o (fun W=>Gr w1 W) _ _ ?_ (fun W h=>h) (fun _=>?_)
   ·exact ((Gr.refl w1).alloc _).drew
   clear hK K
   (try simp only [AP])
   refine z05 rfl (by rfl) (fun K hK=>?_)
   go_simp
   refine hK.o (fun W=>Gr w1 W) _ _ ?_ (fun W h=>h) (fun _=>?_)
   ·exact ((Gr.refl w1).alloc _).drew
   clear hK K
   (try simp only [AP])
   refine z06 rfl (by rfl) (fun K hK=>?_)
   go_simp
   refine hK.o _ _ ?_
   clear hK K
   have HB2:=hid (heap_alloc_new w1 (.cells #[.pointer (some ⟨kf,0,none⟩),.int .i64 r.pf,.int .i64 r.pr] 109))
   have G2:=hid ((Gr.refl w1).alloc (.cells #[.pointer (some ⟨kf,0,none⟩),.int .i64 r.pf,.int .i64 r.pr] 109)).drew
   obtain ⟨w2,hw2⟩:∃ w2,(w1.alloc (.cells #[.pointer (some ⟨kf,0,none⟩),.int .i64 r.pf,.int .i64 r.pr] 109)).drew=w2:=⟨_,rfl⟩
   have HQ:=hid (show w2.heap[w1.heap.size]?=some (.cells #[.pointer (some ⟨kf,0,none⟩),.int .i64 r.pf,.int .i64 r.pr] 109) from by rw [← hw2];exact HB2.o)
   rw [hw2] at G2 ⊢
   clear hw2 HB2
   obtain ⟨q9,hq9⟩:∃ q9,w1.heap.size=q9:=⟨_,rfl⟩
   have HQ9:=hid (show w.heap.size<q9 from by have:=hb1;omega)
   rw [hq9] at HQ ⊢
   clear hq9
   have GG:=hid (G1.o.trans G2.o)
   have HBQ:=hid ((G2.o.block w.heap.size hb1).trans HB1.o)
   clear x0 x1 x2 x3 x4 x5
   obtain ⟨x0,x1,x2,x3,x4,x5⟩:=z2W HBQ.o
   have zl:=block_lt HBQ.o
   obtain ⟨u0,u1,u2⟩:=z0o HQ.o
   have ul:=block_lt HQ.o
   go_upto_region 2 with fail
   refine z01 [(0,false),(1,false),(2,false),(3,false),(4,false),(6,false),(7,false),(5,true),(8,false),(9,true)] (fun W=>Gr w2 W) (by kernel_rfl) (by kernel_rfl) (fun _ _ d _ _ h=>by cases d<;>exact h) (Gr.refl w2).drew (fun _=>?_)
   iterate 7 (first | (refine z03 (v:=?_) rfl (by rfl) ?_ ?_;rotate_left;(focus (intro W9 hW9;obtain ⟨x9,rfl⟩:∃ x:Ext w2,W9=x.val:=⟨⟨W9,hW9⟩,rfl⟩;go_simp;(try with_reducible rfl);done));(try simp only [AP])) | (refine z0i rfl (by rfl) ?_;(try simp only [AP])))
   refine z05 rfl (by rfl) (fun K hK=>?_)
   go_simp
   go_at_call 63
   refine (HRUN.o _ GG.o.drew).mono ?_
   rintro en _ ⟨rfl,y5,rfl⟩
   have G5:=hid ((Gr.refl w2).drew.ext y5)
   refine hK.o (fun W=>Gr w2 W) _ _ G5.o (fun W h=>h) (fun _=>?_)
   clear hK K
   (try simp only [AP])
   iterate 1 (first | (refine z03 (v:=?_) rfl (by rfl) ?_ ?_;rotate_left;(focus (intro W9 hW9;obtain ⟨x9,rfl⟩:∃ x:Ext w2,W9=x.val:=⟨⟨W9,hW9⟩,rfl⟩;go_simp;(try with_reducible rfl);done));(try simp only [AP])) | (refine z0i rfl (by rfl) ?_;(try simp only [AP])))
   refine z06 rfl (by rfl) (fun K hK=>?_)
   go_simp
   refine hK.o _ _ ?_
   clear hK K
   go_wp2_with fail
   go_ret
   exact RetS.done ⟨kd,ka,md,ma,mr,kh,hv,H.o.gr (GG.o.trans G5.o)⟩ ((GG.o.trans G5.o).mod S)
  ·have hre:r.f.run=ir:=by simpa using hrb
   have HRE:=hid hre
   rw [hre] at HRUN
   clear hre hrb
   go_enter Tryz.func43,Tryz.ntmps43
   go_upto_region 1 with fail
   obtain ⟨w1,hw1⟩:∃ w1,w.alloc (.cells #[.int .i64 ia,.int .i64 il,.int .i64 ir,.int .i64 ie,.int .i64 it_,.int .i64 ik] 92)=w1:=⟨_,rfl⟩
   rw [hw1] at HB1 G1 ⊢
   clear hw1
   obtain ⟨x0,x1,x2,x3,x4,x5⟩:=z2W HB1.o
   obtain ⟨_,_,_,_,_,f5,_,hk1⟩:=(H.o.gr G1.o).cells
   have hb1:=block_lt HB1.o
   have hlk:=fun (y:Ext w1)=>HLK.o y.val (G1.o.trans y.gr)
   refine z01 [(0,false),(1,false),(2,false),(3,false),(4,false),(5,false),(6,false),(7,false),(8,false),(9,false),(10,true),(11,true),(12,true)] (fun W=>Gr w1 W) (by kernel_rfl) (by kernel_rfl) (fun _ _ d _ _ h=>by cases d<;>exact h) (Gr.refl w1).drew (fun _=>?_)
   iterate 10 (refine z03 (v:=?_) rfl (by rfl) ?_ ?_;rotate_left;(focus (intro W9 hW9;obtain ⟨x9,rfl⟩:∃ x:Ext w1,W9=x.val:=⟨⟨W9,hW9⟩,rfl⟩;go_simp;(try with_reducible rfl);done));(try simp only [AP]))
   refine z05 rfl (by rfl) (fun K hK=>?_)
   go_simp
   refine hK.o (fun W=>Gr w1 W) _ _ ?_ (fun W h=>h) (fun _=>?_)
   ·exact ((Gr.refl w1).alloc _).drew
   clear hK K
   (try simp only [AP])
   refine z05 rfl (by rfl) (fun K hK=>?_)
   go_simp
   refine hK.o (fun W=>Gr w1 W) _ _ ?_ (fun W h=>h) (fun _=>?_)
   ·exact ((Gr.refl w1).alloc _).drew
   clear hK K
   (try simp only [AP])
   refine z06 rfl (by rfl) (fun K hK=>?_)
   go_simp
   refine hK.o _ _ ?_
   clear hK K
   have HB2:=hid (heap_alloc_new w1 (.cells #[.pointer (some ⟨kf,0,none⟩),.int .i64 r.pf,.int .i64 r.pr] 109))
   have G2:=hid ((Gr.refl w1).alloc (.cells #[.pointer (some ⟨kf,0,none⟩),.int .i64 r.pf,.int .i64 r.pr] 109)).drew
   obtain ⟨w2,hw2⟩:∃ w2,(w1.alloc (.cells #[.pointer (some ⟨kf,0,none⟩),.int .i64 r.pf,.int .i64 r.pr] 109)).drew=w2:=⟨_,rfl⟩
   have HQ:=hid (show w2.heap[w1.heap.size]?=some (.cells #[.pointer (some ⟨kf,0,none⟩),.int .i64 r.pf,.int .i64 r.pr] 109) from by rw [← hw2];exact HB2.o)
   rw [hw2] at G2 ⊢
   clear hw2 HB2
   obtain ⟨q9,hq9⟩:∃ q9,w1.heap.size=q9:=⟨_,rfl⟩
   have HQ9:=hid (show w.heap.size<q9 from by have:=hb1;omega)
   rw [hq9] at HQ ⊢
   clear hq9
   have GG:=hid (G1.o.trans G2.o)
   have HBQ:=hid ((G2.o.block w.heap.size hb1).trans HB1.o)
   clear x0 x1 x2 x3 x4 x5
   obtain ⟨x0,x1,x2,x3,x4,x5⟩:=z2W HBQ.o
   have zl:=block_lt HBQ.o
   obtain ⟨u0,u1,u2⟩:=z0o HQ.o
   have ul:=block_lt HQ.o
   go_upto_region 2 with fail
   refine z01 [(0,false),(1,false),(2,false),(3,false),(4,false),(6,false),(7,false),(5,true),(8,false),(9,true)] (fun W=>Gr w2 W) (by kernel_rfl) (by kernel_rfl) (fun _ _ d _ _ h=>by cases d<;>exact h) (Gr.refl w2).drew (fun _=>?_)
   iterate 7 (first | (refine z03 (v:=?_) rfl (by rfl) ?_ ?_;rotate_left;(focus (intro W9 hW9;obtain ⟨x9,rfl⟩:∃ x:Ext w2,W9=x.val:=⟨⟨W9,hW9⟩,rfl⟩;go_simp;(try with_reducible rfl);done));(try simp only [AP])) | (refine z0i rfl (by rfl) ?_;(try simp only [AP])))
   refine z05 rfl (by rfl) (fun K hK=>?_)
   go_simp
   go_at_call 63
   refine (HRUN.o _ GG.o.drew).mono ?_
   rintro en _ ⟨rfl,y5,rfl⟩
   have G5:=hid ((Gr.refl w2).drew.ext y5)
   refine hK.o (fun W=>Gr w2 W) _ _ G5.o (fun W h=>h) (fun _=>?_)
   clear hK K
   (try simp only [AP])
   iterate 1 (first | (refine z03 (v:=?_) rfl (by rfl) ?_ ?_;rotate_left;(focus (intro W9 hW9;obtain ⟨x9,rfl⟩:∃ x:Ext w2,W9=x.val:=⟨⟨W9,hW9⟩,rfl⟩;go_simp;(try with_reducible rfl);done));(try simp only [AP])) | (refine z0i rfl (by rfl) ?_;(try simp only [AP])))
   refine z06 rfl (by rfl) (fun K hK=>?_)
   go_simp
   refine hK.o _ _ ?_
   clear hK K
   have G3:=hid (GG.o.trans G5.o)
   have HQ3:=hid ((G5.o.block _ ul).trans HQ.o)
   have HBQ3:=hid ((G5.o.block _ zl).trans HBQ.o)
   obtain ⟨w3,hw3⟩:∃ w3,y5.val=w3:=⟨_,rfl⟩
   rw [hw3] at G3 HQ3 HBQ3 ⊢
   clear hw3 u0 u1 u2 ul x0 x1 x2 x3 x4 x5 zl
   obtain ⟨u0,u1,u2⟩:=z0o HQ3.o
   have ul:=block_lt HQ3.o
   have hup:Up M w (fun b=>M b∨b=q9) w3:=⟨G3.o.mod M,fun b hb e=>by
    rcases e with e | e
    ·exact e
    ·have:=HQ9.o;omega⟩
   have hltM:∀ b,(M b∨b=q9)→b<w3.heap.size:=fun b e=>by
    rcases e with e | e
    ·exact Nat.lt_of_lt_of_le (H.o.lt b e) G3.o.size
    ·omega
   have hq9n:¬ M q9:=fun e=>by have:=H.o.lt q9 e;have:=HQ9.o;omega
   have HNQ:=hid hq9n
   have HLT:=hid hltM
   have hfI3:=HFI0.o.up hup
   have HTW:=hid (show Calls Tryz.prog 75 #[.pointer (some ⟨kf,0,none⟩)] w3 (fun e w'=>∃ k' mb',e=.returned (.pointer (some ⟨k',0,none⟩))∧w3.heap.size≤k'∧w3.heap.size≤mb'∧k'≠mb'∧Gr w3 w'∧z0H w' (plus (fun b=>M b∨b=q9) k' mb') k' mb' r.f∧∀ b,plus (fun b=>M b∨b=q9) k' mb' b→b<w'.heap.size) from by
    obtain ⟨_,mb,_,hfr⟩:=hfI3
    exact z4A kf mb r.f _ w3 hfr hltM)
   have hg:=z4s ik ie it_ ia
   obtain ⟨x,hx⟩:∃ x,z1F r.f ik ie it_ ia=x:=⟨_,rfl⟩
   have hfk:=hg.ok r.f HFOK.o.1
   have hol:=hg.outs r.f
   have hokk:=z3M r.f ik ie it_ ia
   rw [hx] at hfk hol hokk
   have HEN:=hid (show z1M E (ia,il,ir,ie,it_,ik)=(if x.2.2=0 then z2F { E with runs:=up E.runs il { r with f:=x.1 } } il x.1.run ia x.2.1 else if x.2.2=4 then none else some E) from by
    unfold z1M;simp only [HRR.o];rw [if_neg (by simp [HRE.o])];simp only [hx])
   have HX:=hid hx
   have HFK:=hid hfk
   have HOL:=hid hol
   have HOK:=hid hokk
   rcases x with ⟨F',os,ec⟩
   simp only at HFK HOL HOK HEN
   clear hx hfk hol hokk hg hup hfI3 hltM hq9n
   obtain ⟨R,hR⟩:∃ R,z2F { E with runs:=up E.runs il ⟨F',r.pf,r.pr⟩ } il F'.run ia os=R:=⟨_,rfl⟩
   have HR:=hid hR
   obtain ⟨X,hX⟩:∃ X,(if ec=0 then R else if ec=4 then none else some E)=X:=⟨_,rfl⟩
   have HXE:=hid (show z1M E (ia,il,ir,ie,it_,ik)=X from HEN.o.trans (by rw [hR];exact hX))
   have HXX:=hid hX
   clear hX hR HEN
   obtain ⟨x0,x1,x2,x3,x4,x5⟩:=z2W HBQ3.o
   have zl:=block_lt HBQ3.o
   have hq1:¬ w.heap.size=q9:=by have:=HQ9.o;omega
   have hq2:¬ q9=w.heap.size:=by have:=HQ9.o;omega
   go_upto_region 5 with (go_at_call 75;(refine HTW.o.mono ?_;rintro en w5 ⟨k',mb',rfl,hk',hmb',hne',g2,hr2,hM2⟩;have HR2:=hid hr2;have G2':=hid g2;have HB2:=hid ((g2.block q9 ul).trans HQ3.o);have hbx5:=(g2.block _ (block_lt HBQ3.o)).trans HBQ3.o;have HBQ5:=hid hbx5;have fz:=z00 (j:=0) HB2.o;obtain ⟨p0,p1,p2⟩:=z0o HB2.o;clear x0 x1 x2 x3 x4 x5;obtain ⟨x0,x1,x2,x3,x4,x5⟩:=z2W hbx5;have zl5:=block_lt hbx5;have hb2:=block_lt HB2.o;have HM2:=hid hM2;clear hr2 g2 hM2 hbx5))
   go_wp2_with fail
   have g3:Gr w (w5.setCell ⟨q9,0,none⟩ (.pointer (some ⟨k',0,none⟩))):=(G3.o.trans G2'.o).set (p:=⟨q9,0,none⟩) (by have:=HQ9.o;show w.heap.size≤q9;omega) _
   have hs3:(w5.setCell ⟨q9,0,none⟩ (.pointer (some ⟨k',0,none⟩))).heap.size=w5.heap.size:=by simp [World.setCell]
   have hkn:¬ M k':=fun e=>by have:=H.o.lt k' e;have:=G3.o.size;omega
   have hmn:¬ M mb':=fun e=>by have:=H.o.lt mb' e;have:=G3.o.size;omega
   have hff:=HR2.o.twinF hne' (fun e=>by rcases e with e | e;exact hmn e;omega)
   have hff3:z0O (w5.setCell ⟨q9,0,none⟩ (.pointer (some ⟨k',0,none⟩))) (z1H (fun b=>M b∨b=q9) k') k' r.f:=z2a hff (.inl (.inr rfl)) (by omega)
   have hlt3:∀ b,z1H (fun b=>M b∨b=q9) k' b→b<(w5.setCell ⟨q9,0,none⟩ (.pointer (some ⟨k',0,none⟩))).heap.size:=fun b e=>by
    rw [hs3]
    rcases e with e | e
    ·exact Nat.lt_of_lt_of_le (HLT.o b e) G2'.o.size
    ·rw [e];exact HR2.o.lt.1
   have hcall:=zdD PUT k' r.f ik ie it_ ia (z1H (fun b=>M b∨b=q9) k') _ hff3 hlt3 (.inr rfl) HFOK.o.1
   rw [HX.o] at hcall
   refine hcall.mono ?_
   rintro en w4 ⟨A4,c4,rfl,hf4,ho4,hm4⟩
   have HFI:=hid (hf4.stay (M:=M) (fun b e=>.inl (.inl e)) hkn)
   have HREC:=hid (ho4.up (z1S w4 (M:=M) (M':=z1H (fun b=>M b∨b=q9) k') (fun b e=>.inl (.inl e))))
   have G4:=hid (gr_k g3 hm4 (by have:=G3.o.size;omega))
   have HB4:=hid ((hm4.block q9 (by rw [hs3];exact hb2) (by show ¬ q9=k';omega)).trans (z02 HB2.o (j:=0) _))
   have HBQ4:=hid ((hm4.block w.heap.size (by rw [hs3];exact zl5) (by show ¬ w.heap.size=k';have:=G3.o.size;have:=HQ9.o;omega)).trans (((z0m (S:=fun b=>b=q9) ((Gr.refl w5).mod _) (b:=q9) (j:=0) (fun _=>rfl) _).block w.heap.size zl5 (by show ¬ w.heap.size=q9;have:=HQ9.o;omega)).trans HBQ5.o))
   clear hf4 ho4 hm4 hff hff3 g3 hs3 hcall hlt3
   go_upto_region 6 with fail
   obtain ⟨p0,p1,p2⟩:=z0o HB4.o
   have hl4:=block_lt HB4.o
   clear x0 x1 x2 x3 x4 x5
   obtain ⟨x0,x1,x2,x3,x4,x5⟩:=z2W HBQ4.o
   have zl4:=block_lt HBQ4.o
   have P4:=hid (H.o.gr G4.o)
   obtain ⟨_,_,_,_,_,f5,_,hk4⟩:=P4.o.cells
   obtain ⟨kv,hmi,hrel⟩:=P4.o.r
   have HMI:=hid hmi
   have HREL:=hid hrel
   clear hmi hrel
   have HNX:=hid (z1Y (E:=E) (id:=il) (r:=⟨F',r.pf,r.pr⟩) (fun _=>⟨HFK.o.1,HFK.o.2.1.trans HFOK.o.2⟩))
   by_cases h0:ec=0
   ·subst h0
    have hxr:=HXX.o
    simp only [if_true] at hxr
    subst hxr
    cases R with
    | none =>
     go_upto_region 8 with fail
     refine z01 [(0,false),(1,false),(2,false),(3,false),(4,false),(5,false),(6,false),(7,true)] (fun W=>Gr w4 W) (by kernel_rfl) (by kernel_rfl) (fun _ _ d _ _ h=>by cases d<;>exact h) (Gr.refl w4).drew (fun _=>?_)
     iterate 7 (refine z03 (v:=?_) rfl (by rfl) ?_ ?_;rotate_left;(focus (intro W9 hW9;obtain ⟨x9,rfl⟩:∃ x:Ext w4,W9=x.val:=⟨⟨W9,hW9⟩,rfl⟩;go_simp;(try with_reducible rfl);done));(try simp only [AP]))
     refine z06 rfl (by rfl) (fun K hK=>?_)
     refine z0f _ _ _ _ 76 rfl 3 109 Tryz.underlying76 Tryz.underlying3 mr kv il (runV k' r.pf r.pr) (by rfl) (HMI.o.gr (Gr.refl w4).drew) (by rfl) (by rfl) ?_
     intro w7 hmi7 hm7
     have P7:=hid ((P4.o.gr (Gr.refl w4).drew).putRun hm7 (HREL.o.mono fun a v hr=>hr.up (Gr.up (Gr.refl w4).drew M)) hmi7 (HFI.o.up (Gr.up (Gr.refl w4).drew M)))
     have AL:=hid (show z0j w M S w7 M S from ⟨(G4.o.drew.mod S).trans hm7 (fun b _ e=>e▸H.o.smr),fun _ _ e=>e,fun _ _ e=>e,fun _ e=>e⟩)
     have HREC7:=hid (HREC.o.up ((Gr.up (Gr.refl w4).drew M).trans (Mod.up hm7 (fun b _ e=>e▸H.o.SM _ H.o.smr))))
     have HOUT:=hid (z42 PUT k { E with runs:=up E.runs il ⟨F',r.pf,r.pr⟩ } il ia os _ M S w7 P7.o (HNX.o.ok hE) ⟨F',r.pf,r.pr⟩ (z0g _ _ _) HREC7.o (by have:=HOL.o;simp;omega) (fun o ho=>by have:=HOK.o o ho;omega))
     try simp only at HOUT
     rw [HR.o] at HOUT
     have hq7:=(hm7.block w.heap.size (show w.heap.size<w4.drew.heap.size from block_lt HBQ4.o) (by have h1:=H.o.lt _ (H.o.SM _ H.o.smr);show ¬ w.heap.size=mr;omega)).trans HBQ4.o
     clear x0 x1 x2 x3 x4 x5 zl4
     obtain ⟨x0,x1,x2,x3,x4,x5⟩:=z2W hq7
     have zl7:=block_lt hq7
     refine hK.o _ _ ?_
     clear hK K hmi7 hm7 hq7
     go_wp2_with (go_at_call 77;go_loud ((refine HOUT.o.mono ?_;intro en w9 hret;rcases hret.cases with ⟨_,v9,hen,hv9,hm9⟩ | ⟨E9,M9,S9,e9,_⟩;rotate_left;(cases e9);have hv9':v9=.bool false:=hv9;subst hv9';subst hen;have HM9:=hid hm9;clear hret hm9 hv9)))
     go_ret
     rw [HXE.o]
     exact RetS.none_ AL.o HM9.o rfl
    | some E' =>
     go_upto_region 8 with fail
     refine z01 [(0,false),(1,false),(2,false),(3,false),(4,false),(5,false),(6,false),(7,true)] (fun W=>Gr w4 W) (by kernel_rfl) (by kernel_rfl) (fun _ _ d _ _ h=>by cases d<;>exact h) (Gr.refl w4).drew (fun _=>?_)
     iterate 7 (refine z03 (v:=?_) rfl (by rfl) ?_ ?_;rotate_left;(focus (intro W9 hW9;obtain ⟨x9,rfl⟩:∃ x:Ext w4,W9=x.val:=⟨⟨W9,hW9⟩,rfl⟩;go_simp;(try with_reducible rfl);done));(try simp only [AP]))
     refine z06 rfl (by rfl) (fun K hK=>?_)
     refine z0f _ _ _ _ 76 rfl 3 109 Tryz.underlying76 Tryz.underlying3 mr kv il (runV k' r.pf r.pr) (by rfl) (HMI.o.gr (Gr.refl w4).drew) (by rfl) (by rfl) ?_
     intro w7 hmi7 hm7
     have P7:=hid ((P4.o.gr (Gr.refl w4).drew).putRun hm7 (HREL.o.mono fun a v hr=>hr.up (Gr.up (Gr.refl w4).drew M)) hmi7 (HFI.o.up (Gr.up (Gr.refl w4).drew M)))
     have AL:=hid (show z0j w M S w7 M S from ⟨(G4.o.drew.mod S).trans hm7 (fun b _ e=>e▸H.o.smr),fun _ _ e=>e,fun _ _ e=>e,fun _ e=>e⟩)
     have HREC7:=hid (HREC.o.up ((Gr.up (Gr.refl w4).drew M).trans (Mod.up hm7 (fun b _ e=>e▸H.o.SM _ H.o.smr))))
     have HOUT:=hid (z42 PUT k { E with runs:=up E.runs il ⟨F',r.pf,r.pr⟩ } il ia os _ M S w7 P7.o (HNX.o.ok hE) ⟨F',r.pf,r.pr⟩ (z0g _ _ _) HREC7.o (by have:=HOL.o;simp;omega) (fun o ho=>by have:=HOK.o o ho;omega))
     try simp only at HOUT
     rw [HR.o] at HOUT
     have hq7:=(hm7.block w.heap.size (show w.heap.size<w4.drew.heap.size from block_lt HBQ4.o) (by have h1:=H.o.lt _ (H.o.SM _ H.o.smr);show ¬ w.heap.size=mr;omega)).trans HBQ4.o
     clear x0 x1 x2 x3 x4 x5 zl4
     obtain ⟨x0,x1,x2,x3,x4,x5⟩:=z2W hq7
     have zl7:=block_lt hq7
     refine hK.o _ _ ?_
     clear hK K hmi7 hm7 hq7
     go_wp2_with (go_at_call 77;go_loud ((refine HOUT.o.mono ?_;intro en w9 hret;rcases hret.cases with ⟨e9,_⟩ | ⟨E9,M9,S9,e9,hen,he9,ha9⟩;(cases e9);injection e9 with e9;subst e9;subst hen;have HE9:=hid he9;have HA9:=hid ha9;clear hret he9 ha9)))
     go_ret
     rw [HXE.o]
     exact RetS.some_ (AL.o.trans HA9.o) HE9.o
   by_cases h4:ec=4
   ·subst h4
    have hxr:=HXX.o
    simp only [show ¬ (4:Int)=0 by decide,if_false,if_true] at hxr
    subst hxr
    go_wp2_with fail
    go_ret
    rw [HXE.o]
    exact RetS.full (G4.o.mod S) rfl
   ·have hxr:=HXX.o
    rw [if_neg h0,if_neg h4] at hxr
    subst hxr
    go_wp2_with fail
    go_ret
    rw [HXE.o]
    exact RetS.done ⟨kd,ka,md,ma,mr,kh,hv,P4.o⟩ (G4.o.mod S)
theorem EngP.setNow {w w':World} {M S:Bl} {k kd ka md ma mr kh:Nat} {hv:Value} {E:ES} (h:EngP w M S k E kd ka md ma mr kh hv) (n:Int) (m:Mod (fun b=>b=k) w w')
  (hc:w'.heap[k]?=some (.cells (engC { E with now:=n } kd ka mr kh) 79 (0,0))):EngP w' M S k { E with now:=n } kd ka md ma mr kh hv:=by
 have u:Up M w M w':=Mod.up m (fun _ _ e=>e▸h.SM _ h.sk)
 obtain ⟨n1,n2,n3,n4,n5,n6,n7,n8⟩:=h.nes
 obtain ⟨kv,h1,h2⟩:=h.r
 have keepb:∀ b,b<w.heap.size→b≠k→w'.heap[b]?=w.heap[b]?:=fun b hb hne=>m.block b hb hne
 have hkd:kd≠k:=fun e=>h.nd (e▸h.SM _ h.sk)
 have hka:ka≠k:=fun e=>h.na (e▸h.SM _ h.sk)
 refine ⟨hc,h.d.up u (keepb _ h.d.lt.1 hkd) (keepb _ h.d.lt.2 (fun e=>n2 e.symm)),h.a.up u (keepb _ h.a.lt.1 hka) (keepb _ h.a.lt.2 (fun e=>n3 e.symm)),⟨kv,h1.keep (keepb _ h1.lt (fun e=>n1 e.symm)),h2.mono fun a v hr=>hr.up u⟩,?_,h.sk,h.smd,h.sma,h.smr,h.skh,h.shv,h.nd,h.na,h.ne1,h.ne2,h.ne3,h.SM,fun b e=>Nat.lt_of_lt_of_le (h.lt b e) m.size⟩
 refine ⟨h.h.lo,(keepb _ h.h.lt (fun e=>n7 e.symm)).trans h.h.cell,h.h.row.1,?_⟩
 rcases h.h.row.2 with h3 | ⟨g',cap,cur,hv',hb,hh,r⟩
 ·exact .inl h3
 ·exact .inr ⟨g',cap,cur,hv',hb,(keepb _ (block_lt hh) (n8 g' (by rw [hv'];rfl)).2.2.2.1).trans hh,r⟩
def RetK (M S:Bl) (k:Nat) (x:Int × ES) (w:World) (en:Ending) (w2:World):Prop:=∃ M' S',en=.returned (.int .i64 x.1)∧EngR w2 M' S' k x.2∧z0j w M S w2 M' S'
set_option maxHeartbeats 8000000 in
theorem z5W (PUT:z0e) (k:Nat) (E:ES) (n:Int) (M S:Bl) (w:World) (h:EngR w M S k E) (hE:EOk E) (hdue:E.due.length≤990000):Calls Tryz.prog 23 #[.pointer (some ⟨k,0,none⟩),.int .i64 n] w (RetK M S k (z0S E n) w):=by
 have HENG:=hid h
 have HE:=hid hE
 have HDUE:=hid hdue
 have hnow:=hE.now
 obtain ⟨kd,ka,md,ma,mr,kh,hv,hP⟩:=h
 obtain ⟨e0,e1,e2,e3,e4,e5,e6,hkl⟩:=hP.cells
 clear hE hdue hP
 by_cases n1:n<1
 ·have hX:z0S E n=(1,E):=by unfold z0S;rw [if_pos (.inl n1)]
  rw [hX]
  go_enter Tryz.func23,Tryz.ntmps23
  go_wp2_with fail
  go_ret
  exact ⟨M,S,rfl,HENG.o,z0j.refl _ _ _⟩
 by_cases n2:1048576<n
 ·have hX:z0S E n=(1,E):=by unfold z0S;rw [if_pos (.inr n2)]
  rw [hX]
  go_enter Tryz.func23,Tryz.ntmps23
  go_wp2_with fail
  go_ret
  exact ⟨M,S,rfl,HENG.o,z0j.refl _ _ _⟩
 have kw:IntKind.i64.wrap (1099511627776-n)=1099511627776-n:=IntWalk.i64_in _ (by omega)
 by_cases n3:1099511627776-n<E.now
 ·have hX:z0S E n=(4,E):=by unfold z0S;rw [if_neg (by omega),if_pos n3]
  rw [hX]
  go_enter Tryz.func23,Tryz.ntmps23
  go_wp2_with fail
  go_ret
  exact ⟨M,S,rfl,HENG.o,z0j.refl _ _ _⟩
 have kw2:IntKind.i64.wrap (E.now+n)=E.now+n:=IntWalk.i64_in _ (by omega)
 obtain ⟨R,hR⟩:∃ R,z1t (E.now+n) E.due.length E=R:=⟨_,rfl⟩
 have hX:z0S E n=(0,{ R with now:=E.now+n }):=by unfold z0S;rw [if_neg (by omega),if_neg n3,hR]
 rw [hX]
 have HR:=hid hR
 clear hX hR
 go_enter Tryz.func23,Tryz.ntmps23
 go_upto_region 6 with fail
 obtain ⟨x9,hx9⟩:∃ x,E.now+n=x:=⟨_,rfl⟩
 rw [hx9] at HR kw2 ⊢
 have hxb:1≤x9∧x9≤1099511627776:=by omega
 have kw3:IntKind.i64.wrap (x9+1)=x9+1:=IntWalk.i64_in _ (by omega)
 have HX9:=hid hx9
 clear hx9 hxb kw hnow n3
 go_loopg [] (cntD x9 E.due) (fun g wr=>∃ (Ei:ES) (Mi Si:Bl) (m:Nat),EngR wr Mi Si k Ei∧EOk Ei∧Ei.due.length≤990000∧z1t x9 m Ei=R∧g=cntD x9 Ei.due∧cntD x9 Ei.due≤m∧z0j w M S wr Mi Si)
 case atStart=>exact ⟨E,M,S,_,HENG.o,HE.o,HDUE.o,HR.o,rfl,zeS _ _,z0j.refl _ _ _⟩
 case round =>
  obtain ⟨Ei,Mi,Si,m,heng,hEi,hdi,hR,rfl,hcm,hal⟩:=hrel
  clear e0 e1 e2 e3 e4 e5 e6 hkl kd ka md ma mr kh hv
  obtain ⟨kd,ka,md,ma,mr,kh,hv,hPi⟩:=heng
  obtain ⟨e0,e1,e2,e3,e4,e5,e6,hkl⟩:=hPi.cells
  have HPI:=hid hPi
  have HEI:=hid hEi
  have HDI:=hid hdi
  have HRI:=hid hR
  have HCM:=hid hcm
  have HAL:=hid hal
  clear hPi hEi hdi hR hcm hal
  go_wp2_with fail
  refine (zee 0 kh hv Ei.due x9 wr HPI.o.h HEI.o.due (Nat.le_trans HDI.o (by omega))).mono ?_
  intro en w1 hret
  cases hdu:due Ei.due x9 with
  | false =>
   have HDU:=hid hdu
   rw [show z9d Ei.due x9=Ei.due from by unfold z9d;rw [hdu];rfl,hdu] at hret
   simp only [Bool.false_eq_true,if_false,iv,z0] at hret
   obtain ⟨v',rfl,-⟩:=id hret
   obtain ⟨E1,M1,S1,hE1,-,heng1,hal1⟩:=(HPI.o.retDue (vok:=.int .i64 0) (vfull:=fun _=>False) hret).cases.resolve_left (fun e=>by cases e.1)
   injection hE1 with hE1
   have hE1':E1=Ei:=hE1.symm
   subst hE1'
   clear hret e0 e1 e2 e3 e4 e5 e6 hkl hdu hE1
   go_upto_region 13 with fail
   have G2:=hid ((Gr.refl w1).alloc (.cells #[.int .i64 0,.int .i64 0,.int .i64 0,.int .i64 0,.int .i64 0,.int .i64 0] 92))
   obtain ⟨w2,hw2⟩:∃ w2,w1.alloc (.cells #[.int .i64 0,.int .i64 0,.int .i64 0,.int .i64 0,.int .i64 0,.int .i64 0] 92)=w2:=⟨_,rfl⟩
   rw [hw2] at G2 ⊢
   clear hw2
   obtain ⟨kd',ka',md',ma',mr',kh',hv',hP2⟩:=heng1.gr G2.o
   have HP2:=hid hP2
   obtain ⟨e0,e1,e2,e3,e4,e5,e6,hkl⟩:=hP2.cells
   have z4:=z00 (j:=4) hP2.cell
   have M3:=hid (z0m (S:=fun b=>b=k) ((Gr.refl w2).mod _) (b:=k) (j:=4) (fun _=>rfl) (.int .i64 x9))
   have HC3:=hid (z02 (j:=4) hP2.cell (.int .i64 x9))
   have HAL1:=hid (HAL.o.trans (hal1.gr G2.o))
   clear hP2 heng1 hal1
   go_wp2_with fail
   go_ret
   have hRE:E1=R:=by rw [← HRI.o];exact (z2G HDU.o m).symm
   rw [HX9.o,← hRE]
   exact ⟨M1,S1,rfl,⟨_,_,_,_,_,_,_,HP2.o.setNow x9 M3.o HC3.o⟩,HAL1.o.trans ⟨M3.o.mono (fun b _ e=>e▸HP2.o.sk),fun _ _ e=>e,fun _ _ e=>e,fun _ e=>e⟩⟩
  | true =>
   obtain ⟨i,r,hir⟩:∃ i r,Ei.due=i::r:=by
    cases h:Ei.due with
    | nil=>rw [h] at hdu;simp [due] at hdu
    | cons i r=>exact ⟨i,r,rfl⟩
   have hi9:i.1≤x9:=by
    rw [hir] at hdu
    simpa [due,hd] using hdu
   rw [show z9d Ei.due x9=r from by unfold z9d;rw [hdu,hir];rfl,hdu,show hd Ei.due=i from by rw [hir];rfl] at hret
   simp only [if_true] at hret
   obtain ⟨ia,il,ir,ie,it_,ik⟩:=i
   simp only [iv] at hret
   obtain ⟨v',rfl,-⟩:=id hret
   obtain ⟨E1,M1,S1,hE1,-,heng1,hal1⟩:=(HPI.o.retDue (vok:=.int .i64 0) (vfull:=fun _=>False) hret).cases.resolve_left (fun e=>by cases e.1)
   injection hE1 with hE1
   subst hE1
   have HE1:=hid (show EOk { Ei with due:=r } from ⟨HEI.o.sh,HEI.o.now,HEI.o.rn,HEI.o.run,HEI.o.d,HEI.o.a,by
    have:=HEI.o.due
    rw [hir] at this
    exact (List.pairwise_cons.1 this).2⟩)
   have HD1:=hid (show ({ Ei with due:=r }:ES).due.length≤990000 from by
    have:=HDI.o
    rw [hir] at this
    simp only [List.length_cons] at this ⊢
    omega)
   have HIR:=hid (And.intro hir hi9)
   have H1:=hid heng1
   have HAL1:=hid (HAL.o.trans hal1)
   clear hret e0 e1 e2 e3 e4 e5 e6 hkl hdu hir hi9 heng1 hal1
   go_upto_region 8 with fail
   have HB2:=hid (heap_alloc_new w1 (.cells #[.int .i64 ia,.int .i64 il,.int .i64 ir,.int .i64 ie,.int .i64 it_,.int .i64 ik] 92))
   have G2:=hid ((Gr.refl w1).alloc (.cells #[.int .i64 ia,.int .i64 il,.int .i64 ir,.int .i64 ie,.int .i64 it_,.int .i64 ik] 92))
   obtain ⟨w2,hw2⟩:∃ w2,w1.alloc (.cells #[.int .i64 ia,.int .i64 il,.int .i64 ir,.int .i64 ie,.int .i64 it_,.int .i64 ik] 92)=w2:=⟨_,rfl⟩
   rw [hw2] at HB2 G2 ⊢
   clear hw2
   obtain ⟨q6,hq6⟩:∃ q6,w1.heap.size=q6:=⟨_,rfl⟩
   rw [hq6] at HB2 ⊢
   have HQ6:=hid hq6
   clear hq6
   go_wp2_with fail
   refine (z3U k _ M1 S1 w2 (H1.o.gr G2.o) (Nat.le_trans HD1.o (by omega))).mono ?_
   rintro en w7 ⟨M7,S7,k7,rfl,g7,heng7,hMM,hMo,hS7⟩
   have HT:=hid (And.intro hMM (And.intro hMo hS7))
   have G7:=hid g7
   have HE7:=hid heng7
   have hb7:=(g7.block _ (block_lt HB2.o)).trans HB2.o
   have HB7:=hid hb7
   obtain ⟨x0,x1,x2,x3,x4,x5⟩:=z2W hb7
   have l7:=block_lt hb7
   clear hMM hMo hS7 g7 heng7 hb7
   go_wp2_with fail
   refine (zbJ PUT k7 _ (ia,il,ir,ie,it_,ik) M7 S7 w7 HE7.o HE1.o (Nat.le_trans HD1.o (by omega))).mono ?_
   intro en w8 hret2
   rcases hret2.cases with ⟨hf,v,rfl,hv,m8⟩ | ⟨E',M8,S8,hf,rfl,heng8,hal8⟩
   ·have hv':v=.bool false:=hv
    subst hv'
    have G28:=hid (z2c G7.o m8 HT.o.2.2)
    have HF:=hid hf
    clear m8 hf hret2 x0 x1 x2 x3 x4 x5
    have hb8:=(G28.o.block _ (block_lt HB2.o)).trans HB2.o
    have HB8:=hid hb8
    obtain ⟨x0,x1,x2,x3,x4,x5⟩:=z2W hb8
    have l8:=block_lt hb8
    have z0:=z00 (j:=0) hb8
    have M9:=hid (z0m (S:=fun b=>b=q6) ((Gr.refl w8).mod _) (b:=q6) (j:=0) (fun _=>rfl) (.int .i64 (x9+1)))
    have HB9:=hid (z02 (j:=0) hb8 (.int .i64 (x9+1)))
    clear hb8
    go_upto_region 12 with fail
    obtain ⟨w9,hw9⟩:∃ w9,w8.setCell ⟨q6,0,none⟩ (.int .i64 (x9+1))=w9:=⟨_,rfl⟩
    rw [hw9] at M9 HB9 ⊢
    clear hw9 x0 x1 x2 x3 x4 x5 z0 l8
    have G19:=hid (gr_k (G2.o.trans G28.o) M9.o (Nat.le_of_eq HQ6.o))
    obtain ⟨kd',ka',md',ma',mr',kh',hv',hP9⟩:=H1.o.gr G19.o
    have HP9:=hid hP9
    have HC9:=hid (fun W (g:Gr w9 W)=>(hP9.gr g).cells)
    have HX9':=hid (fun W (g:Gr w9 W)=>z2W ((g.block _ (block_lt HB9.o)).trans HB9.o))
    have lq9:=block_lt HB9.o
    clear hP9
    refine z01 [(0,false),(1,false),(2,false),(3,false),(4,false),(5,true)] (fun W=>Gr w9 W) (by kernel_rfl) (by kernel_rfl) (fun _ _ d _ _ h=>by cases d<;>exact h) (Gr.refl w9).drew (fun _=>?_)
    iterate 5 (refine z03 (v:=?_) rfl (by rfl) ?_ ?_;rotate_left;(focus (intro W9 hW9;obtain ⟨e0,e1,e2,e3,e4,e5,e6,ekl⟩:=HC9.o W9 hW9;obtain ⟨x0,x1,x2,x3,x4,x5⟩:=HX9'.o W9 hW9;have lx:=Nat.lt_of_lt_of_le lq9 (Gr.size hW9);go_simp;(try with_reducible rfl);done));(try simp only [AP]))
    refine z06 rfl (by rfl) (fun K hK=>?_)
    go_simp
    go_at_call 44
    refine (z6D 0 kh' hv' r (x9+1,il,ir,ie,it_,ik) _ (HP9.o.gr (Gr.refl w9).drew).h HE1.o.due (Nat.le_trans HD1.o (by omega)) (Nat.zero_le _)).mono ?_
    intro en w10 hret3
    obtain ⟨v'',rfl,-⟩:=id hret3
    obtain ⟨E2,M2,S2,hE2,-,heng2,hal2⟩:=((HP9.o.gr (Gr.refl w9).drew).retDue (vok:=.int .i64 0) (vfull:=fun _=>False) hret3).cases.resolve_left (fun e=>by cases e.1)
    injection hE2 with hE2
    subst hE2
    refine hK.o _ _ ?_
    clear hK K
    go_wp2_with fail
    go_roundg (cntD x9 r)
    case rel =>
     obtain ⟨hir,hi9⟩:=HIR.o
     have hcm:=HCM.o
     rw [hir,z4o hi9] at hcm
     obtain ⟨m',rfl⟩:∃ m',m=m'+1:=⟨m-1,by omega⟩
     have hR:=HRI.o
     rw [z3i hir hi9,HF.o] at hR
     have hlen:=z4k r (x9+1,il,ir,ie,it_,ik)
     have hD:=HDI.o
     rw [hir] at hD
     simp only [List.length_cons] at hD
     exact ⟨{ Ei with due:=addD r (x9+1,il,ir,ie,it_,ik) },M2,S2,m',heng2,⟨HEI.o.sh,HEI.o.now,HEI.o.rn,HEI.o.run,HEI.o.d,HEI.o.a,z4l HE1.o.due _⟩,by simp only;omega,hR,(z9u x9 r (il,ir,ie,it_,ik)).symm,by simp only [z9u];omega,(HAL1.o.trans ((z0j.refl w1 M1 S1).gr (G19.o.trans (Gr.refl w9).drew))).trans hal2⟩
    case measure=>rw [HIR.o.1,z4o HIR.o.2];omega
   ·obtain ⟨kd8,ka8,md8,ma8,mr8,kh8,hv8,hP8⟩:=heng8
    have HP8:=hid hP8
    have HAL8:=hid hal8
    have HF:=hid hf
    obtain ⟨kd1,ka1,md1,ma1,mr1,kh1,hv1,hP1⟩:=H1.o
    have hkl1:k<w1.heap.size:=block_lt hP1.cell
    have hS7k:¬ S7 k:=fun e=>by have:=HT.o.2.2 k e;have:=G2.o.size;omega
    have hk8:=(hal8.mod.block k (Nat.lt_of_lt_of_le hkl1 (G2.o.trans G7.o).size) hS7k).trans (((G2.o.trans G7.o).block k hkl1).trans hP1.cell)
    have HK8:=hid hk8
    have hsk:=hP1.sk
    have hsm:=hP1.SM k hP1.sk
    obtain ⟨g0,g1,g2,g3,g4,g5,g6,g7⟩:=hP8.cells
    have hkl8:=block_lt hk8
    have z0:=z00 (j:=0) hk8
    have z1:=z00 (j:=1) hk8
    have z2:=z00 (j:=2) hk8
    have z3:=z00 (j:=3) hk8
    have z4:=z00 (j:=4) hk8
    have z5:=z00 (j:=5) hk8
    have z6:=z00 (j:=6) hk8
    obtain ⟨y0,y1,y2,y3,y4,y5,y6⟩:=z0p hk8
    clear hP8 hal8 hf hret2 hk8 hP1 x0 x1 x2 x3 x4 x5
    go_wp2_with fail
    clear y0 y1 y2 y3 y4 y5 y6
    obtain ⟨w9,hw9,m9,hc9⟩:=z4z (a':=.pointer (some ⟨kd8,0,none⟩)) (b':=.pointer (some ⟨ka8,0,none⟩)) (c':=.int .i64 E'.shard) (d':=.int .i64 E'.groups) (e':=.int .i64 E'.now) (f':=.map (some mr8)) (g':=.pointer (some ⟨kh8,0,none⟩)) HK8.o
    rw [hw9]
    have hkM:M8 k:=HAL8.o.mm k (HT.o.1 k hsm)
    have hkS:¬ S8 k:=fun e=>hS7k (HAL8.o.s k (Nat.lt_of_lt_of_le hkl1 (G2.o.trans G7.o).size) e)
    have H10:=HP8.o.move m9 hc9 hkM hkS
    have HAL10:=z3W HAL1.o G2.o G7.o HT.o.1 HT.o.2.1 HT.o.2.2 HAL8.o m9 hsk
    obtain ⟨hnx,hdue9⟩:=z4J HF.o
    go_roundg (cntD x9 r)
    case rel =>
     obtain ⟨hir,hi9⟩:=HIR.o
     have hcm:=HCM.o
     rw [hir,z4o hi9] at hcm
     obtain ⟨m',rfl⟩:∃ m',m=m'+1:=⟨m-1,by omega⟩
     have hR:=HRI.o
     rw [z3i hir hi9,HF.o] at hR
     exact ⟨E',M8,_,m',⟨_,_,_,_,_,_,_,H10⟩,hnx.ok HE1.o,by rw [hdue9];exact HD1.o,hR,by rw [hdue9],by rw [hdue9];simp only;omega,HAL10⟩
    case measure=>rw [HIR.o.1,z4o HIR.o.2];omega
theorem zdv {E:ES} {m:Nat} (h:E1 E m) (n:Int):E1 (z0S E n).2 m:=⟨(z2x E n).1 h.ok,(z2x E n).2.2.1.trans h.g,Nat.le_trans (z2x E n).2.1 h.due⟩
theorem zeV {E:ES} (h:EOk E) (hc:EC E) (n:Int):EC (z0S E n).2:=by
 unfold z0S
 split
 ·exact hc
 split
 ·exact hc
 ·exact z8R (E.now+n) E.due.length E h hc
structure Lc (w0 w:World) (M S:Bl) (k:Nat) (E:ES) (n:Nat):Prop where
 lw:Lw w0 w M S k E n
 ec:EC E
section
variable {w0 w w' w2:World} {M S M2 S2:Bl} {k n:Nat} {E E':ES}
end
def zfZ (w0:World) (M S:Bl) (k:Nat) (x:Ans × ES) (n:Nat) (w:World) (en:Ending) (w2:World):Prop :=
 ∃ A c A' c' M' S',en=.returned (ansV x.1 (.slice A x.1.data.length c) (.slice A' x.1.events.length c'))∧Lc w0 w2 M' S' k x.2 (n+100)∧z0j w M S w2 M' S'∧z08 evR w2 M' (.slice A' x.1.events.length c') x.1.events
def zha (w0:World) (M S:Bl) (k:Nat) (x:Ans × ES) (n:Nat) (w:World) (en:Ending) (w2:World):Prop:=∃ M' S',en=.returned (.int .i64 x.1.err)∧Lc w0 w2 M' S' k x.2 (n+100)∧z0j w M S w2 M' S'
def zhb (w0:World) (M S:Bl) (k:Nat) (x:Int × ES) (n:Nat) (w:World) (en:Ending) (w2:World):Prop:=∃ M' S',en=.returned (.int .i64 x.1)∧Lc w0 w2 M' S' k x.2 n∧z0j w M S w2 M' S'
theorem Lc.tick {w0 w:World} {M S:Bl} {k n:Nat} {E:ES} (h:Lc w0 w M S k E n) (x:Int) (hn:n≤990000) :
  Calls Tryz.prog 23 #[.pointer (some ⟨k,0,none⟩),.int .i64 x] w (zhb w0 M S k (z0S E x) n w):=by
 refine (z5W (fun k mb F e d M w h hk hmb hne hM hd hl hi h1 hw=>z5P k mb F e d M w h hk hmb hne hM hd hl hi h1 hw) k E x M S w h.lw.law.eng h.lw.law.e1.ok (Nat.le_trans h.lw.law.e1.due hn)).mono ?_
 rintro en w2 ⟨M',S',rfl,e2,al⟩
 exact ⟨M',S',rfl,⟨h.lw.step al e2 (zdv h.lw.law.e1 x),zeV h.lw.law.e1.ok h.ec x⟩,al⟩
structure ActD where
 op:Int
 c:Call
 last:Bool
 n:Int
def actC (a:ActD) (d l:Value):List Value:=[.int .i64 a.op,.int .i64 a.c.kind,.int .i64 a.c.flow,.int .i64 a.c.list,.int .i64 a.c.n,.int .i64 a.c.tok.flow,.int .i64 a.c.tok.run,.int .i64 a.c.tok.event,.int .i64 a.c.tok.turn,d,l,.bool a.last,.int .i64 a.n]
def zdd (w:World) (M:Bl) (A:Option Addr) (i:Nat) (a:ActD):Prop :=
 ∃ b off Ad cd Al cl,A=some ⟨b,off,none⟩∧b<w.heap.size∧¬ M b∧z0P w M a.c (.slice Ad a.c.data.length cd) (.slice Al a.c.l.length cl)∧a.c.l.length≤140737488351232 ∧
  ∀ j u,(actC a (.slice Ad a.c.data.length cd) (.slice Al a.c.l.length cl))[j]?=some u→w.cell? ⟨b,off+i * 13+j,none⟩=some u
def z6B (w:World) (M:Bl) (A:Option Addr) (xs:List ActD):Prop:=∀ i x,xs[i]?=some x→zdd w M A i x
theorem zdd.up {w w':World} {M M':Bl} {A:Option Addr} {i:Nat} {a:ActD} (h:zdd w M A i a) (u:Up M w M' w'):zdd w' M' A i a:=by
 obtain ⟨b,off,Ad,cd,Al,cl,e,hb,hM,hc,hl,hx⟩:=h
 exact ⟨b,off,Ad,cd,Al,cl,e,Nat.lt_of_lt_of_le hb u.size,u.not hb hM,hc.up u,hl,fun j v hj=>(World.cell?_of_block (u.block hb hM)).trans (hx j v hj)⟩
theorem z6B.up {w w':World} {M M':Bl} {A:Option Addr} {xs:List ActD} (h:z6B w M A xs) (u:Up M w M' w'):z6B w' M' A xs:=fun i x hx=>(h i x hx).up u
theorem z9w {w:World} {M:Bl}:∀ {l:List Dec} {ds:List Value},DatM w M (l.map decR) ds→∀ d∈l,d.data.length≤140737488351232
 | [],_,_,d,hd=>by cases hd
 | x::r,[],h,d,hd=>h.elim
 | x::r,e::es,h,d,hd=>by
  rcases List.mem_cons.1 hd with rfl | hd
  ·obtain ⟨_,_,_,h1,_⟩:=h.1
   exact h1
  ·exact z9w h.2 d hd
theorem z0P.datas {w:World} {M:Bl} {c:Call} {d l:Value} (h:z0P w M c d l):∀ d∈c.l,d.data.length≤140737488351232:=by
 obtain ⟨_,_,ds,_,_,hd,_⟩:=h.2
 exact z9w hd
def zfX (n:Nat) (w:World) (e:Ending) (w':World):Prop:=∃ b,e=.returned (.bool b)∧(b=true→n≤150)∧Gr w w'
set_option maxHeartbeats 8000000 in
theorem z8N (A:Option Addr) (c:Nat) (xs:List ActD) (M:Bl) (w:World) (h:z6B w M A xs) (hl:xs.length≤140737488351232) :
  Calls Tryz.prog 22 #[.slice A xs.length c] w (zfX xs.length w):=by
 have H:=hid h
 have HL:=hid hl
 obtain ⟨n,hn⟩:∃ n,xs.length=n:=⟨_,rfl⟩
 have HN:=hid hn
 rw [hn] at HL ⊢
 clear h hl hn
 go_enter Tryz.func22,Tryz.ntmps22
 go_wp2_with fail
 go_loopw [3,4] (fun nv iv wr=>∃ (x:Int) (i:Nat),nv=.int .i64 x∧iv=.int .i64 i∧i≤n∧Gr w wr) (fun _ iv _=>n-(intOf iv).toNat)
 case atStart=>exact ⟨0,0,rfl,rfl,Nat.zero_le _,Gr.refl w⟩
 case round =>
  obtain ⟨x,i,rfl,rfl,hi,hgr⟩:=hrel
  have HG:=hid hgr
  clear hgr
  have hLL:(n:Int)≤140737488351232:=by have:=HL.o;omega
  by_cases hlt:i<n
  ·obtain ⟨a,ha⟩:∃ a,xs[i]?=some a:=⟨_,List.getElem?_eq_getElem (by rw [HN.o];exact hlt)⟩
   have HA:=hid (H.o.up (Gr.up HG.o M) i a ha)
   obtain ⟨b,off,Ad,cd,Al,cl,rfl,hb,hM,hcm,hll,hx⟩:=HA.o
   have HCM:=hid hcm
   have c9:=hx 9 _ rfl
   have c10:=hx 10 _ rfl
   obtain ⟨ll,hll9⟩:∃ n,a.c.l.length=n:=⟨_,rfl⟩
   have HLL:=hid hll9
   rw [hll9] at c10 hll HCM
   generalize a.c.data.length=dl at *
   clear hx hcm HA ha hll9
   have hlz:(i:Int)<(n:Int):=by omega
   have hz2:(ll:Int)≤140737488351232:=by omega
   go_wp2_with fail
   go_quiet (fail)
   go_wp2_with fail
   go_loopw [3,5] (fun nv kv w3=>∃ (x:Int) (k:Nat),nv=.int .i64 x∧kv=.int .i64 k∧k≤ll∧Gr wr w3) (fun _ kv _=>ll-(intOf kv).toNat)
   case atStart=>exact ⟨_,0,rfl,rfl,Nat.zero_le _,(Gr.refl wr).drewN _⟩
   case round =>
    obtain ⟨x,j,rfl,rfl,hj,hg3⟩:=hrel
    have HG3:=hid hg3
    have hb3:=Nat.lt_of_lt_of_le hb hg3.size
    have c10':=(hg3.cell hb).trans c10
    clear hg3 c9
    by_cases hjl:j<ll
    ·obtain ⟨d,hd⟩:∃ d,a.c.l[j]?=some d:=⟨_,List.getElem?_eq_getElem (by rw [HLL.o];exact hjl)⟩
     obtain ⟨b',off',A',c',rfl,hb',-,-,-,-,-,-,d4⟩:=z6g (HCM.o.up (Gr.up HG3.o M)).2 hd
     generalize d.data.length=dl' at *
     have hjz:(j:Int)<(ll:Int):=by omega
     go_wp2_with fail
     go_roundw
     case rel=>exact ⟨_,j+1,rfl,by go_num,by omega,HG3.o⟩
     case measure=>simp [intOf];omega
    ·have hjz:¬ (j:Int)<(ll:Int):=by omega
     go_wp2_with fail
     go_roundw
     case rel=>exact ⟨_,i+1,rfl,by go_num,by omega,HG.o.trans HG3.o⟩
     case measure=>simp [intOf];omega
  ·have hlz:¬ (i:Int)<(n:Int):=by omega
   by_cases h150:n≤150
   ·have hz:(n:Int)≤150:=by omega
    by_cases hx:x≤16384
    all_goals (
     go_wp2_with fail
     go_ret
     exact ⟨_,rfl,fun _=>h150,HG.o⟩)
   ·have hz:¬ (n:Int)≤150:=by omega
    go_wp2_with fail
    go_ret
    exact ⟨_,rfl,fun e=>(by cases e),HG.o⟩
end Go.Proofs.YtniknicnnaiilaaGreat
end
