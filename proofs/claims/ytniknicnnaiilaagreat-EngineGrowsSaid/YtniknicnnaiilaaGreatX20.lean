/- Lemmas of the engine. -/
import Derived.Test.YtniknicnnaiilaaGreatX03
import Derived.Test.YtniknicnnaiilaaGreatX08
import Derived.Test.YtniknicnnaiilaaGreatX10
import Derived.Test.YtniknicnnaiilaaGreatX14
import Derived.Test.YtniknicnnaiilaaGreatX15
import Derived.Test.YtniknicnnaiilaaGreatX17
import Derived.Test.YtniknicnnaiilaaGreatX19
section
namespace Go.Proofs.YtniknicnnaiilaaGreat
set_option maxRecDepth 100000
open Go.RowKit Go.Ext Go.BigFrame Go.Maps Go.MapKept
attribute [local go_sem] Ext.cell Ext.frozen Ext.lt Ext.le s1 s2 s3 s4 s5 s6 t1 t2 t3 t4 t5 t6
attribute [local go_sem ↓] Go.wp_at_zero Go.wp_at_succ
def z1U (c:Call) (d l:Value):Array Value:=#[.int .i64 c.kind,.int .i64 c.flow,.int .i64 c.list,.int .i64 c.n,.int .i64 c.tok.flow,.int .i64 c.tok.run,.int .i64 c.tok.event,.int .i64 c.tok.turn,d,l]
def z0E (c:Call) (d l:Value):Value:=.agg (z1U c d l)
def z0P (w:World) (M:Bl) (c:Call) (d l:Value):Prop:=BysM w M d c.data∧z08 decR w M l c.l
theorem z0P.up {w w':World} {M M':Bl} {c:Call} {d l:Value} (h:z0P w M c d l) (u:Up M w M' w'):z0P w' M' c d l:=⟨h.1.up u,h.2.up u⟩
theorem z04 {W:World} {B:Nat} {t:TypeId} {a b c d e f g h i j:Value} (hh:W.heap[B]?=some (.cells #[a,b,c,d,e,f,g,h,i,j] t (0,0))):W.cell? ⟨B,0,none⟩=some a∧W.cell? ⟨B,1,none⟩=some b∧W.cell? ⟨B,2,none⟩=some c∧W.cell? ⟨B,3,none⟩=some d∧W.cell? ⟨B,4,none⟩=some e∧W.cell? ⟨B,5,none⟩=some f∧W.cell? ⟨B,6,none⟩=some g∧W.cell? ⟨B,7,none⟩=some h∧W.cell? ⟨B,8,none⟩=some i∧W.cell? ⟨B,9,none⟩=some j:=by
 refine ⟨?_,?_,?_,?_,?_,?_,?_,?_,?_,?_⟩<;>simp [World.cell?,hh]
def engC (E:ES) (kd ka mr kh:Nat):Array Value:=#[.pointer (some ⟨kd,0,none⟩),.pointer (some ⟨ka,0,none⟩),.int .i64 E.shard,.int .i64 E.groups,.int .i64 E.now,.map (some mr),.pointer (some ⟨kh,0,none⟩)]
theorem zcz (l:List Dec):zaO (z09 1) 0 l=l:=by
 unfold zaO
 simp [z4N]
set_option maxHeartbeats 2000000 in
theorem zag (PUT:z0e) (k kf kd ka mr kh:Nat) (E:ES) (c:Call) (d l:Value) (F:FS) (M:Bl) (w:World) (hk:w.heap[k]?=some (.cells (engC E kd ka mr kh) 79 (0,0))) (h:z0O w M kf F) (hM:∀ b,M b→b<w.heap.size) (hkf:M kf) (hne:k≠kf) (hF:FOk F) (hc:z0P w M c d l) (hkind:c.kind=2):Calls Tryz.prog 70 #[.pointer (some ⟨k,0,none⟩),.pointer (some ⟨kf,0,none⟩),z0E c d l] w (RetT M kf (askE (z09 E.groups) E c F) w):=by
 obtain ⟨Ad,cd,rfl⟩:=hc.1.shape
 obtain ⟨Al,cl,rfl,_⟩:=hc.2.shape
 have HK:=hid hk
 have H:=hid h
 have HC:=hid hc
 have HM:=hid hM
 have hkl:=block_lt hk
 have hfl:kf<w.heap.size:=hM _ hkf
 clear hk h hc hM
 rcases c with ⟨ck,cf,cli,cn,⟨tf,tr,te,tt⟩,cdat,cls⟩
 simp only [z0E,z1U] at *
 generalize hdl:cdat.length=dl at *
 generalize hll:cls.length=ll at *
 try simp only at hkind
 subst hkind
 rw [show askE (z09 E.groups) E ⟨2,cf,cli,cn,⟨tf,tr,te,tt⟩,cdat,cls⟩ F=z3B F cdat E.now from by simp [askE]]
 go_enter Tryz.func70,Tryz.ntmps70
 go_upto_region 4 with fail
 have G1:=hid (((Gr.refl w).alloc (.cells #[.int .i64 2,.int .i64 cf,.int .i64 cli,.int .i64 cn,.int .i64 tf,.int .i64 tr,.int .i64 te,.int .i64 tt,.slice Ad dl cd,.slice Al ll cl] 35)).alloc (.cells #[.int .i64 tf,.int .i64 tr,.int .i64 te,.int .i64 tt] 28))
 have HB:=hid ((((Gr.refl _).alloc (.cells #[.int .i64 tf,.int .i64 tr,.int .i64 te,.int .i64 tt] 28)).block w.heap.size (by simp)).trans (heap_alloc_new w (.cells #[.int .i64 2,.int .i64 cf,.int .i64 cli,.int .i64 cn,.int .i64 tf,.int .i64 tr,.int .i64 te,.int .i64 tt,.slice Ad dl cd,.slice Al ll cl] 35)))
 have HT:=hid (show ((w.alloc (.cells #[.int .i64 2,.int .i64 cf,.int .i64 cli,.int .i64 cn,.int .i64 tf,.int .i64 tr,.int .i64 te,.int .i64 tt,.slice Ad dl cd,.slice Al ll cl] 35)).alloc (.cells #[.int .i64 tf,.int .i64 tr,.int .i64 te,.int .i64 tt] 28)).heap[w.heap.size+1]?=some (.cells #[.int .i64 tf,.int .i64 tr,.int .i64 te,.int .i64 tt] 28 (0,0)) from by have:=heap_alloc_new (w.alloc (.cells #[.int .i64 2,.int .i64 cf,.int .i64 cli,.int .i64 cn,.int .i64 tf,.int .i64 tr,.int .i64 te,.int .i64 tt,.slice Ad dl cd,.slice Al ll cl] 35)) (.cells #[.int .i64 tf,.int .i64 tr,.int .i64 te,.int .i64 tt] 28);simpa using this)
 generalize hw1:((w.alloc (.cells #[.int .i64 2,.int .i64 cf,.int .i64 cli,.int .i64 cn,.int .i64 tf,.int .i64 tr,.int .i64 te,.int .i64 tt,.slice Ad dl cd,.slice Al ll cl] 35)).alloc (.cells #[.int .i64 tf,.int .i64 tr,.int .i64 te,.int .i64 tt] 28))=w1 at *
 clear hw1
 have HKK:=hid ((G1.o.block k hkl).trans HK.o)
 have hbl:=block_lt HB.o
 have htl:=block_lt HT.o
 have HS:=hid (show ∀ W,Mod (fun b=>b=kf) w1 W→∃ _:w.heap.size<W.heap.size∧w.heap.size+1<W.heap.size∧k<W.heap.size,(W.cell? ⟨w.heap.size,0,none⟩=some (.int .i64 2)∧W.cell? ⟨w.heap.size,8,none⟩=some (.slice Ad dl cd)∧W.cell? ⟨w.heap.size,9,none⟩=some (.slice Al ll cl))∧(W.cell? ⟨w.heap.size+1,2,none⟩=some (.int .i64 te)∧W.cell? ⟨w.heap.size+1,3,none⟩=some (.int .i64 tt))∧W.cell? ⟨k,4,none⟩=some (.int .i64 E.now) from fun W mm=>by
  have q0:=(mm.block w.heap.size hbl (by show ¬ w.heap.size=kf;omega)).trans HB.o
  have q1:=(mm.block (w.heap.size+1) htl (by show ¬ w.heap.size+1=kf;omega)).trans HT.o
  have q2:=(mm.block k (block_lt HKK.o) hne).trans HKK.o
  obtain ⟨a0,_,_,_,_,_,_,_,a8,a9⟩:=z04 q0
  refine ⟨⟨block_lt q0,block_lt q1,block_lt q2⟩,⟨a0,a8,a9⟩,?_,?_⟩
  ·exact ⟨by simp [World.cell?,q1],by simp [World.cell?,q1]⟩
  ·simp [World.cell?,q2,engC])
 refine z01 [(0,false),(1,false),(2,false),(3,false),(4,false),(5,false),(6,false),(7,true),(8,false),(9,false),(10,false),(11,true)] (fun W=>Mod (fun b=>b=kf) w1 W) (by kernel_rfl) (by kernel_rfl) (fun _ _ d _ _ h=>by cases d<;>exact h) ((Gr.refl w1).drew.mod _) (fun _=>?_)
 iterate 7 (refine z03 (v:=?_) rfl (by rfl) ?_ ?_;rotate_left;(focus (intro W9 hW9;obtain ⟨⟨_,_,_⟩,⟨a0,a8,a9⟩,⟨a2,a3⟩,a4⟩:=HS.o W9 hW9;go_simp;(try with_reducible rfl);done));(try simp only [AP]))
 refine z05 rfl (by rfl) (fun K hK=>?_)
 go_simp
 go_at_call 106
 refine (zaY PUT kf F _ cdat E.now M _ (H.o.gr (G1.o.trans (Gr.refl w1).drew)) (fun b e=>Nat.lt_of_lt_of_le (HM.o b e) (G1.o.trans (Gr.refl w1).drew).size) hkf hF (HC.o.1.up (Gr.up (G1.o.trans (Gr.refl w1).drew) M))).mono ?_
 rintro en w5 ⟨A5,c5,rfl,hf5,ho5,hm5⟩
 have M5:=hid ((((Gr.refl w1).drew.mod _).trans hm5 (fun _ _ e=>e)))
 refine hK.o (fun W=>Mod (fun b=>b=kf) w1 W) _ _ M5.o (fun W h=>h) (fun _=>?_)
 clear hK K
 (try simp only [AP])
 iterate 3 (refine z03 (v:=?_) rfl (by rfl) ?_ ?_;rotate_left;(focus (intro W9 hW9;obtain ⟨⟨_,_,_⟩,⟨a0,a8,a9⟩,⟨a2,a3⟩,a4⟩:=HS.o W9 hW9;go_simp;(try with_reducible rfl);done));(try simp only [AP]))
 refine z06 rfl (by rfl) (fun K hK=>?_)
 go_simp
 refine hK.o _ _ ?_
 clear hK K
 go_wp2_with fail
 go_ret2
 exact ⟨A5,c5,rfl,hf5,ho5,(G1.o.mod _).trans M5.o (fun _ _ e=>e)⟩
set_option maxHeartbeats 2000000 in
theorem z6G (PUT:z0e) (k kf kd ka mr kh:Nat) (E:ES) (c:Call) (d l:Value) (F:FS) (M:Bl) (w:World) (hk:w.heap[k]?=some (.cells (engC E kd ka mr kh) 79 (0,0))) (h:z0O w M kf F) (hM:∀ b,M b→b<w.heap.size) (hkf:M kf) (hne:k≠kf) (hF:FOk F) (hc:z0P w M c d l) (hkind:c.kind=4):Calls Tryz.prog 70 #[.pointer (some ⟨k,0,none⟩),.pointer (some ⟨kf,0,none⟩),z0E c d l] w (RetT M kf (askE (z09 E.groups) E c F) w):=by
 obtain ⟨Ad,cd,rfl⟩:=hc.1.shape
 obtain ⟨Al,cl,rfl,_⟩:=hc.2.shape
 have HK:=hid hk
 have H:=hid h
 have HC:=hid hc
 have HM:=hid hM
 have hkl:=block_lt hk
 have hfl:kf<w.heap.size:=hM _ hkf
 clear hk h hc hM
 rcases c with ⟨ck,cf,cli,cn,⟨tf,tr,te,tt⟩,cdat,cls⟩
 simp only [z0E,z1U] at *
 generalize hdl:cdat.length=dl at *
 generalize hll:cls.length=ll at *
 try simp only at hkind
 subst hkind
 rw [show askE (z09 E.groups) E ⟨4,cf,cli,cn,⟨tf,tr,te,tt⟩,cdat,cls⟩ F=z1a F cdat E.now from by simp [askE]]
 go_enter Tryz.func70,Tryz.ntmps70
 go_upto_region 8 with fail
 have G1:=hid (((Gr.refl w).alloc (.cells #[.int .i64 4,.int .i64 cf,.int .i64 cli,.int .i64 cn,.int .i64 tf,.int .i64 tr,.int .i64 te,.int .i64 tt,.slice Ad dl cd,.slice Al ll cl] 35)).alloc (.cells #[.int .i64 tf,.int .i64 tr,.int .i64 te,.int .i64 tt] 28))
 have HB:=hid ((((Gr.refl _).alloc (.cells #[.int .i64 tf,.int .i64 tr,.int .i64 te,.int .i64 tt] 28)).block w.heap.size (by simp)).trans (heap_alloc_new w (.cells #[.int .i64 4,.int .i64 cf,.int .i64 cli,.int .i64 cn,.int .i64 tf,.int .i64 tr,.int .i64 te,.int .i64 tt,.slice Ad dl cd,.slice Al ll cl] 35)))
 have HT:=hid (show ((w.alloc (.cells #[.int .i64 4,.int .i64 cf,.int .i64 cli,.int .i64 cn,.int .i64 tf,.int .i64 tr,.int .i64 te,.int .i64 tt,.slice Ad dl cd,.slice Al ll cl] 35)).alloc (.cells #[.int .i64 tf,.int .i64 tr,.int .i64 te,.int .i64 tt] 28)).heap[w.heap.size+1]?=some (.cells #[.int .i64 tf,.int .i64 tr,.int .i64 te,.int .i64 tt] 28 (0,0)) from by have:=heap_alloc_new (w.alloc (.cells #[.int .i64 4,.int .i64 cf,.int .i64 cli,.int .i64 cn,.int .i64 tf,.int .i64 tr,.int .i64 te,.int .i64 tt,.slice Ad dl cd,.slice Al ll cl] 35)) (.cells #[.int .i64 tf,.int .i64 tr,.int .i64 te,.int .i64 tt] 28);simpa using this)
 generalize hw1:((w.alloc (.cells #[.int .i64 4,.int .i64 cf,.int .i64 cli,.int .i64 cn,.int .i64 tf,.int .i64 tr,.int .i64 te,.int .i64 tt,.slice Ad dl cd,.slice Al ll cl] 35)).alloc (.cells #[.int .i64 tf,.int .i64 tr,.int .i64 te,.int .i64 tt] 28))=w1 at *
 clear hw1
 have HKK:=hid ((G1.o.block k hkl).trans HK.o)
 have hbl:=block_lt HB.o
 have htl:=block_lt HT.o
 have HS:=hid (show ∀ W,Mod (fun b=>b=kf) w1 W→∃ _:w.heap.size<W.heap.size∧w.heap.size+1<W.heap.size∧k<W.heap.size,(W.cell? ⟨w.heap.size,0,none⟩=some (.int .i64 4)∧W.cell? ⟨w.heap.size,8,none⟩=some (.slice Ad dl cd)∧W.cell? ⟨w.heap.size,9,none⟩=some (.slice Al ll cl))∧(W.cell? ⟨w.heap.size+1,2,none⟩=some (.int .i64 te)∧W.cell? ⟨w.heap.size+1,3,none⟩=some (.int .i64 tt))∧W.cell? ⟨k,4,none⟩=some (.int .i64 E.now) from fun W mm=>by
  have q0:=(mm.block w.heap.size hbl (by show ¬ w.heap.size=kf;omega)).trans HB.o
  have q1:=(mm.block (w.heap.size+1) htl (by show ¬ w.heap.size+1=kf;omega)).trans HT.o
  have q2:=(mm.block k (block_lt HKK.o) hne).trans HKK.o
  obtain ⟨a0,_,_,_,_,_,_,_,a8,a9⟩:=z04 q0
  refine ⟨⟨block_lt q0,block_lt q1,block_lt q2⟩,⟨a0,a8,a9⟩,?_,?_⟩
  ·exact ⟨by simp [World.cell?,q1],by simp [World.cell?,q1]⟩
  ·simp [World.cell?,q2,engC])
 refine z01 [(0,false),(1,false),(2,false),(3,false),(4,false),(5,false),(6,false),(7,true),(8,false),(9,false),(10,false),(11,true)] (fun W=>Mod (fun b=>b=kf) w1 W) (by kernel_rfl) (by kernel_rfl) (fun _ _ d _ _ h=>by cases d<;>exact h) ((Gr.refl w1).drew.mod _) (fun _=>?_)
 iterate 7 (refine z03 (v:=?_) rfl (by rfl) ?_ ?_;rotate_left;(focus (intro W9 hW9;obtain ⟨⟨_,_,_⟩,⟨a0,a8,a9⟩,⟨a2,a3⟩,a4⟩:=HS.o W9 hW9;go_simp;(try with_reducible rfl);done));(try simp only [AP]))
 refine z05 rfl (by rfl) (fun K hK=>?_)
 go_simp
 go_at_call 108
 refine (z7k PUT kf F _ cdat E.now M _ (H.o.gr (G1.o.trans (Gr.refl w1).drew)) (fun b e=>Nat.lt_of_lt_of_le (HM.o b e) (G1.o.trans (Gr.refl w1).drew).size) hkf hF (HC.o.1.up (Gr.up (G1.o.trans (Gr.refl w1).drew) M))).mono ?_
 rintro en w5 ⟨A5,c5,rfl,hf5,ho5,hm5⟩
 have M5:=hid ((((Gr.refl w1).drew.mod _).trans hm5 (fun _ _ e=>e)))
 refine hK.o (fun W=>Mod (fun b=>b=kf) w1 W) _ _ M5.o (fun W h=>h) (fun _=>?_)
 clear hK K
 (try simp only [AP])
 iterate 3 (refine z03 (v:=?_) rfl (by rfl) ?_ ?_;rotate_left;(focus (intro W9 hW9;obtain ⟨⟨_,_,_⟩,⟨a0,a8,a9⟩,⟨a2,a3⟩,a4⟩:=HS.o W9 hW9;go_simp;(try with_reducible rfl);done));(try simp only [AP]))
 refine z06 rfl (by rfl) (fun K hK=>?_)
 go_simp
 refine hK.o _ _ ?_
 clear hK K
 go_wp2_with fail
 go_ret2
 exact ⟨A5,c5,rfl,hf5,ho5,(G1.o.mod _).trans M5.o (fun _ _ e=>e)⟩
set_option maxHeartbeats 2000000 in
theorem zah (PUT:z0e) (k kf kd ka mr kh:Nat) (E:ES) (c:Call) (d l:Value) (F:FS) (M:Bl) (w:World) (hk:w.heap[k]?=some (.cells (engC E kd ka mr kh) 79 (0,0))) (h:z0O w M kf F) (hM:∀ b,M b→b<w.heap.size) (hkf:M kf) (hne:k≠kf) (hF:FOk F) (hc:z0P w M c d l) (hkind:c.kind=10):Calls Tryz.prog 70 #[.pointer (some ⟨k,0,none⟩),.pointer (some ⟨kf,0,none⟩),z0E c d l] w (RetT M kf (askE (z09 E.groups) E c F) w):=by
 obtain ⟨Ad,cd,rfl⟩:=hc.1.shape
 obtain ⟨Al,cl,rfl,_⟩:=hc.2.shape
 have HK:=hid hk
 have H:=hid h
 have HC:=hid hc
 have HM:=hid hM
 have hkl:=block_lt hk
 have hfl:kf<w.heap.size:=hM _ hkf
 clear hk h hc hM
 rcases c with ⟨ck,cf,cli,cn,⟨tf,tr,te,tt⟩,cdat,cls⟩
 simp only [z0E,z1U] at *
 generalize hdl:cdat.length=dl at *
 generalize hll:cls.length=ll at *
 try simp only at hkind
 subst hkind
 rw [show askE (z09 E.groups) E ⟨10,cf,cli,cn,⟨tf,tr,te,tt⟩,cdat,cls⟩ F=z2N F te cdat true E.now from by simp [askE]]
 go_enter Tryz.func70,Tryz.ntmps70
 go_upto_region 11 with fail
 have G1:=hid (((Gr.refl w).alloc (.cells #[.int .i64 10,.int .i64 cf,.int .i64 cli,.int .i64 cn,.int .i64 tf,.int .i64 tr,.int .i64 te,.int .i64 tt,.slice Ad dl cd,.slice Al ll cl] 35)).alloc (.cells #[.int .i64 tf,.int .i64 tr,.int .i64 te,.int .i64 tt] 28))
 have HB:=hid ((((Gr.refl _).alloc (.cells #[.int .i64 tf,.int .i64 tr,.int .i64 te,.int .i64 tt] 28)).block w.heap.size (by simp)).trans (heap_alloc_new w (.cells #[.int .i64 10,.int .i64 cf,.int .i64 cli,.int .i64 cn,.int .i64 tf,.int .i64 tr,.int .i64 te,.int .i64 tt,.slice Ad dl cd,.slice Al ll cl] 35)))
 have HT:=hid (show ((w.alloc (.cells #[.int .i64 10,.int .i64 cf,.int .i64 cli,.int .i64 cn,.int .i64 tf,.int .i64 tr,.int .i64 te,.int .i64 tt,.slice Ad dl cd,.slice Al ll cl] 35)).alloc (.cells #[.int .i64 tf,.int .i64 tr,.int .i64 te,.int .i64 tt] 28)).heap[w.heap.size+1]?=some (.cells #[.int .i64 tf,.int .i64 tr,.int .i64 te,.int .i64 tt] 28 (0,0)) from by have:=heap_alloc_new (w.alloc (.cells #[.int .i64 10,.int .i64 cf,.int .i64 cli,.int .i64 cn,.int .i64 tf,.int .i64 tr,.int .i64 te,.int .i64 tt,.slice Ad dl cd,.slice Al ll cl] 35)) (.cells #[.int .i64 tf,.int .i64 tr,.int .i64 te,.int .i64 tt] 28);simpa using this)
 generalize hw1:((w.alloc (.cells #[.int .i64 10,.int .i64 cf,.int .i64 cli,.int .i64 cn,.int .i64 tf,.int .i64 tr,.int .i64 te,.int .i64 tt,.slice Ad dl cd,.slice Al ll cl] 35)).alloc (.cells #[.int .i64 tf,.int .i64 tr,.int .i64 te,.int .i64 tt] 28))=w1 at *
 clear hw1
 have HKK:=hid ((G1.o.block k hkl).trans HK.o)
 have hbl:=block_lt HB.o
 have htl:=block_lt HT.o
 have HS:=hid (show ∀ W,Mod (fun b=>b=kf) w1 W→∃ _:w.heap.size<W.heap.size∧w.heap.size+1<W.heap.size∧k<W.heap.size,(W.cell? ⟨w.heap.size,0,none⟩=some (.int .i64 10)∧W.cell? ⟨w.heap.size,8,none⟩=some (.slice Ad dl cd)∧W.cell? ⟨w.heap.size,9,none⟩=some (.slice Al ll cl))∧(W.cell? ⟨w.heap.size+1,2,none⟩=some (.int .i64 te)∧W.cell? ⟨w.heap.size+1,3,none⟩=some (.int .i64 tt))∧W.cell? ⟨k,4,none⟩=some (.int .i64 E.now) from fun W mm=>by
  have q0:=(mm.block w.heap.size hbl (by show ¬ w.heap.size=kf;omega)).trans HB.o
  have q1:=(mm.block (w.heap.size+1) htl (by show ¬ w.heap.size+1=kf;omega)).trans HT.o
  have q2:=(mm.block k (block_lt HKK.o) hne).trans HKK.o
  obtain ⟨a0,_,_,_,_,_,_,_,a8,a9⟩:=z04 q0
  refine ⟨⟨block_lt q0,block_lt q1,block_lt q2⟩,⟨a0,a8,a9⟩,?_,?_⟩
  ·exact ⟨by simp [World.cell?,q1],by simp [World.cell?,q1]⟩
  ·simp [World.cell?,q2,engC])
 refine z01 [(0,false),(1,false),(2,false),(3,false),(4,false),(5,false),(6,false),(7,false),(8,false),(9,false),(10,false),(11,false),(12,true),(13,false),(14,false),(15,false),(16,true)] (fun W=>Mod (fun b=>b=kf) w1 W) (by kernel_rfl) (by kernel_rfl) (fun _ _ d _ _ h=>by cases d<;>exact h) ((Gr.refl w1).drew.mod _) (fun _=>?_)
 iterate 12 (refine z03 (v:=?_) rfl (by rfl) ?_ ?_;rotate_left;(focus (intro W9 hW9;obtain ⟨⟨_,_,_⟩,⟨a0,a8,a9⟩,⟨a2,a3⟩,a4⟩:=HS.o W9 hW9;go_simp;(try with_reducible rfl);done));(try simp only [AP]))
 refine z05 rfl (by rfl) (fun K hK=>?_)
 go_simp
 go_at_call 111
 refine (z9j PUT kf F te _ cdat E.now M _ (H.o.gr (G1.o.trans (Gr.refl w1).drew)) (fun b e=>Nat.lt_of_lt_of_le (HM.o b e) (G1.o.trans (Gr.refl w1).drew).size) hkf hF (HC.o.1.up (Gr.up (G1.o.trans (Gr.refl w1).drew) M))).mono ?_
 rintro en w5 ⟨A5,c5,rfl,hf5,ho5,hm5⟩
 have M5:=hid ((((Gr.refl w1).drew.mod _).trans hm5 (fun _ _ e=>e)))
 refine hK.o (fun W=>Mod (fun b=>b=kf) w1 W) _ _ M5.o (fun W h=>h) (fun _=>?_)
 clear hK K
 (try simp only [AP])
 iterate 3 (refine z03 (v:=?_) rfl (by rfl) ?_ ?_;rotate_left;(focus (intro W9 hW9;obtain ⟨⟨_,_,_⟩,⟨a0,a8,a9⟩,⟨a2,a3⟩,a4⟩:=HS.o W9 hW9;go_simp;(try with_reducible rfl);done));(try simp only [AP]))
 refine z06 rfl (by rfl) (fun K hK=>?_)
 go_simp
 refine hK.o _ _ ?_
 clear hK K
 go_wp2_with fail
 go_ret2
 exact ⟨A5,c5,rfl,hf5,ho5,(G1.o.mod _).trans M5.o (fun _ _ e=>e)⟩
set_option maxHeartbeats 2000000 in
theorem zaf (PUT:z0e) (k kf kd ka mr kh:Nat) (E:ES) (c:Call) (d l:Value) (F:FS) (M:Bl) (w:World) (hk:w.heap[k]?=some (.cells (engC E kd ka mr kh) 79 (0,0))) (h:z0O w M kf F) (hM:∀ b,M b→b<w.heap.size) (hkf:M kf) (hne:k≠kf) (hF:FOk F) (hc:z0P w M c d l) (hkind:c.kind≠2∧c.kind≠3∧c.kind≠4∧c.kind≠8∧c.kind≠10):Calls Tryz.prog 70 #[.pointer (some ⟨k,0,none⟩),.pointer (some ⟨kf,0,none⟩),z0E c d l] w (RetT M kf (askE (z09 E.groups) E c F) w):=by
 obtain ⟨Ad,cd,rfl⟩:=hc.1.shape
 obtain ⟨Al,cl,rfl,_⟩:=hc.2.shape
 have HK:=hid hk
 have H:=hid h
 have HC:=hid hc
 have HM:=hid hM
 have hkl:=block_lt hk
 have hfl:kf<w.heap.size:=hM _ hkf
 clear hk h hc hM
 rcases c with ⟨ck,cf,cli,cn,⟨tf,tr,te,tt⟩,cdat,cls⟩
 simp only [z0E,z1U] at *
 generalize hdl:cdat.length=dl at *
 generalize hll:cls.length=ll at *
 obtain ⟨n2,n3,n4,n8,n10⟩:=hkind
 try simp only at n2 n3 n4 n8 n10
 have e2:(ck==2)=false:=by simpa using n2
 have e3:(ck==3)=false:=by simpa using n3
 have e4:(ck==4)=false:=by simpa using n4
 have e8:(ck==8)=false:=by simpa using n8
 have e10:(ck==10)=false:=by simpa using n10
 rw [show askE (z09 E.groups) E ⟨ck,cf,cli,cn,⟨tf,tr,te,tt⟩,cdat,cls⟩ F=z2N F te cdat false E.now from by simp [askE,n2,n3,n4,n8,e10]]
 go_enter Tryz.func70,Tryz.ntmps70
 go_upto_region 11 with fail
 have G1:=hid (((Gr.refl w).alloc (.cells #[.int .i64 ck,.int .i64 cf,.int .i64 cli,.int .i64 cn,.int .i64 tf,.int .i64 tr,.int .i64 te,.int .i64 tt,.slice Ad dl cd,.slice Al ll cl] 35)).alloc (.cells #[.int .i64 tf,.int .i64 tr,.int .i64 te,.int .i64 tt] 28))
 have HB:=hid ((((Gr.refl _).alloc (.cells #[.int .i64 tf,.int .i64 tr,.int .i64 te,.int .i64 tt] 28)).block w.heap.size (by simp)).trans (heap_alloc_new w (.cells #[.int .i64 ck,.int .i64 cf,.int .i64 cli,.int .i64 cn,.int .i64 tf,.int .i64 tr,.int .i64 te,.int .i64 tt,.slice Ad dl cd,.slice Al ll cl] 35)))
 have HT:=hid (show ((w.alloc (.cells #[.int .i64 ck,.int .i64 cf,.int .i64 cli,.int .i64 cn,.int .i64 tf,.int .i64 tr,.int .i64 te,.int .i64 tt,.slice Ad dl cd,.slice Al ll cl] 35)).alloc (.cells #[.int .i64 tf,.int .i64 tr,.int .i64 te,.int .i64 tt] 28)).heap[w.heap.size+1]?=some (.cells #[.int .i64 tf,.int .i64 tr,.int .i64 te,.int .i64 tt] 28 (0,0)) from by have:=heap_alloc_new (w.alloc (.cells #[.int .i64 ck,.int .i64 cf,.int .i64 cli,.int .i64 cn,.int .i64 tf,.int .i64 tr,.int .i64 te,.int .i64 tt,.slice Ad dl cd,.slice Al ll cl] 35)) (.cells #[.int .i64 tf,.int .i64 tr,.int .i64 te,.int .i64 tt] 28);simpa using this)
 generalize hw1:((w.alloc (.cells #[.int .i64 ck,.int .i64 cf,.int .i64 cli,.int .i64 cn,.int .i64 tf,.int .i64 tr,.int .i64 te,.int .i64 tt,.slice Ad dl cd,.slice Al ll cl] 35)).alloc (.cells #[.int .i64 tf,.int .i64 tr,.int .i64 te,.int .i64 tt] 28))=w1 at *
 clear hw1
 have HKK:=hid ((G1.o.block k hkl).trans HK.o)
 have hbl:=block_lt HB.o
 have htl:=block_lt HT.o
 have HS:=hid (show ∀ W,Mod (fun b=>b=kf) w1 W→∃ _:w.heap.size<W.heap.size∧w.heap.size+1<W.heap.size∧k<W.heap.size,(W.cell? ⟨w.heap.size,0,none⟩=some (.int .i64 ck)∧W.cell? ⟨w.heap.size,8,none⟩=some (.slice Ad dl cd)∧W.cell? ⟨w.heap.size,9,none⟩=some (.slice Al ll cl))∧(W.cell? ⟨w.heap.size+1,2,none⟩=some (.int .i64 te)∧W.cell? ⟨w.heap.size+1,3,none⟩=some (.int .i64 tt))∧W.cell? ⟨k,4,none⟩=some (.int .i64 E.now) from fun W mm=>by
  have q0:=(mm.block w.heap.size hbl (by show ¬ w.heap.size=kf;omega)).trans HB.o
  have q1:=(mm.block (w.heap.size+1) htl (by show ¬ w.heap.size+1=kf;omega)).trans HT.o
  have q2:=(mm.block k (block_lt HKK.o) hne).trans HKK.o
  obtain ⟨a0,_,_,_,_,_,_,_,a8,a9⟩:=z04 q0
  refine ⟨⟨block_lt q0,block_lt q1,block_lt q2⟩,⟨a0,a8,a9⟩,?_,?_⟩
  ·exact ⟨by simp [World.cell?,q1],by simp [World.cell?,q1]⟩
  ·simp [World.cell?,q2,engC])
 refine z01 [(0,false),(1,false),(2,false),(3,false),(4,false),(5,false),(6,false),(7,false),(8,false),(9,false),(10,false),(11,false),(12,true),(13,false),(14,false),(15,false),(16,true)] (fun W=>Mod (fun b=>b=kf) w1 W) (by kernel_rfl) (by kernel_rfl) (fun _ _ d _ _ h=>by cases d<;>exact h) ((Gr.refl w1).drew.mod _) (fun _=>?_)
 iterate 12 (refine z03 (v:=?_) rfl (by rfl) ?_ ?_;rotate_left;(focus (intro W9 hW9;obtain ⟨⟨_,_,_⟩,⟨a0,a8,a9⟩,⟨a2,a3⟩,a4⟩:=HS.o W9 hW9;go_simp;(try with_reducible rfl);done));(try simp only [AP]))
 refine z05 rfl (by rfl) (fun K hK=>?_)
 go_simp
 go_at_call 111
 refine (z8t PUT kf F te _ cdat E.now M _ (H.o.gr (G1.o.trans (Gr.refl w1).drew)) (fun b e=>Nat.lt_of_lt_of_le (HM.o b e) (G1.o.trans (Gr.refl w1).drew).size) hkf hF (HC.o.1.up (Gr.up (G1.o.trans (Gr.refl w1).drew) M))).mono ?_
 rintro en w5 ⟨A5,c5,rfl,hf5,ho5,hm5⟩
 have M5:=hid ((((Gr.refl w1).drew.mod _).trans hm5 (fun _ _ e=>e)))
 refine hK.o (fun W=>Mod (fun b=>b=kf) w1 W) _ _ M5.o (fun W h=>h) (fun _=>?_)
 clear hK K
 (try simp only [AP])
 iterate 3 (refine z03 (v:=?_) rfl (by rfl) ?_ ?_;rotate_left;(focus (intro W9 hW9;obtain ⟨⟨_,_,_⟩,⟨a0,a8,a9⟩,⟨a2,a3⟩,a4⟩:=HS.o W9 hW9;go_simp;(try with_reducible rfl);done));(try simp only [AP]))
 refine z06 rfl (by rfl) (fun K hK=>?_)
 go_simp
 refine hK.o _ _ ?_
 clear hK K
 go_wp2_with fail
 go_ret2
 exact ⟨A5,c5,rfl,hf5,ho5,(G1.o.mod _).trans M5.o (fun _ _ e=>e)⟩
set_option maxHeartbeats 2000000 in
theorem zae (PUT:z0e) (k kf kd ka mr kh:Nat) (E:ES) (c:Call) (d l:Value) (F:FS) (M:Bl) (w:World) (hk:w.heap[k]?=some (.cells (engC E kd ka mr kh) 79 (0,0))) (h:z0O w M kf F) (hM:∀ b,M b→b<w.heap.size) (hkf:M kf) (hne:k≠kf) (hF:FOk F) (hc:z0P w M c d l) (hkind:c.kind=8) (hg:E.groups=1) (hs:E.shard=0) (hll:c.l.length≤100000):Calls Tryz.prog 70 #[.pointer (some ⟨k,0,none⟩),.pointer (some ⟨kf,0,none⟩),z0E c d l] w (RetT M kf (askE (z09 E.groups) E c F) w):=by
 obtain ⟨Ad,cd,rfl⟩:=hc.1.shape
 obtain ⟨Al,cl,rfl,_⟩:=hc.2.shape
 have HK:=hid hk
 have H:=hid h
 have HC:=hid hc
 have HM:=hid hM
 have hkl:=block_lt hk
 have hfl:kf<w.heap.size:=hM _ hkf
 clear hk h hc hM
 rcases c with ⟨ck,cf,cli,cn,⟨tf,tr,te,tt⟩,cdat,cls⟩
 simp only [z0E,z1U] at *
 generalize hdl:cdat.length=dl at *
 generalize hll:cls.length=ll at *
 try simp only at hkind
 subst hkind
 rw [hg,show askE (z09 1) E ⟨8,cf,cli,cn,⟨tf,tr,te,tt⟩,cdat,cls⟩ F=z2p F te tt cls E.now from by simp [askE,hs,zcz]]
 go_enter Tryz.func70,Tryz.ntmps70
 go_upto_region 10 with fail
 have G1:=hid (((Gr.refl w).alloc (.cells #[.int .i64 8,.int .i64 cf,.int .i64 cli,.int .i64 cn,.int .i64 tf,.int .i64 tr,.int .i64 te,.int .i64 tt,.slice Ad dl cd,.slice Al ll cl] 35)).alloc (.cells #[.int .i64 tf,.int .i64 tr,.int .i64 te,.int .i64 tt] 28))
 have HB:=hid ((((Gr.refl _).alloc (.cells #[.int .i64 tf,.int .i64 tr,.int .i64 te,.int .i64 tt] 28)).block w.heap.size (by simp)).trans (heap_alloc_new w (.cells #[.int .i64 8,.int .i64 cf,.int .i64 cli,.int .i64 cn,.int .i64 tf,.int .i64 tr,.int .i64 te,.int .i64 tt,.slice Ad dl cd,.slice Al ll cl] 35)))
 have HT:=hid (show ((w.alloc (.cells #[.int .i64 8,.int .i64 cf,.int .i64 cli,.int .i64 cn,.int .i64 tf,.int .i64 tr,.int .i64 te,.int .i64 tt,.slice Ad dl cd,.slice Al ll cl] 35)).alloc (.cells #[.int .i64 tf,.int .i64 tr,.int .i64 te,.int .i64 tt] 28)).heap[w.heap.size+1]?=some (.cells #[.int .i64 tf,.int .i64 tr,.int .i64 te,.int .i64 tt] 28 (0,0)) from by have:=heap_alloc_new (w.alloc (.cells #[.int .i64 8,.int .i64 cf,.int .i64 cli,.int .i64 cn,.int .i64 tf,.int .i64 tr,.int .i64 te,.int .i64 tt,.slice Ad dl cd,.slice Al ll cl] 35)) (.cells #[.int .i64 tf,.int .i64 tr,.int .i64 te,.int .i64 tt] 28);simpa using this)
 generalize hw1:((w.alloc (.cells #[.int .i64 8,.int .i64 cf,.int .i64 cli,.int .i64 cn,.int .i64 tf,.int .i64 tr,.int .i64 te,.int .i64 tt,.slice Ad dl cd,.slice Al ll cl] 35)).alloc (.cells #[.int .i64 tf,.int .i64 tr,.int .i64 te,.int .i64 tt] 28))=w1 at *
 clear hw1
 have HKK:=hid ((G1.o.block k hkl).trans HK.o)
 have hbl:=block_lt HB.o
 have htl:=block_lt HT.o
 have HS:=hid (show ∀ W,Mod (fun b=>b=kf) w1 W→∃ _:w.heap.size<W.heap.size∧w.heap.size+1<W.heap.size∧k<W.heap.size,(W.cell? ⟨w.heap.size,0,none⟩=some (.int .i64 8)∧W.cell? ⟨w.heap.size,8,none⟩=some (.slice Ad dl cd)∧W.cell? ⟨w.heap.size,9,none⟩=some (.slice Al ll cl))∧(W.cell? ⟨w.heap.size+1,2,none⟩=some (.int .i64 te)∧W.cell? ⟨w.heap.size+1,3,none⟩=some (.int .i64 tt))∧W.cell? ⟨k,4,none⟩=some (.int .i64 E.now) from fun W mm=>by
  have q0:=(mm.block w.heap.size hbl (by show ¬ w.heap.size=kf;omega)).trans HB.o
  have q1:=(mm.block (w.heap.size+1) htl (by show ¬ w.heap.size+1=kf;omega)).trans HT.o
  have q2:=(mm.block k (block_lt HKK.o) hne).trans HKK.o
  obtain ⟨a0,_,_,_,_,_,_,_,a8,a9⟩:=z04 q0
  refine ⟨⟨block_lt q0,block_lt q1,block_lt q2⟩,⟨a0,a8,a9⟩,?_,?_⟩
  ·exact ⟨by simp [World.cell?,q1],by simp [World.cell?,q1]⟩
  ·simp [World.cell?,q2,engC])
 have HNEAR:=hid (fun (W:World) (g:Gr w1 W)=>zdW k kd ka mr E.now (.slice Al ll cl) cls M W (kh:=kh) ((g.block k (block_lt HKK.o)).trans (by have:=HKK.o;rw [engC,hg,hs] at this;exact this)) (HC.o.2.up (Gr.up (G1.o.trans g) M)) (by omega) (fun b e=>Nat.lt_of_lt_of_le (HM.o b e) (G1.o.trans g).size))
 refine z01 [(0,false),(1,false),(2,false),(3,false),(4,false),(5,false),(6,false),(7,false),(9,false),(10,false),(11,false),(12,false),(8,true),(13,true),(14,false),(15,false),(16,false),(17,true)] (fun W=>Mod (fun b=>b=kf) w1 W) (by kernel_rfl) (by kernel_rfl) (fun _ _ d _ _ h=>by cases d<;>exact h) ((Gr.refl w1).drew.mod _) (fun _=>?_)
 iterate 12 (refine z03 (v:=?_) rfl (by rfl) ?_ ?_;rotate_left;(focus (intro W9 hW9;obtain ⟨⟨_,_,_⟩,⟨a0,a8,a9⟩,⟨a2,a3⟩,a4⟩:=HS.o W9 hW9;go_simp;(try with_reducible rfl);done));(try simp only [AP]))
 refine z05 rfl (by rfl) (fun K hK=>?_)
 go_simp
 go_at_call 110
 refine (HNEAR.o _ (Gr.refl w1).drew).mono ?_
 rintro en w4 ⟨v4,rfl,g4,hr4⟩
 have HR4:=hid hr4
 have G4:=hid ((Gr.refl w1).drew.trans g4)
 refine hK.o (fun W=>Mod (fun b=>b=kf) w1 W) _ _ (G4.o.mod _) (fun W h=>h) (fun _=>?_)
 clear hK K hr4 g4
 (try simp only [AP])
 refine z05 rfl (by rfl) (fun K hK=>?_)
 go_simp
 go_at_call 109
 refine (zat PUT kf F te tt v4 cls E.now M _ (H.o.gr (G1.o.trans G4.o)) (fun b e=>Nat.lt_of_lt_of_le (HM.o b e) (G1.o.trans G4.o).size) hkf hF HR4.o).mono ?_
 rintro en w5 ⟨A5,c5,rfl,hf5,ho5,hm5⟩
 have M5:=hid ((G4.o.mod _).trans hm5 (fun _ _ e=>e))
 refine hK.o (fun W=>Mod (fun b=>b=kf) w1 W) _ _ M5.o (fun W h=>h) (fun _=>?_)
 clear hK K
 (try simp only [AP])
 iterate 3 (refine z03 (v:=?_) rfl (by rfl) ?_ ?_;rotate_left;(focus (intro W9 hW9;obtain ⟨⟨_,_,_⟩,⟨a0,a8,a9⟩,⟨a2,a3⟩,a4⟩:=HS.o W9 hW9;go_simp;(try with_reducible rfl);done));(try simp only [AP]))
 refine z06 rfl (by rfl) (fun K hK=>?_)
 go_simp
 refine hK.o _ _ ?_
 clear hK K
 go_wp2_with fail
 go_ret2
 exact ⟨A5,c5,rfl,hf5,ho5,(G1.o.mod _).trans M5.o (fun _ _ e=>e)⟩
set_option maxHeartbeats 2000000 in
theorem zad (PUT:z0e) (k kf kd ka mr kh:Nat) (E:ES) (c:Call) (d l:Value) (F:FS) (M:Bl) (w:World) (hk:w.heap[k]?=some (.cells (engC E kd ka mr kh) 79 (0,0))) (h:z0O w M kf F) (hM:∀ b,M b→b<w.heap.size) (hkf:M kf) (_:k≠kf) (hF:FOk F) (hc:z0P w M c d l) (hkind:c.kind=3):Calls Tryz.prog 70 #[.pointer (some ⟨k,0,none⟩),.pointer (some ⟨kf,0,none⟩),z0E c d l] w (RetT M kf (askE (z09 E.groups) E c F) w):=by
  obtain ⟨Ad,cd,rfl⟩:=hc.1.shape
  obtain ⟨Al,cl,rfl,_⟩:=hc.2.shape
  have HK:=hid hk
  have H:=hid h
  have HC:=hid hc
  have HM:=hid hM
  have hkl:=block_lt hk
  have hfl:kf<w.heap.size:=hM _ hkf
  clear hk h hc hM
  rcases c with ⟨ck,cf,cli,cn,⟨tf,tr,te,tt⟩,cdat,cls⟩
  simp only [z0E,z1U] at *
  generalize hdl:cdat.length=dl at *
  generalize hll:cls.length=ll at *
  try simp only at hkind
  subst hkind
  rw [show askE (z09 E.groups) E ⟨3,cf,cli,cn,⟨tf,tr,te,tt⟩,cdat,cls⟩ F=z3q F E.now from by simp [askE]]
  have G1:=hid (((Gr.refl w).alloc (.cells #[.int .i64 3,.int .i64 cf,.int .i64 cli,.int .i64 cn,.int .i64 tf,.int .i64 tr,.int .i64 te,.int .i64 tt,.slice Ad dl cd,.slice Al ll cl] 35)).alloc (.cells #[.int .i64 tf,.int .i64 tr,.int .i64 te,.int .i64 tt] 28))
  have k4:w.cell? ⟨k,4,none⟩=some (.int .i64 E.now):=by simp [World.cell?,HK.o,engC]
  go_enter Tryz.func70,Tryz.ntmps70
  go_wp2_with (go_at_call 107
               refine (zal PUT kf F E.now M _ (H.o.gr G1.o) (fun b e=>Nat.lt_of_lt_of_le (HM.o b e) G1.o.size) hkf hF).mono ?_
               rintro en w5 ⟨A5,c5,rfl,hf5,ho5,hm5⟩)
  go_ret2
  exact ⟨A5,c5,rfl,hf5,ho5,(G1.o.mod _).trans hm5 (fun _ _ e=>e)⟩
theorem zeL (PUT:z0e) (k kf kd ka mr kh:Nat) (E:ES) (c:Call) (d l:Value) (F:FS) (M:Bl) (w:World) (hk:w.heap[k]?=some (.cells (engC E kd ka mr kh) 79 (0,0))) (h:z0O w M kf F) (hM:∀ b,M b→b<w.heap.size) (hkf:M kf) (hne:k≠kf) (hF:FOk F) (hc:z0P w M c d l) (hnear:c.kind=8→E.groups=1∧E.shard=0∧c.l.length≤100000):Calls Tryz.prog 70 #[.pointer (some ⟨k,0,none⟩),.pointer (some ⟨kf,0,none⟩),z0E c d l] w (RetT M kf (askE (z09 E.groups) E c F) w):=by
 by_cases h2:c.kind=2
 ·exact zag PUT k kf kd ka mr kh E c d l F M w hk h hM hkf hne hF hc h2
 by_cases h3:c.kind=3
 ·exact zad PUT k kf kd ka mr kh E c d l F M w hk h hM hkf hne hF hc h3
 by_cases h4:c.kind=4
 ·exact z6G PUT k kf kd ka mr kh E c d l F M w hk h hM hkf hne hF hc h4
 by_cases h8:c.kind=8
 ·exact zae PUT k kf kd ka mr kh E c d l F M w hk h hM hkf hne hF hc h8 (hnear h8).1 (hnear h8).2.1 (hnear h8).2.2
 by_cases h10:c.kind=10
 ·exact zah PUT k kf kd ka mr kh E c d l F M w hk h hM hkf hne hF hc h10
 ·exact zaf PUT k kf kd ka mr kh E c d l F M w hk h hM hkf hne hF hc ⟨h2,h3,h4,h8,h10⟩
set_option maxHeartbeats 2000000 in
theorem z6x (k:Nat) (E:ES) (t:Task) (M S:Bl) (w:World) (h:EngR w M S k E):Calls Tryz.prog 102 #[.pointer (some ⟨k,0,none⟩),tkV t] w (RetE (.bool (z1y E t)) w):=by
 obtain ⟨kd,ka,md,ma,mr,kh,hv,hP⟩:=h
 obtain ⟨e0,e1,e2,e3,e4,e5,e6,hkl⟩:=hP.cells
 refine retE ?_
 unfold z1y
 rcases t with ⟨tf,tr,te,tt⟩
 simp only [tkV]
 have HB1:=hid (heap_alloc_new w (.cells #[.int .i64 tf,.int .i64 tr,.int .i64 te,.int .i64 tt] 84))
 have G1:=hid ((Gr.refl w).alloc (.cells #[.int .i64 tf,.int .i64 tr,.int .i64 te,.int .i64 tt] 84))
 have H:=hid hP
 rcases hP.look tf true with ⟨hn,hlk'⟩ | ⟨r,kf,hr,hf,hlk'⟩
 ·rw [hn]
  simp only [if_true] at hlk'
  have HLK:=hid hlk'
  clear hP hlk' hn
  go_enter Tryz.func102,Tryz.ntmps102
  go_upto_region 1 with fail
  obtain ⟨w1,hw1⟩:∃ w1,w.alloc (.cells #[.int .i64 tf,.int .i64 tr,.int .i64 te,.int .i64 tt] 84)=w1:=⟨_,rfl⟩
  rw [hw1] at HB1 G1 ⊢
  clear hw1
  obtain ⟨x0,x1,x2,x3⟩:=z0C HB1.o
  obtain ⟨_,_,_,_,_,f5,_,hk1⟩:=(H.o.gr G1.o).cells
  have hb1:=block_lt HB1.o
  have hlk:=fun (y:Ext w1)=>HLK.o y.val (G1.o.trans y.gr)
  refine z01 [(0,false),(1,false),(2,false),(3,false),(4,false),(5,false),(6,false),(7,false),(8,false),(9,false),(10,true),(11,true),(12,true)] (fun W=>Gr w1 W) (by kernel_rfl) (by kernel_rfl) (fun _ _ d _ _ h=>by cases d<;>exact h) (Gr.refl w1).drew (fun _=>?_)
  iterate 10 (refine z03 (v:=?_) rfl (by rfl) ?_ ?_;rotate_left;(focus (intro W9 hW9;obtain ⟨x9,rfl⟩:∃ x:Ext w1,W9=x.val:=⟨⟨W9,hW9⟩,rfl⟩;go_simp;(try with_reducible rfl);done));(try simp only [AP]))
  refine z05 rfl (by rfl) (fun K hK=>?_)
  go_simp
  refine hK.o (fun W=>Gr w1 W) _ _ ?_ (fun W h=>h) (fun _=>?_)
  ·exact ((Gr.refl w1).alloc _).drew
  clear hK K
  (try simp only [AP])
  refine z05 rfl (by rfl) (fun K hK=>?_)
  go_simp
  refine hK.o (fun W=>Gr w1 W) _ _ ?_ (fun W h=>h) (fun _=>?_)
  ·exact ((Gr.refl w1).alloc _).drew
  clear hK K
  (try simp only [AP])
  refine z06 rfl (by rfl) (fun K hK=>?_)
  go_simp
  refine hK.o _ _ ?_
  clear hK K
  have HB2:=hid (heap_alloc_new w1 (.cells #[.pointer none,.int .i64 0,.int .i64 0] 109))
  have G2:=hid ((Gr.refl w1).alloc (.cells #[.pointer none,.int .i64 0,.int .i64 0] 109)).drew
  obtain ⟨w2,hw2⟩:∃ w2,(w1.alloc (.cells #[.pointer none,.int .i64 0,.int .i64 0] 109)).drew=w2:=⟨_,rfl⟩
  have HB2':=hid (show w2.heap[w1.heap.size]?=some (.cells #[.pointer none,.int .i64 0,.int .i64 0] 109) from by rw [← hw2];exact HB2.o)
  rw [hw2] at G2 ⊢
  clear hw2 HB2
  have GG:=hid (G1.o.trans G2.o)
  have hb3:=(G2.o.block w.heap.size hb1).trans HB1.o
  obtain ⟨z0,z1,z2,z3⟩:=z0C hb3
  have zl:=block_lt hb3
  obtain ⟨u0,u1,u2⟩:=z0o HB2'.o
  have ul:=block_lt HB2'.o
  clear hb3
  go_wp2_with fail
  refine z01 [(0,false),(1,false),(2,false),(3,false),(5,false),(6,false),(4,true),(7,false),(8,false),(9,false),(10,false),(11,false),(12,false),(13,false),(14,false),(15,false),(16,true),(17,false),(18,true)] (fun W=>Gr w2 W) (by kernel_rfl) (by kernel_rfl) (fun _ _ d _ _ h=>by cases d<;>exact h) (Gr.refl w2).drew (fun _=>?_)
  iterate 6 (first | (refine z03 (v:=?_) rfl (by rfl) ?_ ?_;rotate_left;(focus (intro W9 hW9;obtain ⟨x9,rfl⟩:∃ x:Ext w2,W9=x.val:=⟨⟨W9,hW9⟩,rfl⟩;go_simp;(try with_reducible rfl);done));(try simp only [AP])) | (refine z0i rfl (by rfl) ?_;(try simp only [AP])))
  refine z2z rfl (by rfl) ?_
  (try simp only [AP])
  iterate 9 (first | (refine z03 (v:=?_) rfl (by rfl) ?_ ?_;rotate_left;(focus (intro W9 hW9;obtain ⟨x9,rfl⟩:∃ x:Ext w2,W9=x.val:=⟨⟨W9,hW9⟩,rfl⟩;go_simp;(try with_reducible rfl);done));(try simp only [AP])) | (refine z0i rfl (by rfl) ?_;(try simp only [AP])))
  refine z2z rfl (by rfl) ?_
  (try simp only [AP])
  iterate 1 (first | (refine z03 (v:=?_) rfl (by rfl) ?_ ?_;rotate_left;(focus (intro W9 hW9;obtain ⟨x9,rfl⟩:∃ x:Ext w2,W9=x.val:=⟨⟨W9,hW9⟩,rfl⟩;go_simp;(try with_reducible rfl);done));(try simp only [AP])) | (refine z0i rfl (by rfl) ?_;(try simp only [AP])))
  refine z06 rfl (by rfl) (fun K hK=>?_)
  go_simp
  refine hK.o _ _ ?_
  clear hK K
  go_wp2_with fail
  go_ret
  exact ⟨rfl,GG.o.drew⟩
 ·rw [hr]
  simp only [if_true,runV] at hlk'
  have HLK:=hid hlk'
  obtain ⟨_,mb,_,hfr⟩:=hf
  have HRUN:=hid (fun (W:World) (g:Gr w W)=>z2S kf mb r.f M W (hfr.gr g))
  have HWA:=hid (fun (W:World) (g:Gr w W)=>z4P kf mb r.f M te tt W (hfr.gr g))
  clear hP hlk' hfr hr
  simp only
  generalize z1n r.f te tt=wa at *
  generalize r.f.run=rn at *
  by_cases hrn:rn=tr
  ·subst hrn
   have hX:(rn==rn && wa)=wa:=by simp
   rw [hX]
   clear hX
   go_enter Tryz.func102,Tryz.ntmps102
   go_upto_region 1 with fail
   obtain ⟨w1,hw1⟩:∃ w1,w.alloc (.cells #[.int .i64 tf,.int .i64 rn,.int .i64 te,.int .i64 tt] 84)=w1:=⟨_,rfl⟩
   rw [hw1] at HB1 G1 ⊢
   clear hw1
   obtain ⟨x0,x1,x2,x3⟩:=z0C HB1.o
   obtain ⟨_,_,_,_,_,f5,_,hk1⟩:=(H.o.gr G1.o).cells
   have hb1:=block_lt HB1.o
   have hlk:=fun (y:Ext w1)=>HLK.o y.val (G1.o.trans y.gr)
   refine z01 [(0,false),(1,false),(2,false),(3,false),(4,false),(5,false),(6,false),(7,false),(8,false),(9,false),(10,true),(11,true),(12,true)] (fun W=>Gr w1 W) (by kernel_rfl) (by kernel_rfl) (fun _ _ d _ _ h=>by cases d<;>exact h) (Gr.refl w1).drew (fun _=>?_)
   iterate 10 (refine z03 (v:=?_) rfl (by rfl) ?_ ?_;rotate_left;(focus (intro W9 hW9;obtain ⟨x9,rfl⟩:∃ x:Ext w1,W9=x.val:=⟨⟨W9,hW9⟩,rfl⟩;go_simp;(try with_reducible rfl);done));(try simp only [AP]))
   refine z05 rfl (by rfl) (fun K hK=>?_)
   go_simp
   refine hK.o (fun W=>Gr w1 W) _ _ ?_ (fun W h=>h) (fun _=>?_)
   ·exact ((Gr.refl w1).alloc _).drew
   clear hK K
   (try simp only [AP])
   refine z05 rfl (by rfl) (fun K hK=>?_)
   go_simp
   refine hK.o (fun W=>Gr w1 W) _ _ ?_ (fun W h=>h) (fun _=>?_)
   ·exact ((Gr.refl w1).alloc _).drew
   clear hK K
   (try simp only [AP])
   refine z06 rfl (by rfl) (fun K hK=>?_)
   go_simp
   refine hK.o _ _ ?_
   clear hK K
   have HB2:=hid (heap_alloc_new w1 (.cells #[.pointer (some ⟨kf,0,none⟩),.int .i64 r.pf,.int .i64 r.pr] 109))
   have G2:=hid ((Gr.refl w1).alloc (.cells #[.pointer (some ⟨kf,0,none⟩),.int .i64 r.pf,.int .i64 r.pr] 109)).drew
   obtain ⟨w2,hw2⟩:∃ w2,(w1.alloc (.cells #[.pointer (some ⟨kf,0,none⟩),.int .i64 r.pf,.int .i64 r.pr] 109)).drew=w2:=⟨_,rfl⟩
   have HB2':=hid (show w2.heap[w1.heap.size]?=some (.cells #[.pointer (some ⟨kf,0,none⟩),.int .i64 r.pf,.int .i64 r.pr] 109) from by rw [← hw2];exact HB2.o)
   rw [hw2] at G2 ⊢
   clear hw2 HB2
   have GG:=hid (G1.o.trans G2.o)
   have hb3:=(G2.o.block w.heap.size hb1).trans HB1.o
   obtain ⟨z0,z1,z2,z3⟩:=z0C hb3
   have zl:=block_lt hb3
   obtain ⟨u0,u1,u2⟩:=z0o HB2'.o
   have ul:=block_lt HB2'.o
   clear hb3
   go_wp2_with fail
   refine z01 [(0,false),(1,false),(2,false),(3,false),(5,false),(6,false),(4,true),(7,false),(8,false),(9,false),(10,false),(11,false),(12,false),(13,false),(14,false),(15,false),(16,true),(17,false),(18,true)] (fun W=>Gr w2 W) (by kernel_rfl) (by kernel_rfl) (fun _ _ d _ _ h=>by cases d<;>exact h) (Gr.refl w2).drew (fun _=>?_)
   iterate 6 (first | (refine z03 (v:=?_) rfl (by rfl) ?_ ?_;rotate_left;(focus (intro W9 hW9;obtain ⟨x9,rfl⟩:∃ x:Ext w2,W9=x.val:=⟨⟨W9,hW9⟩,rfl⟩;go_simp;(try with_reducible rfl);done));(try simp only [AP])) | (refine z0i rfl (by rfl) ?_;(try simp only [AP])))
   refine z05 rfl (by rfl) (fun K hK=>?_)
   go_simp
   go_at_call 63
   refine (HRUN.o _ GG.o.drew).mono ?_
   rintro en _ ⟨rfl,y5,rfl⟩
   have G5:=hid ((Gr.refl w2).drew.ext y5)
   refine hK.o (fun W=>Gr w2 W) _ _ G5.o (fun W h=>h) (fun _=>?_)
   clear hK K
   (try simp only [AP])
   iterate 9 (first | (refine z03 (v:=?_) rfl (by rfl) ?_ ?_;rotate_left;(focus (intro W9 hW9;obtain ⟨x9,rfl⟩:∃ x:Ext w2,W9=x.val:=⟨⟨W9,hW9⟩,rfl⟩;go_simp;(try with_reducible rfl);done));(try simp only [AP])) | (refine z0i rfl (by rfl) ?_;(try simp only [AP])))
   refine z05 rfl (by rfl) (fun K hK=>?_)
   go_simp
   go_at_call 136
   refine (HWA.o _ (GG.o.trans G5.o)).mono ?_
   rintro en _ ⟨rfl,y6,rfl⟩
   have G6:=hid (G5.o.ext y6)
   refine hK.o (fun W=>Gr w2 W) _ _ G6.o (fun W h=>h) (fun _=>?_)
   clear hK K
   (try simp only [AP])
   cases wa
   ·iterate 1 (first | (refine z03 (v:=?_) rfl (by rfl) ?_ ?_;rotate_left;(focus (intro W9 hW9;obtain ⟨x9,rfl⟩:∃ x:Ext w2,W9=x.val:=⟨⟨W9,hW9⟩,rfl⟩;go_simp;(try with_reducible rfl);done));(try simp only [AP])) | (refine z0i rfl (by rfl) ?_;(try simp only [AP])))
    refine z06 rfl (by rfl) (fun K hK=>?_)
    go_simp
    refine hK.o _ _ ?_
    clear hK K
    go_wp2_with fail
    go_ret
    exact ⟨rfl,GG.o.trans G6.o⟩
   ·iterate 1 (first | (refine z03 (v:=?_) rfl (by rfl) ?_ ?_;rotate_left;(focus (intro W9 hW9;obtain ⟨x9,rfl⟩:∃ x:Ext w2,W9=x.val:=⟨⟨W9,hW9⟩,rfl⟩;go_simp;(try with_reducible rfl);done));(try simp only [AP])) | (refine z0i rfl (by rfl) ?_;(try simp only [AP])))
    refine z06 rfl (by rfl) (fun K hK=>?_)
    go_simp
    refine hK.o _ _ ?_
    clear hK K
    go_wp2_with fail
    go_ret
    exact ⟨rfl,GG.o.trans G6.o⟩
  ·have hX:(rn==tr && wa)=false:=by simp [hrn]
   rw [hX]
   have hrb:(rn==tr)=false:=by simpa using hrn
   clear hX
   go_enter Tryz.func102,Tryz.ntmps102
   go_upto_region 1 with fail
   obtain ⟨w1,hw1⟩:∃ w1,w.alloc (.cells #[.int .i64 tf,.int .i64 tr,.int .i64 te,.int .i64 tt] 84)=w1:=⟨_,rfl⟩
   rw [hw1] at HB1 G1 ⊢
   clear hw1
   obtain ⟨x0,x1,x2,x3⟩:=z0C HB1.o
   obtain ⟨_,_,_,_,_,f5,_,hk1⟩:=(H.o.gr G1.o).cells
   have hb1:=block_lt HB1.o
   have hlk:=fun (y:Ext w1)=>HLK.o y.val (G1.o.trans y.gr)
   refine z01 [(0,false),(1,false),(2,false),(3,false),(4,false),(5,false),(6,false),(7,false),(8,false),(9,false),(10,true),(11,true),(12,true)] (fun W=>Gr w1 W) (by kernel_rfl) (by kernel_rfl) (fun _ _ d _ _ h=>by cases d<;>exact h) (Gr.refl w1).drew (fun _=>?_)
   iterate 10 (refine z03 (v:=?_) rfl (by rfl) ?_ ?_;rotate_left;(focus (intro W9 hW9;obtain ⟨x9,rfl⟩:∃ x:Ext w1,W9=x.val:=⟨⟨W9,hW9⟩,rfl⟩;go_simp;(try with_reducible rfl);done));(try simp only [AP]))
   refine z05 rfl (by rfl) (fun K hK=>?_)
   go_simp
   refine hK.o (fun W=>Gr w1 W) _ _ ?_ (fun W h=>h) (fun _=>?_)
   ·exact ((Gr.refl w1).alloc _).drew
   clear hK K
   (try simp only [AP])
   refine z05 rfl (by rfl) (fun K hK=>?_)
   go_simp
   refine hK.o (fun W=>Gr w1 W) _ _ ?_ (fun W h=>h) (fun _=>?_)
   ·exact ((Gr.refl w1).alloc _).drew
   clear hK K
   (try simp only [AP])
   refine z06 rfl (by rfl) (fun K hK=>?_)
   go_simp
   refine hK.o _ _ ?_
   clear hK K
   have HB2:=hid (heap_alloc_new w1 (.cells #[.pointer (some ⟨kf,0,none⟩),.int .i64 r.pf,.int .i64 r.pr] 109))
   have G2:=hid ((Gr.refl w1).alloc (.cells #[.pointer (some ⟨kf,0,none⟩),.int .i64 r.pf,.int .i64 r.pr] 109)).drew
   obtain ⟨w2,hw2⟩:∃ w2,(w1.alloc (.cells #[.pointer (some ⟨kf,0,none⟩),.int .i64 r.pf,.int .i64 r.pr] 109)).drew=w2:=⟨_,rfl⟩
   have HB2':=hid (show w2.heap[w1.heap.size]?=some (.cells #[.pointer (some ⟨kf,0,none⟩),.int .i64 r.pf,.int .i64 r.pr] 109) from by rw [← hw2];exact HB2.o)
   rw [hw2] at G2 ⊢
   clear hw2 HB2
   have GG:=hid (G1.o.trans G2.o)
   have hb3:=(G2.o.block w.heap.size hb1).trans HB1.o
   obtain ⟨z0,z1,z2,z3⟩:=z0C hb3
   have zl:=block_lt hb3
   obtain ⟨u0,u1,u2⟩:=z0o HB2'.o
   have ul:=block_lt HB2'.o
   clear hb3
   go_wp2_with fail
   refine z01 [(0,false),(1,false),(2,false),(3,false),(5,false),(6,false),(4,true),(7,false),(8,false),(9,false),(10,false),(11,false),(12,false),(13,false),(14,false),(15,false),(16,true),(17,false),(18,true)] (fun W=>Gr w2 W) (by kernel_rfl) (by kernel_rfl) (fun _ _ d _ _ h=>by cases d<;>exact h) (Gr.refl w2).drew (fun _=>?_)
   iterate 6 (first | (refine z03 (v:=?_) rfl (by rfl) ?_ ?_;rotate_left;(focus (intro W9 hW9;obtain ⟨x9,rfl⟩:∃ x:Ext w2,W9=x.val:=⟨⟨W9,hW9⟩,rfl⟩;go_simp;(try with_reducible rfl);done));(try simp only [AP])) | (refine z0i rfl (by rfl) ?_;(try simp only [AP])))
   refine z05 rfl (by rfl) (fun K hK=>?_)
   go_simp
   go_at_call 63
   refine (HRUN.o _ GG.o.drew).mono ?_
   rintro en _ ⟨rfl,y5,rfl⟩
   have G5:=hid ((Gr.refl w2).drew.ext y5)
   refine hK.o (fun W=>Gr w2 W) _ _ G5.o (fun W h=>h) (fun _=>?_)
   clear hK K
   (try simp only [AP])
   iterate 9 (first | (refine z03 (v:=?_) rfl (by rfl) ?_ ?_;rotate_left;(focus (intro W9 hW9;obtain ⟨x9,rfl⟩:∃ x:Ext w2,W9=x.val:=⟨⟨W9,hW9⟩,rfl⟩;go_simp;(try with_reducible rfl);done));(try simp only [AP])) | (refine z0i rfl (by rfl) ?_;(try simp only [AP])))
   refine z2z rfl (by rfl) ?_
   (try simp only [AP])
   iterate 1 (first | (refine z03 (v:=?_) rfl (by rfl) ?_ ?_;rotate_left;(focus (intro W9 hW9;obtain ⟨x9,rfl⟩:∃ x:Ext w2,W9=x.val:=⟨⟨W9,hW9⟩,rfl⟩;go_simp;(try with_reducible rfl);done));(try simp only [AP])) | (refine z0i rfl (by rfl) ?_;(try simp only [AP])))
   refine z06 rfl (by rfl) (fun K hK=>?_)
   go_simp
   refine hK.o _ _ ?_
   clear hK K
   go_wp2_with fail
   go_ret
   exact ⟨rfl,GG.o.trans G5.o⟩
end Go.Proofs.YtniknicnnaiilaaGreat
end
