/- Lemmas of the engine. -/
import Derived.Test.YtniknicnnaiilaaGreatX06
import Derived.Test.YtniknicnnaiilaaGreatX13
import Derived.Test.YtniknicnnaiilaaGreatX22
import Derived.Test.YtniknicnnaiilaaGreatX23
section
namespace Go.Proofs.YtniknicnnaiilaaGreat
set_option maxRecDepth 100000
open Go.RowKit Go.Ext Go.BigFrame Go.Maps Go.MapKept
attribute [local go_sem] Ext.cell Ext.frozen Ext.lt Ext.le s1 s2 s3 s4 s5 s6 t1 t2 t3 t4 t5 t6
attribute [local go_sem ↓] Go.wp_at_zero Go.wp_at_succ
theorem z6Z (c:Call) (d l:Value) (g:Int) (w:World) (hs:(∃ A n c',d=.slice A n c')∧∃ A n c',l=.slice A n c') (h7:c.kind≠7) (h9:c.kind≠9) (hg:1≤g∧g≤8):Calls Tryz.prog 18 #[z0E c d l,.int .i64 g] w (RetE (.int .i64 (z3f (z09 g) (z09 g) c)) w):=by
 obtain ⟨⟨Ad,dl,cd,rfl⟩,Al,ll,cl,rfl⟩:=hs
 rcases c with ⟨ck,cf,cli,cn,⟨tf,tr,te,tt⟩,cdat,cls⟩
 simp only [z0E,z1U]
 simp only at h7 h9
 have e7:(ck==7)=false:=by simpa using h7
 have e9:(ck==9)=false:=by simpa using h9
 have HS:=hid (fun id W=>z8n id g W hg)
 refine retE ?_
 by_cases h8:ck=8
 ·subst h8
  clear e7 e9
  rw [show z3f (z09 g) (z09 g) ⟨8,cf,cli,cn,⟨tf,tr,te,tt⟩,cdat,cls⟩=z09 g tf from by simp [z3f]]
  go_enter Tryz.func18,Tryz.ntmps18
  go_wp2_with (go_at_call 37;refine (HS.o _ _).mono ?_;rintro en _ ⟨rfl,y1,rfl⟩)
  go_ret
  exact ⟨rfl,((Gr.refl w).alloc _).ext y1⟩
 by_cases h10:ck=10
 ·subst h10
  clear e7 e9
  rw [show z3f (z09 g) (z09 g) ⟨10,cf,cli,cn,⟨tf,tr,te,tt⟩,cdat,cls⟩=z09 g tf from by simp [z3f]]
  go_enter Tryz.func18,Tryz.ntmps18
  go_wp2_with (go_at_call 37;refine (HS.o _ _).mono ?_;rintro en _ ⟨rfl,y1,rfl⟩)
  go_ret
  exact ⟨rfl,((Gr.refl w).alloc _).ext y1⟩
 by_cases h11:ck=11
 ·subst h11
  clear e7 e9
  rw [show z3f (z09 g) (z09 g) ⟨11,cf,cli,cn,⟨tf,tr,te,tt⟩,cdat,cls⟩=z09 g tf from by simp [z3f]]
  go_enter Tryz.func18,Tryz.ntmps18
  go_wp2_with (go_at_call 37;refine (HS.o _ _).mono ?_;rintro en _ ⟨rfl,y1,rfl⟩)
  go_ret
  exact ⟨rfl,((Gr.refl w).alloc _).ext y1⟩
 rw [show z3f (z09 g) (z09 g) ⟨ck,cf,cli,cn,⟨tf,tr,te,tt⟩,cdat,cls⟩=z09 g cf from by simp [z3f,h7,h9,h8,h10,h11]]
 have e8:(ck==8)=false:=by simpa using h8
 have e10:(ck==10)=false:=by simpa using h10
 have e11:(ck==11)=false:=by simpa using h11
 go_enter Tryz.func18,Tryz.ntmps18
 go_wp2_with (go_at_call 37;refine (HS.o _ _).mono ?_;rintro en _ ⟨rfl,y1,rfl⟩)
 go_ret
 exact ⟨rfl,((Gr.refl w).alloc _).ext y1⟩
set_option maxHeartbeats 4000000 in
theorem zbc (k:Nat) (E:ES) (c:Call) (d l:Value) (M S:Bl) (w:World) (h:EngR w M S k E) (hE:EOk E) (hc:z0P w M c d l) (hll:c.l.length≤140737488351232) (hdd:∀ d∈c.l,d.data.length≤140737488351232) :
  Calls Tryz.prog 31 #[.pointer (some ⟨k,0,none⟩),z0E c d l] w (RetE (.int .i64 (z1Q (z09 E.groups) E c)) w):=by
 obtain ⟨kd,ka,md,ma,mr,kh,hv,hP⟩:=h
 obtain ⟨e0,e1,e2,e3,e4,e5,e6,hkl⟩:=hP.cells
 have HRIGHT:=hid (fun W (g:Gr w W)=>zcR c d l M W (hc.up (Gr.up g M)) hll hdd)
 have hs:(∃ A n c',d=.slice A n c')∧∃ A n c',l=.slice A n c':=by
  obtain ⟨Ad,cd,rfl⟩:=hc.1.shape
  obtain ⟨Al,cl,rfl,_⟩:=hc.2.shape
  exact ⟨⟨_,_,_,rfl⟩,_,_,_,rfl⟩
 have HPOLL:=hid (fun W=>zcK c d l W hs)
 have HHOME:=hid (fun W h7 h9=>z6Z c d l E.groups W hs h7 h9 ⟨by have:=hE.sh;omega,by have:=hE.sh;omega⟩)
 have HX:=hid (show z1Q (z09 E.groups) E c=if z2l c=false∨(c.kind≠7∧c.kind≠9∧z3f (z09 E.groups) (z09 E.groups) c≠E.shard) then 1 else 0 from rfl)
 obtain ⟨Ad,cd,rfl⟩:=hc.1.shape
 obtain ⟨Al,cl,rfl,_⟩:=hc.2.shape
 generalize z1Q (z09 E.groups) E c=X at *
 generalize z3f (z09 E.groups) (z09 E.groups) c=H at *
 generalize E.groups=gr at *
 generalize E.shard=sh at *
 generalize z2l c=rc at *
 clear hP hc hll hdd hE hs
 rcases c with ⟨ck,cf,cli,cn,⟨tf,tr,te,tt⟩,cdat,cls⟩
 simp only [z0E,z1U] at *
 generalize cdat.length=dl at *
 generalize cls.length=ll at *
 refine retE ?_
 go_enter Tryz.func31,Tryz.ntmps31
 go_upto_region 1 with fail
 obtain ⟨w1,hw1⟩:∃ w1,w.alloc (.cells #[.int .i64 ck,.int .i64 cf,.int .i64 cli,.int .i64 cn,.int .i64 tf,.int .i64 tr,.int .i64 te,.int .i64 tt,.slice Ad dl cd,.slice Al ll cl] 35)=w1:=⟨_,rfl⟩
 have HB1:=hid (heap_alloc_new w (.cells #[.int .i64 ck,.int .i64 cf,.int .i64 cli,.int .i64 cn,.int .i64 tf,.int .i64 tr,.int .i64 te,.int .i64 tt,.slice Ad dl cd,.slice Al ll cl] 35))
 have G1:=hid ((Gr.refl w).alloc (.cells #[.int .i64 ck,.int .i64 cf,.int .i64 cli,.int .i64 cn,.int .i64 tf,.int .i64 tr,.int .i64 te,.int .i64 tt,.slice Ad dl cd,.slice Al ll cl] 35))
 rw [hw1] at HB1 G1 ⊢
 clear hw1
 have hbl:=block_lt HB1.o
 have HC:=hid (fun W (g:Gr w1 W)=>z04 ((g.block _ hbl).trans HB1.o))
 have HE:=hid (fun W (g:Gr w W)=>(⟨(g.cell (p:=⟨k,2,none⟩) hkl).trans e2,(g.cell (p:=⟨k,3,none⟩) hkl).trans e3,Nat.lt_of_lt_of_le hkl g.size⟩:W.cell? ⟨k,2,none⟩=some (.int .i64 sh)∧W.cell? ⟨k,3,none⟩=some (.int .i64 gr)∧k<W.heap.size))
 clear e0 e1 e2 e3 e4 e5 e6
 cases rc
 ·skip
  refine z01 [(0,false),(1,true),(2,false),(3,false),(4,false),(5,true),(6,false),(7,false),(8,false),(9,false),(10,false),(11,false),(12,false),(14,false),(15,false),(16,false),(17,false),(13,true),(18,false),(19,false),(20,true)] (fun W=>Gr w1 W) (by kernel_rfl) (by kernel_rfl) (fun _ _ d _ _ h=>by cases d<;>exact h) (Gr.refl w1).drew (fun _=>?_)
  iterate 1 (refine z03 (v:=?_) rfl (by rfl) ?_ ?_;rotate_left;(focus (intro W9 hW9;(try dsimp only at hW9);obtain ⟨a0,a1,a2,a3,a4,a5,a6,a7,a8,a9⟩:=HC.o W9 hW9;obtain ⟨f2,f3,fk⟩:=HE.o W9 (G1.o.trans hW9);have fb:=Nat.lt_of_lt_of_le hbl (Gr.size hW9);go_simp;(try with_reducible rfl);done));(try simp only [AP]))
  refine z05 rfl (by rfl) (fun K hK=>?_)
  go_simp
  go_at_call 59
  refine (HRIGHT.o _ (G1.o.trans (Gr.refl w1).drew)).mono ?_
  rintro en _ ⟨rfl,y9,rfl⟩
  have Y1:=hid (Gr.ext ((Gr.refl w1).drew) y9)
  refine hK.o (fun W=>Gr w1 W) _ _ Y1.o (fun W h=>h) (fun _=>?_)
  clear hK K
  (try simp only [AP])
  iterate 2 (refine z03 (v:=?_) rfl (by rfl) ?_ ?_;rotate_left;(focus (intro W9 hW9;(try dsimp only at hW9);obtain ⟨a0,a1,a2,a3,a4,a5,a6,a7,a8,a9⟩:=HC.o W9 hW9;obtain ⟨f2,f3,fk⟩:=HE.o W9 (G1.o.trans hW9);have fb:=Nat.lt_of_lt_of_le hbl (Gr.size hW9);go_simp;(try with_reducible rfl);done));(try simp only [AP]))
  iterate 1 (first | (refine z03 (v:=?_) rfl (by rfl) ?_ ?_;rotate_left;(focus (intro W9 hW9;(try dsimp only at hW9);obtain ⟨a0,a1,a2,a3,a4,a5,a6,a7,a8,a9⟩:=HC.o W9 hW9;obtain ⟨f2,f3,fk⟩:=HE.o W9 (G1.o.trans hW9);have fb:=Nat.lt_of_lt_of_le hbl (Gr.size hW9);go_simp;(try with_reducible rfl);done));(try simp only [AP])) | (refine z0i rfl (by rfl) ?_;(try simp only [AP])))
  refine z2z rfl (by rfl) ?_
  (try simp only [AP])
  iterate 11 (first | (refine z03 (v:=?_) rfl (by rfl) ?_ ?_;rotate_left;(focus (intro W9 hW9;(try dsimp only at hW9);obtain ⟨a0,a1,a2,a3,a4,a5,a6,a7,a8,a9⟩:=HC.o W9 hW9;obtain ⟨f2,f3,fk⟩:=HE.o W9 (G1.o.trans hW9);have fb:=Nat.lt_of_lt_of_le hbl (Gr.size hW9);go_simp;(try with_reducible rfl);done));(try simp only [AP])) | (refine z0i rfl (by rfl) ?_;(try simp only [AP])))
  refine z2z rfl (by rfl) ?_
  (try simp only [AP])
  iterate 2 (first | (refine z03 (v:=?_) rfl (by rfl) ?_ ?_;rotate_left;(focus (intro W9 hW9;(try dsimp only at hW9);obtain ⟨a0,a1,a2,a3,a4,a5,a6,a7,a8,a9⟩:=HC.o W9 hW9;obtain ⟨f2,f3,fk⟩:=HE.o W9 (G1.o.trans hW9);have fb:=Nat.lt_of_lt_of_le hbl (Gr.size hW9);go_simp;(try with_reducible rfl);done));(try simp only [AP])) | (refine z0i rfl (by rfl) ?_;(try simp only [AP])))
  refine z06 rfl (by rfl) (fun K hK=>?_)
  go_simp
  refine hK.o _ _ ?_
  clear hK K
  go_wp2_with fail
  go_ret
  refine ⟨?_,G1.o.trans Y1.o⟩
  rw [HX.o]
  simp
 ·cases hp:(ck==7 || ck==9)
  ·rw [hp] at HPOLL
   have h7:ck≠7:=fun e=>by subst e;simp at hp
   have h9:ck≠9:=fun e=>by subst e;simp at hp
   have HH:=hid (fun W=>HHOME.o W h7 h9)
   clear hp
   cases hs:(H != sh)
   ·have hsb:=hid hs
    refine z01 [(0,false),(1,true),(2,false),(3,false),(4,false),(5,true),(6,false),(7,false),(8,false),(9,false),(10,false),(11,false),(12,false),(14,false),(15,false),(16,false),(17,false),(13,true),(18,false),(19,false),(20,true)] (fun W=>Gr w1 W) (by kernel_rfl) (by kernel_rfl) (fun _ _ d _ _ h=>by cases d<;>exact h) (Gr.refl w1).drew (fun _=>?_)
    iterate 1 (refine z03 (v:=?_) rfl (by rfl) ?_ ?_;rotate_left;(focus (intro W9 hW9;(try dsimp only at hW9);obtain ⟨a0,a1,a2,a3,a4,a5,a6,a7,a8,a9⟩:=HC.o W9 hW9;obtain ⟨f2,f3,fk⟩:=HE.o W9 (G1.o.trans hW9);have fb:=Nat.lt_of_lt_of_le hbl (Gr.size hW9);go_simp;(try with_reducible rfl);done));(try simp only [AP]))
    refine z05 rfl (by rfl) (fun K hK=>?_)
    go_simp
    go_at_call 59
    refine (HRIGHT.o _ (G1.o.trans (Gr.refl w1).drew)).mono ?_
    rintro en _ ⟨rfl,y9,rfl⟩
    have Y1:=hid (Gr.ext ((Gr.refl w1).drew) y9)
    refine hK.o (fun W=>Gr w1 W) _ _ Y1.o (fun W h=>h) (fun _=>?_)
    clear hK K
    (try simp only [AP])
    iterate 2 (refine z03 (v:=?_) rfl (by rfl) ?_ ?_;rotate_left;(focus (intro W9 hW9;(try dsimp only at hW9);obtain ⟨a0,a1,a2,a3,a4,a5,a6,a7,a8,a9⟩:=HC.o W9 hW9;obtain ⟨f2,f3,fk⟩:=HE.o W9 (G1.o.trans hW9);have fb:=Nat.lt_of_lt_of_le hbl (Gr.size hW9);go_simp;(try with_reducible rfl);done));(try simp only [AP]))
    iterate 1 (first | (refine z03 (v:=?_) rfl (by rfl) ?_ ?_;rotate_left;(focus (intro W9 hW9;(try dsimp only at hW9);obtain ⟨a0,a1,a2,a3,a4,a5,a6,a7,a8,a9⟩:=HC.o W9 hW9;obtain ⟨f2,f3,fk⟩:=HE.o W9 (G1.o.trans hW9);have fb:=Nat.lt_of_lt_of_le hbl (Gr.size hW9);go_simp;(try with_reducible rfl);done));(try simp only [AP])) | (refine z0i rfl (by rfl) ?_;(try simp only [AP])))
    refine z05 rfl (by rfl) (fun K hK=>?_)
    go_simp
    go_at_call 60
    refine (HPOLL.o _).mono ?_
    rintro en _ ⟨rfl,y9,rfl⟩
    have Y2:=hid (Gr.ext (Y1.o) y9)
    refine hK.o (fun W=>Gr w1 W) _ _ Y2.o (fun W h=>h) (fun _=>?_)
    clear hK K
    (try simp only [AP])
    iterate 2 (first | (refine z03 (v:=?_) rfl (by rfl) ?_ ?_;rotate_left;(focus (intro W9 hW9;(try dsimp only at hW9);obtain ⟨a0,a1,a2,a3,a4,a5,a6,a7,a8,a9⟩:=HC.o W9 hW9;obtain ⟨f2,f3,fk⟩:=HE.o W9 (G1.o.trans hW9);have fb:=Nat.lt_of_lt_of_le hbl (Gr.size hW9);go_simp;(try with_reducible rfl);done));(try simp only [AP])) | (refine z0i rfl (by rfl) ?_;(try simp only [AP])))
    iterate 9 (first | (refine z03 (v:=?_) rfl (by rfl) ?_ ?_;rotate_left;(focus (intro W9 hW9;(try dsimp only at hW9);obtain ⟨a0,a1,a2,a3,a4,a5,a6,a7,a8,a9⟩:=HC.o W9 hW9;obtain ⟨f2,f3,fk⟩:=HE.o W9 (G1.o.trans hW9);have fb:=Nat.lt_of_lt_of_le hbl (Gr.size hW9);go_simp;(try with_reducible rfl);done));(try simp only [AP])) | (refine z0i rfl (by rfl) ?_;(try simp only [AP])))
    refine z05 rfl (by rfl) (fun K hK=>?_)
    go_simp
    go_at_call 18
    refine (HH.o _).mono ?_
    rintro en _ ⟨rfl,y9,rfl⟩
    have Y3:=hid (Gr.ext (Y2.o) y9)
    refine hK.o (fun W=>Gr w1 W) _ _ Y3.o (fun W h=>h) (fun _=>?_)
    clear hK K
    (try simp only [AP])
    iterate 2 (first | (refine z03 (v:=?_) rfl (by rfl) ?_ ?_;rotate_left;(focus (intro W9 hW9;(try dsimp only at hW9);obtain ⟨a0,a1,a2,a3,a4,a5,a6,a7,a8,a9⟩:=HC.o W9 hW9;obtain ⟨f2,f3,fk⟩:=HE.o W9 (G1.o.trans hW9);have fb:=Nat.lt_of_lt_of_le hbl (Gr.size hW9);go_simp;(try with_reducible rfl);done));(try simp only [AP])) | (refine z0i rfl (by rfl) ?_;(try simp only [AP])))
    refine z06 rfl (by rfl) (fun K hK=>?_)
    go_simp
    refine hK.o _ _ ?_
    clear hK K
    go_wp2_with fail
    go_ret
    refine ⟨?_,G1.o.trans Y3.o⟩
    have hh:=hsb.o
    rw [HX.o]
    simp at hh
    simp [h7,h9,hh]
   ·have hsb:=hid hs
    refine z01 [(0,false),(1,true),(2,false),(3,false),(4,false),(5,true),(6,false),(7,false),(8,false),(9,false),(10,false),(11,false),(12,false),(14,false),(15,false),(16,false),(17,false),(13,true),(18,false),(19,false),(20,true)] (fun W=>Gr w1 W) (by kernel_rfl) (by kernel_rfl) (fun _ _ d _ _ h=>by cases d<;>exact h) (Gr.refl w1).drew (fun _=>?_)
    iterate 1 (refine z03 (v:=?_) rfl (by rfl) ?_ ?_;rotate_left;(focus (intro W9 hW9;(try dsimp only at hW9);obtain ⟨a0,a1,a2,a3,a4,a5,a6,a7,a8,a9⟩:=HC.o W9 hW9;obtain ⟨f2,f3,fk⟩:=HE.o W9 (G1.o.trans hW9);have fb:=Nat.lt_of_lt_of_le hbl (Gr.size hW9);go_simp;(try with_reducible rfl);done));(try simp only [AP]))
    refine z05 rfl (by rfl) (fun K hK=>?_)
    go_simp
    go_at_call 59
    refine (HRIGHT.o _ (G1.o.trans (Gr.refl w1).drew)).mono ?_
    rintro en _ ⟨rfl,y9,rfl⟩
    have Y1:=hid (Gr.ext ((Gr.refl w1).drew) y9)
    refine hK.o (fun W=>Gr w1 W) _ _ Y1.o (fun W h=>h) (fun _=>?_)
    clear hK K
    (try simp only [AP])
    iterate 2 (refine z03 (v:=?_) rfl (by rfl) ?_ ?_;rotate_left;(focus (intro W9 hW9;(try dsimp only at hW9);obtain ⟨a0,a1,a2,a3,a4,a5,a6,a7,a8,a9⟩:=HC.o W9 hW9;obtain ⟨f2,f3,fk⟩:=HE.o W9 (G1.o.trans hW9);have fb:=Nat.lt_of_lt_of_le hbl (Gr.size hW9);go_simp;(try with_reducible rfl);done));(try simp only [AP]))
    iterate 1 (first | (refine z03 (v:=?_) rfl (by rfl) ?_ ?_;rotate_left;(focus (intro W9 hW9;(try dsimp only at hW9);obtain ⟨a0,a1,a2,a3,a4,a5,a6,a7,a8,a9⟩:=HC.o W9 hW9;obtain ⟨f2,f3,fk⟩:=HE.o W9 (G1.o.trans hW9);have fb:=Nat.lt_of_lt_of_le hbl (Gr.size hW9);go_simp;(try with_reducible rfl);done));(try simp only [AP])) | (refine z0i rfl (by rfl) ?_;(try simp only [AP])))
    refine z05 rfl (by rfl) (fun K hK=>?_)
    go_simp
    go_at_call 60
    refine (HPOLL.o _).mono ?_
    rintro en _ ⟨rfl,y9,rfl⟩
    have Y2:=hid (Gr.ext (Y1.o) y9)
    refine hK.o (fun W=>Gr w1 W) _ _ Y2.o (fun W h=>h) (fun _=>?_)
    clear hK K
    (try simp only [AP])
    iterate 2 (first | (refine z03 (v:=?_) rfl (by rfl) ?_ ?_;rotate_left;(focus (intro W9 hW9;(try dsimp only at hW9);obtain ⟨a0,a1,a2,a3,a4,a5,a6,a7,a8,a9⟩:=HC.o W9 hW9;obtain ⟨f2,f3,fk⟩:=HE.o W9 (G1.o.trans hW9);have fb:=Nat.lt_of_lt_of_le hbl (Gr.size hW9);go_simp;(try with_reducible rfl);done));(try simp only [AP])) | (refine z0i rfl (by rfl) ?_;(try simp only [AP])))
    iterate 9 (first | (refine z03 (v:=?_) rfl (by rfl) ?_ ?_;rotate_left;(focus (intro W9 hW9;(try dsimp only at hW9);obtain ⟨a0,a1,a2,a3,a4,a5,a6,a7,a8,a9⟩:=HC.o W9 hW9;obtain ⟨f2,f3,fk⟩:=HE.o W9 (G1.o.trans hW9);have fb:=Nat.lt_of_lt_of_le hbl (Gr.size hW9);go_simp;(try with_reducible rfl);done));(try simp only [AP])) | (refine z0i rfl (by rfl) ?_;(try simp only [AP])))
    refine z05 rfl (by rfl) (fun K hK=>?_)
    go_simp
    go_at_call 18
    refine (HH.o _).mono ?_
    rintro en _ ⟨rfl,y9,rfl⟩
    have Y3:=hid (Gr.ext (Y2.o) y9)
    refine hK.o (fun W=>Gr w1 W) _ _ Y3.o (fun W h=>h) (fun _=>?_)
    clear hK K
    (try simp only [AP])
    iterate 2 (first | (refine z03 (v:=?_) rfl (by rfl) ?_ ?_;rotate_left;(focus (intro W9 hW9;(try dsimp only at hW9);obtain ⟨a0,a1,a2,a3,a4,a5,a6,a7,a8,a9⟩:=HC.o W9 hW9;obtain ⟨f2,f3,fk⟩:=HE.o W9 (G1.o.trans hW9);have fb:=Nat.lt_of_lt_of_le hbl (Gr.size hW9);go_simp;(try with_reducible rfl);done));(try simp only [AP])) | (refine z0i rfl (by rfl) ?_;(try simp only [AP])))
    refine z06 rfl (by rfl) (fun K hK=>?_)
    go_simp
    refine hK.o _ _ ?_
    clear hK K
    go_wp2_with fail
    go_ret
    refine ⟨?_,G1.o.trans Y3.o⟩
    have hh:=hsb.o
    rw [HX.o]
    simp at hh
    simp [h7,h9,hh]
  ·rw [hp] at HPOLL
   have h79:ck=7∨ck=9:=by simpa using hp
   have H79:=hid h79
   clear hp h79
   refine z01 [(0,false),(1,true),(2,false),(3,false),(4,false),(5,true),(6,false),(7,false),(8,false),(9,false),(10,false),(11,false),(12,false),(14,false),(15,false),(16,false),(17,false),(13,true),(18,false),(19,false),(20,true)] (fun W=>Gr w1 W) (by kernel_rfl) (by kernel_rfl) (fun _ _ d _ _ h=>by cases d<;>exact h) (Gr.refl w1).drew (fun _=>?_)
   iterate 1 (refine z03 (v:=?_) rfl (by rfl) ?_ ?_;rotate_left;(focus (intro W9 hW9;(try dsimp only at hW9);obtain ⟨a0,a1,a2,a3,a4,a5,a6,a7,a8,a9⟩:=HC.o W9 hW9;obtain ⟨f2,f3,fk⟩:=HE.o W9 (G1.o.trans hW9);have fb:=Nat.lt_of_lt_of_le hbl (Gr.size hW9);go_simp;(try with_reducible rfl);done));(try simp only [AP]))
   refine z05 rfl (by rfl) (fun K hK=>?_)
   go_simp
   go_at_call 59
   refine (HRIGHT.o _ (G1.o.trans (Gr.refl w1).drew)).mono ?_
   rintro en _ ⟨rfl,y9,rfl⟩
   have Y1:=hid (Gr.ext ((Gr.refl w1).drew) y9)
   refine hK.o (fun W=>Gr w1 W) _ _ Y1.o (fun W h=>h) (fun _=>?_)
   clear hK K
   (try simp only [AP])
   iterate 2 (refine z03 (v:=?_) rfl (by rfl) ?_ ?_;rotate_left;(focus (intro W9 hW9;(try dsimp only at hW9);obtain ⟨a0,a1,a2,a3,a4,a5,a6,a7,a8,a9⟩:=HC.o W9 hW9;obtain ⟨f2,f3,fk⟩:=HE.o W9 (G1.o.trans hW9);have fb:=Nat.lt_of_lt_of_le hbl (Gr.size hW9);go_simp;(try with_reducible rfl);done));(try simp only [AP]))
   iterate 1 (first | (refine z03 (v:=?_) rfl (by rfl) ?_ ?_;rotate_left;(focus (intro W9 hW9;(try dsimp only at hW9);obtain ⟨a0,a1,a2,a3,a4,a5,a6,a7,a8,a9⟩:=HC.o W9 hW9;obtain ⟨f2,f3,fk⟩:=HE.o W9 (G1.o.trans hW9);have fb:=Nat.lt_of_lt_of_le hbl (Gr.size hW9);go_simp;(try with_reducible rfl);done));(try simp only [AP])) | (refine z0i rfl (by rfl) ?_;(try simp only [AP])))
   refine z05 rfl (by rfl) (fun K hK=>?_)
   go_simp
   go_at_call 60
   refine (HPOLL.o _).mono ?_
   rintro en _ ⟨rfl,y9,rfl⟩
   have Y2:=hid (Gr.ext (Y1.o) y9)
   refine hK.o (fun W=>Gr w1 W) _ _ Y2.o (fun W h=>h) (fun _=>?_)
   clear hK K
   (try simp only [AP])
   iterate 2 (first | (refine z03 (v:=?_) rfl (by rfl) ?_ ?_;rotate_left;(focus (intro W9 hW9;(try dsimp only at hW9);obtain ⟨a0,a1,a2,a3,a4,a5,a6,a7,a8,a9⟩:=HC.o W9 hW9;obtain ⟨f2,f3,fk⟩:=HE.o W9 (G1.o.trans hW9);have fb:=Nat.lt_of_lt_of_le hbl (Gr.size hW9);go_simp;(try with_reducible rfl);done));(try simp only [AP])) | (refine z0i rfl (by rfl) ?_;(try simp only [AP])))
   iterate 9 (first | (refine z03 (v:=?_) rfl (by rfl) ?_ ?_;rotate_left;(focus (intro W9 hW9;(try dsimp only at hW9);obtain ⟨a0,a1,a2,a3,a4,a5,a6,a7,a8,a9⟩:=HC.o W9 hW9;obtain ⟨f2,f3,fk⟩:=HE.o W9 (G1.o.trans hW9);have fb:=Nat.lt_of_lt_of_le hbl (Gr.size hW9);go_simp;(try with_reducible rfl);done));(try simp only [AP])) | (refine z0i rfl (by rfl) ?_;(try simp only [AP])))
   refine z2z rfl (by rfl) ?_
   (try simp only [AP])
   iterate 2 (first | (refine z03 (v:=?_) rfl (by rfl) ?_ ?_;rotate_left;(focus (intro W9 hW9;(try dsimp only at hW9);obtain ⟨a0,a1,a2,a3,a4,a5,a6,a7,a8,a9⟩:=HC.o W9 hW9;obtain ⟨f2,f3,fk⟩:=HE.o W9 (G1.o.trans hW9);have fb:=Nat.lt_of_lt_of_le hbl (Gr.size hW9);go_simp;(try with_reducible rfl);done));(try simp only [AP])) | (refine z0i rfl (by rfl) ?_;(try simp only [AP])))
   refine z06 rfl (by rfl) (fun K hK=>?_)
   go_simp
   refine hK.o _ _ ?_
   clear hK K
   go_wp2_with fail
   go_ret
   refine ⟨?_,G1.o.trans Y2.o⟩
   rw [HX.o]
   rcases H79.o with rfl | rfl<;>simp
end Go.Proofs.YtniknicnnaiilaaGreat
end
section
namespace Go.Ext
section
variable {P:Program} {ops:Array Oper} {Q:Exit→Act→World→Prop} {md:Region.Mode} {S:World→Prop}
def z6y (P:Program) (md:Region.Mode) (ops:Array Oper) (Q:Exit→Act→World→Prop) (S:World→Prop) (c:Nat):Nat→Array Bool→Act→World→Prop
 | 0,listed,a,w=>Region.ready md ops listed=[]∧Q .normal a w
 | fuel+1,listed,a,w =>
  (Region.ready md ops listed=[]→Q .normal a w) ∧
  ∀ i∈Region.ready md ops listed,wpOp P ops Q i (fun a' w'=>(S w'∨(listed.setIfInBounds i true).getD c true=true)∧z6y P md ops Q S c fuel (listed.setIfInBounds i true) a' w') a w
theorem z8w {c:Nat}:∀ (fuel:Nat) (listed:Array Bool) (a:Act) (w:World),z6y P md ops Q S c fuel listed a w→wpAny P md ops Q fuel listed a w
 | 0,_,_,_,h=>h
 | fuel+1,_,_,_,h=>⟨h.1,fun i hi=>wpOp_mono (fun a' w' h'=>z8w fuel _ a' w' h'.2) (h.2 i hi)⟩
theorem z6z {S':World→Prop} {c:Nat}:∀ (fuel:Nat) (listed:Array Bool) (a:Act) (w:World),listed.getD c true=true→z2i P md ops Q S' fuel listed a w→z6y P md ops Q S c fuel listed a w
 | 0,_,_,_,_,h=>h
 | fuel+1,_,_,_,hc,h=>⟨h.1,fun i hi=>wpOp_mono (fun a' w' h'=>⟨.inr (z4r hc),z6z fuel _ a' w' (z4r hc) h'.2⟩) (h.2 i hi)⟩
inductive Ch (md:Region.Mode) (ops:Array Oper) (i:Nat):Nat→Prop
 | one {k:Nat} {o:Oper} {e:Edge} (ho:ops[k]?=some o) (he:e∈o.after) (hb:Region.binds md e=true) (hi:e.on=i):Ch md ops i k
 | more {k:Nat} {o:Oper} {e:Edge} (ho:ops[k]?=some o) (he:e∈o.after) (hb:Region.binds md e=true) (hi:Ch md ops i e.on):Ch md ops i k
theorem Ch.listed {i c:Nat} (h:Ch md ops i c) {listed:Array Bool} (hcl:Cl md ops listed) (hc:listed.getD c true=true):listed.getD i true=true:=by
 induction h with
 | one ho he hb hi=>exact hi▸hcl _ _ ho hc _ he hb
 | more ho he hb hi ih=>exact ih (hcl _ _ ho hc _ he hb)
def chB (md:Region.Mode) (ops:Array Oper) (i:Nat):Nat→Nat→Bool
 | 0,_=>false
 | fuel+1,c=>match ops[c]? with
  | some o=>o.after.any fun e=>Region.binds md e && (e.on==i || chB md ops i fuel e.on)
  | none=>false
theorem z9r {i:Nat}:∀ {fuel c:Nat},chB md ops i fuel c=true→Ch md ops i c
 | 0,_,h=>by cases h
 | fuel+1,c,h=>by
  unfold chB at h
  split at h
  ·rename_i o ho
   simp only [Array.any_eq_true'] at h
   obtain ⟨e,he,h⟩:=h
   simp only [Bool.and_eq_true,Bool.or_eq_true,beq_iff_eq] at h
   rcases h.2 with h2 | h2
   ·exact .one ho he h.1 h2
   ·exact .more ho he h.1 (z9r h2)
  ·cases h
theorem z8u {i c:Nat} {oi:Oper} {v:Value} (hi:ops[i]?=some oi) (hsel:∀ (j:Nat) (o:Oper) cs b,ops[j]?=some o→o.op≠.select cs b)
  (hQ:∀ c a w,Q (.panic c) (a.put oi.dst v) w→Q (.panic c) a w) (hdep:Ch md ops i c) :
  ∀ (fuel:Nat) (listed:Array Bool) (a:Act) (w:World),Cl md ops listed →
   (∀ j oj,ops[j]?=some oj→j≠i→listed.getD j true=false→(∀ e∈oj.after,Region.binds md e=true→e.on≠i)→oi.apart ops oj=true) →
   i∈Region.ready md ops listed→YieldsIf P ops S oi v a→S w →
   z6y P md ops Q S c fuel (listed.setIfInBounds i true) (a.put oi.dst v) w→z6y P md ops Q S c (fuel+1) listed a w:=by
 intro fuel
 induction fuel with
 | zero =>
  intro listed a w _ _ hr hy hS H
  refine ⟨fun h=>(by rw [h] at hr;cases hr),fun j hj=>?_⟩
  by_cases hji:j=i
  ·subst hji;exact hy.wpOp hi hS ⟨.inl hS,H⟩
  ·have:=ready_mono hj hji
   rw [H.1] at this
   cases this
 | succ fuel ih =>
  intro listed a w hcl hfree hr hy hS H
  refine ⟨fun h=>(by rw [h] at hr;cases hr),fun j hj=>?_⟩
  by_cases hji:j=i
  ·subst hji;exact hy.wpOp hi hS ⟨.inl hS,H⟩
  ·have h1:=H.2 j (ready_mono hj hji)
   obtain ⟨hjun,oj,hoj,hall⟩:=mem_ready.1 hj
   have hun0:=(mem_ready.1 hr).1
   have hnot:∀ e∈oj.after,Region.binds md e=true→e.on≠i:=fun e he hb heq=>by
    have h1:=hall e he hb
    have h0:=hun0
    rw [heq] at h1
    rcases Nat.lt_or_ge i listed.size with h' | h'
    ·simp [h'] at h0 h1;rw [h0] at h1;cases h1
    ·simp [Array.getElem?_eq_none h'] at h1
   have hcl':=hcl.set hj
   have hunj:(listed.setIfInBounds j true).getD i true=false:=by rw [getD_set_ne true hji];exact hun0
   have hno:¬ ((listed.setIfInBounds j true).getD c true=true):=fun h=>by
    have:=hdep.listed hcl' h
    rw [hunj] at this;cases this
   have hno2:¬ (((listed.setIfInBounds i true).setIfInBounds j true).getD c true=true):=fun h=>by
    by_cases hic:i=c
    ·exact absurd hic (fun e=>by
      subst e
      -- an operation does not wait for itself, if it is ready
      cases hdep with
      | one ho he hb hi2 =>
       obtain ⟨_,o',ho',hall'⟩:=mem_ready.1 hr
       rw [ho] at ho';injection ho' with ho';subst ho'
       have:=hall' _ he hb
       rw [hi2,zbZ hun0] at this;cases this
      | more ho he hb hi2 =>
       obtain ⟨_,o',ho',hall'⟩:=mem_ready.1 hr
       rw [ho] at ho';injection ho' with ho';subst ho'
       have h3:=zc0 (hall' _ he hb)
       have:=hi2.listed hcl h3
       rw [hun0] at this;cases this)
    ·rw [Array.setIfInBounds_comm _ _ (Ne.symm hji),getD_set_ne true hic] at h
     exact hno h
   have h2:=wpOp_putIf hoj (hfree j oj hoj hji hjun hnot) (fun cs b=>hsel i oi cs b hi) (fun cs b=>hsel j oj cs b hoj) hQ hy h1
   have hfree':∀ k ok,ops[k]?=some ok→k≠i→(listed.setIfInBounds j true).getD k true=false →
     (∀ e∈ok.after,Region.binds md e=true→e.on≠i)→oi.apart ops ok=true:=fun k ok hk hki hun hno=>by
    refine hfree k ok hk hki ?_ hno
    by_cases hjk:j=k
    ·subst hjk;exact hjun
    ·rw [getD_set_ne true hjk] at hun;exact hun
   refine wpOp_mono (fun a' w' h3=>?_) h2
   have hS':S w':=h3.2.1.resolve_right hno2
   refine ⟨.inl hS',ih (listed.setIfInBounds j true) a' w' hcl' hfree' (ready_mono hr (Ne.symm hji)) h3.1 hS' ?_⟩
   rw [Array.setIfInBounds_comm _ _ hji]
   exact h3.2.2
def zb2 (P:Program) (ops:Array Oper) (Q:Exit→Act→World→Prop) (c:Nat) (plan:List (Nat × Bool)):List Nat→(World→Prop)→Act→World→Prop
 | [],_,a,w=>∃ o,ops[c]?=some o∧Region.wanted o (yielded ops a.tmps)=true∧Oper.wp P o a w (fun a' w'=>∃ S':World→Prop,S' w'∧wpPm P ops Q plan S' a' w') Q
 | i::r,S,a,w=>∃ o v,ops[i]?=some o∧YieldsIf P ops S o v a∧zb2 P ops Q c plan r S (a.put o.dst v) w
def zcG (md:Region.Mode) (ops:Array Oper) (c:Nat) (plan:List (Nat × Bool)):List Nat→Array Bool→Bool
 | [],listed=>Region.ready md ops listed==[c] && z69 md ops plan (listed.setIfInBounds c true)
 | i::r,listed=>Region.free md ops listed i && chB md ops i 9 c && (Region.ready md ops listed).contains i && zcG md ops c plan r (listed.setIfInBounds i true)
theorem z8v (hsel:Region.noSelect ops=true) (hQ:∀ c a d v w,Q (.panic c) (Act.put a d v) w→Q (.panic c) a w) (c:Nat) (plan:List (Nat × Bool)) :
  ∀ (pre:List Nat) (listed:Array Bool) (S:World→Prop) (a:Act) (w:World),Cl md ops listed→zcG md ops c plan pre listed=true→S w→zb2 P ops Q c plan pre S a w→z6y P md ops Q S c (pre.length+1+plan.length) listed a w
 | [],listed,S,a,w,hcl,hB,hS,h=>by
  simp only [zcG,Bool.and_eq_true,beq_iff_eq] at hB
  obtain ⟨hr,hB'⟩:=hB
  obtain ⟨o,ho,hw,h'⟩:=h
  rw [show ([]:List Nat).length+1+plan.length=plan.length+1 by simp;omega]
  refine ⟨fun h0=>(by rw [hr] at h0;cases h0),fun j hj=>?_⟩
  have hji:j=c:=by rw [hr] at hj;simpa using hj
  subst hji
  have hset:(listed.setIfInBounds j true).getD j true=true:=by
   rcases Nat.lt_or_ge j listed.size with h' | h'
   ·simp [h']
   ·simp [h']
  unfold wpOp
  simp only [ho]
  rw [if_pos hw]
  refine .inl (Oper.wp_mono (fun a' w' h9=>?_) h')
  obtain ⟨S',h1,h3⟩:=h9
  exact ⟨.inr hset,z6z _ _ _ _ hset (z1w hsel hQ plan _ S' a' w' (hcl.set hj) hB' h1 h3)⟩
 | i::r,listed,S,a,w,hcl,hB,hS,h=>by
  simp only [zcG,Bool.and_eq_true] at hB
  obtain ⟨⟨⟨hf,hd⟩,hr⟩,hB'⟩:=hB
  obtain ⟨o,v,ho,hy,h'⟩:=h
  have hr':i∈Region.ready md ops listed:=by simpa using hr
  have:=z8u ho (Region.noSelect_spec hsel) (fun c a w=>hQ c a _ _ w) (z9r hd) _ listed a w hcl (Region.free_spec ho hf) hr' hy hS (z8v hsel hQ c plan r _ S _ w (hcl.set hr') hB' hS h')
  rw [show (i::r).length+1+plan.length=r.length+1+plan.length+1 by simp only [List.length_cons];omega]
  exact this
theorem z5Z {id:Nat} {a:Act} {w:World} {l:List Oper} (pre:List Nat) (c:Nat) (plan:List (Nat × Bool)) (S:World→Prop) (hm:P.follows .mixedOrders=true)
  (hB:(Region.noSelect l.toArray && (pre.length+1+plan.length==l.length) && zcG .any l.toArray c plan pre (Array.replicate l.length false))=true)
  (hQ:∀ c a d v w,Q (.panic c) (Act.put a d v) w→Q (.panic c) a w) (hS:S w.drew) (h:S w.drew→zb2 P l.toArray Q c plan pre S a w.drew):(Code.region id l.toArray true).wp P Q a w:=by
 simp only [Bool.and_eq_true,beq_iff_eq] at hB
 refine wp_region_any hm (z8w (S:=S) (c:=c) _ _ _ _ ?_)
 have hcl:Cl .any l.toArray (Array.replicate l.length false):=fun k o hk hl=>by
  have hlt:k<l.length:=by have:=(Array.getElem?_eq_some_iff.1 hk).1;simpa using this
  simp [hlt] at hl
 have:=z8v (P:=P) (Q:=Q) hB.1.1 hQ c plan pre _ S a w.drew hcl hB.2 hS (h hS)
 rw [hB.1.2] at this
 rw [show l.toArray.size=l.length by simp]
 exact this
theorem zfC {l:List Oper} {i c:Nat} {o:Oper} {v:Value} {plan:List (Nat × Bool)} {r:List Nat} {S:World→Prop} {a:Act} {w:World} (ho:l[i]?=some o) (hw:Region.wanted o (yielded l.toArray a.tmps)=true)
  (hy:∀ w,S w→(execOp a.eval o).run P w=.ok (.value v) w) (h:zb2 P l.toArray Q c plan r S (a.put o.dst v) w):zb2 P l.toArray Q c plan (i::r) S a w:=⟨o,v,(List.getElem?_toArray ..).trans ho,.inl ⟨hw,hy⟩,h⟩
theorem zfB {l:List Oper} {c:Nat} {o:Oper} {plan:List (Nat × Bool)} {S:World→Prop} {a:Act} {w:World} (ho:l[c]?=some o) (hw:Region.wanted o (yielded l.toArray a.tmps)=true)
  (h:∀ K':Act→World→Prop,Shut (∀ (S':World→Prop) a w,S' w→(S' w→wpPm P l.toArray Q plan S' a w)→K' a w)→Oper.wp P o a w K' Q):zb2 P l.toArray Q c plan [] S a w :=
 ⟨o,(List.getElem?_toArray ..).trans ho,hw,h _ (fun S' _ _ h1 h2=>⟨S',h1,h2 h1⟩)⟩
end
end Go.Ext
end
section
namespace Go.Proofs.YtniknicnnaiilaaGreat
set_option maxRecDepth 100000
open Go.RowKit Go.Ext Go.BigFrame Go.Maps Go.MapKept
attribute [local go_sem] Ext.cell Ext.frozen Ext.lt Ext.le s1 s2 s3 s4 s5 s6 t1 t2 t3 t4 t5 t6
attribute [local go_sem ↓] Go.wp_at_zero Go.wp_at_succ
theorem zaj {E E':ES} {id list n pf pr now k:Int} {data:List UInt8} (h:z0U E id list n data pf pr now=some (E',k)):k=z5L E id:=by
 unfold z0U at h
 unfold z5L
 simp only at h
 split at h
 ·cases h
 ·obtain ⟨E1,_,h2⟩:=Option.map_eq_some_iff.1 h
  injection h2 with _ h2
  exact h2.symm
set_option maxHeartbeats 4000000 in
theorem zcX (PUT:z0e) (k:Nat) (E:ES) (c:Call) (d l:Value) (M S:Bl) (w:World) (h:EngR w M S k E) (hE:EOk E) (hdue:E.due.length≤998000) (hc:z0P w M c d l) :
  Calls Tryz.prog 61 #[.pointer (some ⟨k,0,none⟩),z0E c d l] w (RetF M S k (z2n E c) w):=by
 obtain ⟨Ad,cd,rfl⟩:=hc.1.shape
 obtain ⟨Al,cl,rfl,_⟩:=hc.2.shape
 have HENG:=hid h
 have HLT:=hid h.lt
 have hks:k<w.heap.size:=h.lt.1 k (h.lt.2.1 k h.lt.2.2)
 have HE:=hid hE
 obtain ⟨w1,hw1,g1,hb0,hb1⟩:=z4Q w (.cells #[.int .i64 c.kind,.int .i64 c.flow,.int .i64 c.list,.int .i64 c.n,.int .i64 c.tok.flow,.int .i64 c.tok.run,.int .i64 c.tok.event,.int .i64 c.tok.turn,.slice Ad c.data.length cd,.slice Al c.l.length cl] 35) (.cells #[.int .i64 0,.int .i64 0,.int .i64 0,.bool false,.int .i64 0,.int .i64 0,.int .i64 0,.int .i64 0,.slice none 0 0,.slice none 0 0] 31)
 have G1:=hid g1
 have HB0:=hid hb0
 have HB1:=hid hb1
 have HM1:=hid (h.more g1 (Nat.le_succ _) (block_lt hb1))
 have HOPEN:=hid (fun W (g:Gr w1 W)=>z6m k E c.flow _ S W (HM1.o.gr g) hE)
 have HBEG:=hid (fun W (g:Gr w1 W)=>z5g PUT k E c.flow c.list c.n (.slice Ad c.data.length cd) c.data 0 0 E.now _ S W (HM1.o.gr g) hE (Nat.le_trans hdue (by omega)) ((hc.1.up (⟨g1.mod M,fun b hb e=>by
  rcases e with e | e
  ·exact e
  ·omega⟩:Up M w (fun b=>M b∨b=w.heap.size+1) w1)).up (Gr.up g _)))
 obtain ⟨X,hX⟩:∃ X,z2n E c=X:=⟨_,rfl⟩
 rw [hX]
 have HX:=hid hX
 clear hX hc hE hdue h g1 hb0 hb1
 have nS:∀ b,w.heap.size≤b→¬ S b:=fun b hb e=>by have:=HLT.o.1 b (HLT.o.2.1 b e);omega
 have NS:=hid nS
 clear nS
 rcases c with ⟨ck,cf,cli,cn,⟨tf,tr,te,tt⟩,cdat,cls⟩
 simp only [z0E,z1U] at *
 generalize hdl:cdat.length=dl at *
 generalize cls.length=ll at *
 have HW1:=hid hw1
 clear hw1
 obtain ⟨a0,a1,a2,a3,a4,a5,a6,a7,a8,a9⟩:=z04 HB0.o
 obtain ⟨b0,b1,b2,b3,b4,b5,b6,b7,b8,b9⟩:=z04 HB1.o
 have l0:=block_lt HB0.o
 have l1:=block_lt HB1.o
 cases hop:z3g E cf
 ·rw [hop] at HOPEN
  go_enter Tryz.func61,Tryz.ntmps61
  go_upto_region 1 with fail
  rw [HW1.o]
  go_upto_region 3 with (go_at_call 99;refine (HOPEN.o _ (Gr.refl _)).mono ?_;rintro en _ ⟨rfl,y1,rfl⟩)
  have Y1:=hid y1.gr
  have HC:=hid (fun W (g:Gr w1 W)=>z04 ((g.block _ l0).trans HB0.o))
  have HKC:=hid (fun W (g:Gr w1 W)=>(show W.cell? ⟨k,4,none⟩=some (.int .i64 E.now)∧k<W.heap.size from by
   obtain ⟨kd,ka,md,ma,mr,kh,hv,hP⟩:=HM1.o.gr g
   exact ⟨hP.cells.2.2.2.2.1,hP.cells.2.2.2.2.2.2.2⟩))
  refine z5Z [0,1,2,3,4,5,6,7,8,9,10,11,12,13] 14 [(15,false),(16,false),(17,false),(18,false),(19,true)] (fun W=>Gr w1 W) (by kernel_rfl) (by kernel_rfl) (fun _ _ d _ _ h=>by cases d<;>exact h) Y1.o.drew (fun _=>?_)
  iterate 14 (refine zfC (v:=?_) rfl (by rfl) ?_ ?_;rotate_left;(focus (intro W9 hW9;obtain ⟨a0,a1,a2,a3,a4,a5,a6,a7,a8,a9⟩:=HC.o W9 hW9;obtain ⟨f4,fk⟩:=HKC.o W9 hW9;have fb:=Nat.lt_of_lt_of_le l0 (Gr.size hW9);go_simp;(try with_reducible rfl);done));(try simp only [AP]))
  refine zfB rfl (by rfl) (fun K hK=>?_)
  go_simp
  go_at_call 100
  refine (HBEG.o _ Y1.o.drew).mono ?_
  intro en w2 hret
  rcases hret.cases with ⟨hR,v,rfl,⟨x,rfl⟩,hm⟩ | ⟨E',M',S',hR,rfl,heng,hal⟩
  ·have hm':=(Y1.o.drew.mod S).trans hm (fun _ _ e=>e)
   have r4:=(hm'.block (w.heap.size+1) l1 (NS.o _ (Nat.le_succ _))).trans HB1.o
   have M4:=hid hm'
   have HRN:=hid hR
   clear hret hR hm hm'
   refine hK.o (fun _=>True) _ _ trivial (fun _=>?_)
   clear hK K
   (try simp only [AP])
   iterate 4 (refine z03 (v:=?_) rfl (by rfl) ?_ ?_;rotate_left;(focus (intro W9 hW9;(try dsimp only at hW9);go_simp;(try with_reducible rfl);done));(try simp only [AP]))
   refine z06 rfl (by rfl) (fun K hK=>?_)
   go_simp
   refine hK.o _ _ ?_
   clear hK K b0 b1 b2 b3 b4 b5 b6 b7 b8 b9
   obtain ⟨b0,b1,b2,b3,b4,b5,b6,b7,b8,b9⟩:=z04 r4
   have l4:=block_lt r4
   obtain ⟨f0,f1,f2,f3,f4,f5,f6,f7,f8,f9⟩:=FZ r4
   have HF:=hid (show ∀ w3,Mod (fun x=>x=w.heap.size+1) w2 w3→RetF M S k X w (.returned (.tuple #[ansV { ans0 with run:=x } (.slice none 0 0) (.slice none 0 0),.bool true])) w3 from fun w3 m=>by
    have hb:z0U E cf cli cn cdat 0 0 E.now=none:=Option.map_eq_none_iff.1 HRN.o
    have hX:X=(ans0,none):=by
     rw [← HX.o]
     unfold z2n
     simp only [hop,Bool.false_eq_true,if_false,hb]
    rw [hX]
    exact ⟨_,none,0,0,none,0,0,rfl,z4q G1.o (Nat.le_succ _) M4.o m⟩)
   clear r4
   go_wp2_with fail
   refine bodyPost_ret (v:=.tuple #[ansV { ans0 with run:=x } (.slice none 0 0) (.slice none 0 0),.bool true]) (by simp [results,Tryz.results61,go_sem,ansV,ansC,ans0,tok0,b0,b1,b2,b3,b4,b5,b6,b7,b8,b9]) rfl ?_
   refine HF.o _ ?_
   exact z1f w2 (w.heap.size+1) _ _ _ _ _ _ _ _ _ _
  ·have hal':z0j w1 (fun b=>M b∨b=w.heap.size+1) S w2 M' S':=((z0j.refl _ _ _).gr Y1.o.drew).trans hal
   have r4:=(hal'.mod.block (w.heap.size+1) l1 (NS.o _ (Nat.le_succ _))).trans HB1.o
   have HAL:=hid hal'
   have HEN:=hid heng
   have HRN:=hid hR
   clear hret hR hal hal' heng
   obtain ⟨⟨E1,n1⟩,hb,he⟩:=Option.map_eq_some_iff.1 HRN.o
   have he1:E1=E':=he
   subst he1
   have hn1:n1=z5L E cf:=zaj hb
   have HBQ:=hid hb
   clear hb he
   have HN1:=hid hn1
   clear hn1
   generalize z5L E cf=nx at *
   refine hK.o (fun _=>True) _ _ trivial (fun _=>?_)
   clear hK K
   (try simp only [AP])
   iterate 4 (refine z03 (v:=?_) rfl (by rfl) ?_ ?_;rotate_left;(focus (intro W9 hW9;(try dsimp only at hW9);go_simp;(try with_reducible rfl);done));(try simp only [AP]))
   refine z06 rfl (by rfl) (fun K hK=>?_)
   go_simp
   refine hK.o _ _ ?_
   clear hK K b0 b1 b2 b3 b4 b5 b6 b7 b8 b9
   obtain ⟨b0,b1,b2,b3,b4,b5,b6,b7,b8,b9⟩:=z04 r4
   have l4:=block_lt r4
   obtain ⟨f0,f1,f2,f3,f4,f5,f6,f7,f8,f9⟩:=FZ r4
   have HF:=hid (show ∀ w3,Mod (fun x=>x=w.heap.size+1) w2 w3→RetF M S k X w (.returned (.tuple #[ansV { ans0 with run:=nx } (.slice none 0 0) (.slice none 0 0),.bool false])) w3 from fun w3 m=>by
    have hX:X=({ ans0 with run:=nx },some E1):=by
     rw [← HX.o]
     unfold z2n
     simp only [hop,Bool.false_eq_true,if_false,HBQ.o,HN1.o]
    rw [hX]
    have hd:BysM w2 M' (.slice none 0 0) ({ ans0 with run:=nx }:Ans).data:=BysM.none _ _
    have he:z08 evR w2 M' (.slice none 0 0) ({ ans0 with run:=nx }:Ans).events:=z08.none _ _ _
    exact ⟨.slice none 0 0,.slice none 0 0,M',S',rfl,z0F (fun b e=>HLT.o.1 b (HLT.o.2.1 b e)) G1.o (Nat.le_succ w.heap.size) l1 HEN.o HAL.o hd he m⟩)
   clear r4
   go_wp2_with fail
   refine bodyPost_ret (v:=.tuple #[ansV { ans0 with run:=nx } (.slice none 0 0) (.slice none 0 0),.bool false]) (by simp [results,Tryz.results61,go_sem,ansV,ansC,ans0,tok0,b0,b1,b2,b3,b4,b5,b6,b7,b8,b9]) rfl ?_
   refine HF.o _ ?_
   exact z1f w2 (w.heap.size+1) _ _ _ _ _ _ _ _ _ _
 ·rw [hop] at HOPEN
  have hX:X=(z0b 3,some E):=by
   rw [← HX.o]
   unfold z2n
   simp only [hop,if_true]
  have HXX:=hid hX
  clear hX
  go_enter Tryz.func61,Tryz.ntmps61
  go_upto_region 1 with fail
  rw [HW1.o]
  go_upto_region 2 with (go_at_call 99;refine (HOPEN.o _ (Gr.refl _)).mono ?_;rintro en _ ⟨rfl,y1,rfl⟩)
  have HFL:=hid (fun W=>z0R 3 W)
  go_wp2_with (go_at_call 32;refine (HFL.o _).mono ?_;rintro en _ ⟨rfl,y2,rfl⟩;(have G2:=hid (y1.gr.trans y2.gr));(have r4:=(G2.o.block _ l1).trans HB1.o);(obtain ⟨b0,b1,b2,b3,b4,b5,b6,b7,b8,b9⟩:=z04 r4);(have l4:=block_lt r4);(obtain ⟨f0,f1,f2,f3,f4,f5,f6,f7,f8,f9⟩:=FZ r4))
  have HF:=hid (show ∀ w3,Mod (fun x=>x=w.heap.size+1) y2.val w3→RetF M S k X w (.returned (.tuple #[ansV (z0b 3) (.slice none 0 0) (.slice none 0 0),.bool false])) w3 from fun w3 m=>by
   rw [HXX.o]
   have hd:BysM y2.val (fun b=>M b∨b=w.heap.size+1) (.slice none 0 0) (z0b 3).data:=BysM.none _ _
   have he:z08 evR y2.val (fun b=>M b∨b=w.heap.size+1) (.slice none 0 0) (z0b 3).events:=z08.none _ _ _
   exact ⟨.slice none 0 0,.slice none 0 0,_,S,rfl,z0F (fun b e=>HLT.o.1 b (HLT.o.2.1 b e)) G1.o (Nat.le_succ w.heap.size) l1 (HM1.o.gr G2.o) ((z0j.refl w1 _ S).gr G2.o) hd he m⟩)
  clear r4
  refine bodyPost_ret (v:=.tuple #[ansV (z0b 3) (.slice none 0 0) (.slice none 0 0),.bool false]) (by simp [results,Tryz.results61,go_sem,ansV,ansC,z0b,ans0,tok0,b0,b1,b2,b3,b4,b5,b6,b7,b8,b9]) rfl ?_
  refine HF.o _ ?_
  exact z1f y2.val (w.heap.size+1) _ _ _ _ _ _ _ _ _ _
end Go.Proofs.YtniknicnnaiilaaGreat
end
