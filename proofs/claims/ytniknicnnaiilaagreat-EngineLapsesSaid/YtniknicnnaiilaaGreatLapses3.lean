/- Lemmas of the engine. -/
import Derived.WideKeyEntry
import Derived.Test.YtniknicnnaiilaaGreatLapses2
section
namespace Go.Proofs.YtniknicnnaiilaaGreat
set_option maxRecDepth 100000
open Go.RowKit Go.Ext Go.BigFrame Go.Maps Go.MapKept
attribute [local go_sem] Ext.cell Ext.frozen Ext.lt Ext.le s1 s2 s3 s4 s5 s6 t1 t2 t3 t4 t5 t6
attribute [local go_sem ↓] Go.wp_at_zero Go.wp_at_succ
set_option maxHeartbeats 4000000 in
theorem zfE (k mk mi mo mf:Nat) (H:HS) (e:Ev) (A:Option Addr) (c:Nat) (w:World) (h:HR w k mk mi mo mf H) (f:FitP H e):Calls Tryz.prog 125 #[.pointer (some ⟨k,0,none⟩),evV e (.slice A e.data.length c)] w (RetE (.bool true) w):=by
 have rf:=f.rf
 have hk1:=f.k
 unfold RefP at rf
 rcases e with ⟨ek,et,er,ei,el,en,ed⟩
 simp only [evV]
 simp only at rf hk1
 clear f
 generalize ed.length=dl at *
 obtain ⟨w1,hw1⟩:∃ w1,w.alloc (.cells #[.int .i64 ek,.int .i64 et,.int .i64 er,.int .i64 ei,.int .i64 el,.int .i64 en,.slice A dl c] 41)=w1:=⟨_,rfl⟩
 have HB1:=hid (hw1▸heap_alloc_new w (.cells #[.int .i64 ek,.int .i64 et,.int .i64 er,.int .i64 ei,.int .i64 el,.int .i64 en,.slice A dl c] 41))
 have G1:=hid (hw1▸(Gr.refl w).alloc (.cells #[.int .i64 ek,.int .i64 et,.int .i64 er,.int .i64 ei,.int .i64 el,.int .i64 en,.slice A dl c] 41))
 have l1':=block_lt HB1.o
 have HW1:=hid hw1
 clear hw1
 have h1:=h.gr G1.o
 obtain ⟨a0,a1,a2,a3,a4,a5,a6,a7,a8⟩:=z2k h1.cell
 have lk':=block_lt h1.cell
 obtain ⟨c0,c1,c2,c3,c4,c5,c6⟩:=z0p HB1.o
 have HX:=hid (fun W (g:Gr w1 W)=>And.intro (z2k ((g.block _ lk').trans h1.cell)) (And.intro (z0p ((g.block _ l1').trans HB1.o)) (And.intro (z8d (h1.kk.gr g) er false) (And.intro (z8d (h1.ff.gr g) er true) (And.intro (z8d (h1.oo.gr g) er false) (And.intro (Nat.lt_of_lt_of_le lk' g.size) (Nat.lt_of_lt_of_le l1' g.size)))))))
 clear h h1
 rcases H with ⟨hn,hat,hcl,hks,his,ht,hb,hof,hfr⟩
 simp only [Bool.false_eq_true,if_false,if_true] at rf a0 a1 a2 a3 a4 a5 a6 a7 a8 HX
 have hkk:ek=3∨(ek=4∨ek=5∨ek=6)∨ek=8∨(ek=9∨ek=10∨ek=11)∨(ek=13∨ek=14)∨ek=18∨(¬ ek=3∧¬ ek=4∧¬ ek=5∧¬ ek=6∧¬ ek=8∧¬ ek=9∧¬ ek=10∧¬ ek=11∧¬ ek=13∧¬ ek=14∧¬ ek=18):=by omega
 refine retE ?_
 rcases hkk with rfl | e1 | rfl | e1 | e1 | rfl | ⟨n3,n4,n5,n6,n8,n9,n10,n11,n13,n14,n18⟩
 ·rw [if_pos rfl] at rf
  obtain ⟨r1,rfl,rfl⟩:=rf
  have r1':(er != 0)=true:=by simpa using r1
  go_enter Tryz.func125,Tryz.ntmps125
  go_upto_region 1 with fail
  rw [HW1.o]
  go_upto_region 5 with fail
  go_quiet (fail)
  go_wp2_with fail
  go_ret
  exact ⟨rfl,G1.o.drewN _⟩
 ·rw [if_neg (by omega),if_pos e1] at rf
  obtain ⟨r1,rfl,rfl⟩:=rf
  have r1':(er != 0)=true:=by simpa using r1
  rcases e1 with rfl | rfl | rfl
  all_goals (
   go_enter Tryz.func125,Tryz.ntmps125
   go_upto_region 1 with fail
   rw [HW1.o]
   go_upto_region 9 with fail
   go_quiet (fail)
   go_wp2_with fail
   go_ret
   exact ⟨rfl,G1.o.drewN _⟩)
 ·rw [if_neg (by omega),if_neg (by omega),if_pos rfl] at rf
  obtain ⟨r1,r2⟩:=rf
  have z1:lz hks er=7:=by unfold lz;rw [r1];rfl
  have z2:(lk hfr er).isSome=false:=by rw [r2];rfl
  go_enter Tryz.func125,Tryz.ntmps125
  go_upto_region 1 with fail
  rw [HW1.o]
  go_upto_region 11 with fail
  refine z01 [(0,false),(1,false),(2,false),(3,false),(4,false),(5,false),(6,false),(7,false),(8,false),(9,false),(10,false),(11,true)] (fun W=>Gr w1 W) (by kernel_rfl) (by kernel_rfl) (fun _ _ d _ _ h=>by cases d<;>exact h) (Gr.refl w1).drew (fun _=>?_)
  iterate 11 (refine z03 (v:=?_) rfl (by rfl) ?_ ?_;rotate_left;(focus (intro W9 hW9;obtain ⟨⟨a0,a1,a2,a3,a4,a5,a6,a7,a8⟩,⟨c0,c1,c2,c3,c4,c5,c6⟩,q1,q2,q3,la,lc⟩:=HX.o W9 hW9;rw [z2] at q2;go_simp;(try with_reducible rfl);done));(try simp only [AP]))
  refine z06 rfl (by rfl) (fun K hK=>?_)
  go_simp
  refine hK.o _ _ ?_
  clear hK K
  go_upto_region 12 with fail
  refine z01 [(0,false),(1,false),(2,false),(3,false),(4,false),(5,false),(6,false),(7,false),(8,false),(9,false),(10,false),(11,false),(12,true)] (fun W=>Gr w1 W) (by kernel_rfl) (by kernel_rfl) (fun _ _ d _ _ h=>by cases d<;>exact h) (Gr.refl w1).drew.drew (fun _=>?_)
  iterate 12 (refine z03 (v:=?_) rfl (by rfl) ?_ ?_;rotate_left;(focus (intro W9 hW9;obtain ⟨⟨a0,a1,a2,a3,a4,a5,a6,a7,a8⟩,⟨c0,c1,c2,c3,c4,c5,c6⟩,q1,q2,q3,la,lc⟩:=HX.o W9 hW9;rw [z1] at q1;go_simp;(try with_reducible rfl);done));(try simp only [AP]))
  refine z06 rfl (by rfl) (fun K hK=>?_)
  go_simp
  refine hK.o _ _ ?_
  clear hK K
  go_wp2_with fail
  go_ret
  exact ⟨rfl,G1.o.drew.drew⟩
 ·rw [if_neg (by omega),if_neg (by omega),if_neg (by omega),if_pos e1] at rf
  have r1':(lz hof er != 0)=true:=by simpa using rf
  rcases e1 with rfl | rfl | rfl
  all_goals (
   go_enter Tryz.func125,Tryz.ntmps125
   go_upto_region 1 with fail
   rw [HW1.o]
   go_upto_region 16 with fail
   refine z01 [(0,false),(1,false),(2,false),(3,false),(4,false),(5,false),(6,false),(7,false),(8,true)] (fun W=>Gr w1 W) (by kernel_rfl) (by kernel_rfl) (fun _ _ d _ _ h=>by cases d<;>exact h) (Gr.refl w1).drew (fun _=>?_)
   iterate 8 (refine z03 (v:=?_) rfl (by rfl) ?_ ?_;rotate_left;(focus (intro W9 hW9;obtain ⟨⟨a0,a1,a2,a3,a4,a5,a6,a7,a8⟩,⟨c0,c1,c2,c3,c4,c5,c6⟩,q1,q2,q3,la,lc⟩:=HX.o W9 hW9; go_simp;(try with_reducible rfl);done));(try simp only [AP]))
   refine z06 rfl (by rfl) (fun K hK=>?_)
   go_simp
   refine hK.o _ _ ?_
   clear hK K
   go_wp2_with fail
   go_ret
   exact ⟨rfl,G1.o.drew⟩)
 ·rw [if_neg (by omega),if_neg (by omega),if_neg (by omega),if_neg (by omega),if_pos e1] at rf
  have z1:lz hks er=12:=by unfold lz;rw [rf];rfl
  rcases e1 with rfl | rfl
  all_goals (
   go_enter Tryz.func125,Tryz.ntmps125
   go_upto_region 1 with fail
   rw [HW1.o]
   go_upto_region 22 with fail
   refine z01 [(0,false),(1,false),(2,false),(3,false),(4,false),(5,false),(6,false),(7,false),(8,false),(9,true)] (fun W=>Gr w1 W) (by kernel_rfl) (by kernel_rfl) (fun _ _ d _ _ h=>by cases d<;>exact h) (Gr.refl w1).drew (fun _=>?_)
   iterate 9 (refine z03 (v:=?_) rfl (by rfl) ?_ ?_;rotate_left;(focus (intro W9 hW9;obtain ⟨⟨a0,a1,a2,a3,a4,a5,a6,a7,a8⟩,⟨c0,c1,c2,c3,c4,c5,c6⟩,q1,q2,q3,la,lc⟩:=HX.o W9 hW9;rw [z1] at q1;go_simp;(try with_reducible rfl);done));(try simp only [AP]))
   refine z06 rfl (by rfl) (fun K hK=>?_)
   go_simp
   refine hK.o _ _ ?_
   clear hK K
   go_wp2_with fail
   go_ret
   exact ⟨rfl,G1.o.drew⟩)
 ·rw [if_neg (by omega),if_neg (by omega),if_neg (by omega),if_neg (by omega),if_neg (by omega),if_pos rfl] at rf
  have z1:lz hks er=17:=by unfold lz;rw [rf];rfl
  go_enter Tryz.func125,Tryz.ntmps125
  go_upto_region 1 with fail
  rw [HW1.o]
  go_upto_region 22 with fail
  refine z01 [(0,false),(1,false),(2,false),(3,false),(4,false),(5,false),(6,false),(7,false),(8,false),(9,true)] (fun W=>Gr w1 W) (by kernel_rfl) (by kernel_rfl) (fun _ _ d _ _ h=>by cases d<;>exact h) (Gr.refl w1).drew (fun _=>?_)
  iterate 9 (refine z03 (v:=?_) rfl (by rfl) ?_ ?_;rotate_left;(focus (intro W9 hW9;obtain ⟨⟨a0,a1,a2,a3,a4,a5,a6,a7,a8⟩,⟨c0,c1,c2,c3,c4,c5,c6⟩,q1,q2,q3,la,lc⟩:=HX.o W9 hW9;rw [z1] at q1;go_simp;(try with_reducible rfl);done));(try simp only [AP]))
  refine z06 rfl (by rfl) (fun K hK=>?_)
  go_simp
  refine hK.o _ _ ?_
  clear hK K
  go_wp2_with fail
  go_ret
  exact ⟨rfl,G1.o.drew⟩
 ·rw [if_neg (by omega),if_neg (by omega),if_neg (by omega),if_neg (by omega),if_neg (by omega),if_neg (by omega)] at rf
  subst rf
  go_enter Tryz.func125,Tryz.ntmps125
  go_upto_region 1 with fail
  rw [HW1.o]
  go_wp2_with fail
  go_ret
  exact ⟨rfl,G1.o⟩
set_option maxHeartbeats 2000000 in
theorem zeh (k mk mi mo mf:Nat) (H:HS) (kind id:Int) (w:World) (h:HR w k mk mi mo mf H) (hu:∀ x∈H.kinds,x.2=kind→lz H.ids x.1≠id) :
  Calls Tryz.prog 126 #[.pointer (some ⟨k,0,none⟩),.int .i64 kind,.int .i64 id] w (RetE (.bool false) w):=by
 have HH:=hid h
 have HU:=hid hu
 obtain ⟨a0,a1,a2,a3,a4,a5,a6,a7,a8⟩:=z2k h.cell
 have hkl:=block_lt h.cell
 obtain ⟨es,clock,hm,hst,he1,he2⟩:=MI.entries h.kk
 have hrg0:=run_range_map (P:=Tryz.prog) w 65 3 3 mk es clock Tryz.underlying65 hm
 clear h hu
 refine retE ?_
 go_enter Tryz.func126,Tryz.ntmps126
 go_wp2_with fail
 go_loopw [] (fun wr=>∃ seen:Array Nat,Gr w wr∧wr.heap[w.heap.size]?=some (.mapIter (some mk) clock seen clock)) (fun wr=>(leftOf es (wr.iterSeen w.heap.size)).size)
 case atStart=>exact ⟨#[],(Gr.refl w).alloc _,heap_alloc_new w _⟩
 case round =>
  obtain ⟨seen,hg,hit⟩:=hrel
  have HSN:=hid (z0Z hit)
  rcases z5F (P:=Tryz.prog) hit hm hst (Nat.le_refl _) hg with ⟨h0,hnx⟩ | ⟨e,he,W2,hg2,hit2,hnx,hen⟩
  ·go_wp2_with fail
   go_ret
   exact ⟨rfl,hg⟩
  ·obtain ⟨x,hx,ek,ev⟩:=he1 e (mem_left he).1
   have HIT:=hid hit2
   have HE:=hid he
   have HG2:=hid hg2
   rw [ek,ev] at hnx hen
   clear hit hit2 he ek ev
   rcases x with ⟨q,xk⟩
   have hux:=HU.o _ hx
   simp only at hux
   have hlk:=z8d (HH.o.gr hg2).ii q false
   obtain ⟨b0,b1,b2,b3,b4,b5,b6,b7,b8⟩:=z2k (HH.o.gr hg2).cell
   have hkl2:=block_lt (HH.o.gr hg2).cell
   simp only [Bool.false_eq_true,if_false] at hlk
   generalize lz H.ids q=z at *
   clear hg2
   by_cases hk1:xk=kind
   ·have hz:(z==id)=false:=by simpa using hux hk1
    subst hk1
    go_wp2_with fail
    go_roundw
    case rel=>exact ⟨_,HG2.o,HIT.o⟩
    case measure =>
     rw [HSN.o,z0Z HIT.o]
     exact left_shrinks es seen e HE.o
   ·go_wp2_with fail
    go_roundw
    case rel=>exact ⟨_,HG2.o,HIT.o⟩
    case measure =>
     rw [HSN.o,z0Z HIT.o]
     exact left_shrinks es seen e HE.o
set_option maxHeartbeats 4000000 in
theorem zbF (k mk mi mo mf:Nat) (H:HS) (e:Ev) (A:Option Addr) (c:Nat) (w:World) (h:HR w k mk mi mo mf H) (f:FitP H e):Calls Tryz.prog 80 #[.pointer (some ⟨k,0,none⟩),evV e (.slice A e.data.length c)] w (RetE (.string ⟨#[]⟩) w):=by
 obtain ⟨w1,hw1⟩:∃ w1,w.alloc (.cells #[.int .i64 e.kind,.int .i64 e.tick,.int .i64 e.ref,.int .i64 e.id,.int .i64 e.list,.int .i64 e.n,.slice A e.data.length c] 41)=w1:=⟨_,rfl⟩
 have HB1:=hid (hw1▸heap_alloc_new w (.cells #[.int .i64 e.kind,.int .i64 e.tick,.int .i64 e.ref,.int .i64 e.id,.int .i64 e.list,.int .i64 e.n,.slice A e.data.length c] 41))
 have G1:=hid (hw1▸(Gr.refl w).alloc (.cells #[.int .i64 e.kind,.int .i64 e.tick,.int .i64 e.ref,.int .i64 e.id,.int .i64 e.list,.int .i64 e.n,.slice A e.data.length c] 41))
 have HW1:=hid hw1
 have h1:=h.gr G1.o
 have lk':=block_lt h1.cell
 have l1':=block_lt HB1.o
 have HRIGHT:=hid (fun W=>zaU e A c H W f)
 have HREF:=hid (fun W (g:Gr w1 W)=>zfE k mk mi mo mf H e A c W (h1.gr g) f)
 have HUSES:=hid (fun W (g:Gr w1 W) (hk:e.kind=7∨e.kind=12∨e.kind=17)=>zeh k mk mi mo mf H e.kind e.id W (h1.gr g) (f.us hk))
 have HX:=hid (fun W (g:Gr w1 W)=>And.intro (z2k ((g.block _ lk').trans h1.cell)) (And.intro (z0p ((g.block _ l1').trans HB1.o)) (And.intro (Nat.lt_of_lt_of_le lk' g.size) (Nat.lt_of_lt_of_le l1' g.size))))
 have hat':=f.at_
 have hfi:=f.first
 have hcl:=f.cl
 have ht2:=f.t2
 clear h h1 f hw1
 rcases e with ⟨ek,et,er,ei,el,en,ed⟩
 rcases H with ⟨hn,hat,hcl',hks,his,ht,hb,hof,hfr⟩
 simp only [evV] at *
 generalize ed.length=dl at *
 subst hcl
 have HG:=hid (Gr.refl w1)
 obtain ⟨⟨a0,a1,a2,a3,a4,a5,a6,a7,a8⟩,⟨c0,c1,c2,c3,c4,c5,c6⟩,la,lc⟩:=HX.o w1 HG.o
 have hkk:(ek=2∧ht=0∧(hn==0)=false)∨((ek=7∨ek=12∨ek=17)∧(hn==0)=false)∨(¬ ek=2∧¬ ek=7∧¬ ek=12∧¬ ek=17∧(hn==0)=(ek==1)):=by
  by_cases e2:ek=2
  ·exact .inl ⟨e2,ht2 e2,by rw [beq_eq_false_iff_ne];intro e;have:=hfi.1 e;omega⟩
  by_cases e7:ek=7∨ek=12∨ek=17
  ·exact .inr (.inl ⟨e7,by rw [beq_eq_false_iff_ne];intro e;have:=hfi.1 e;omega⟩)
  ·refine .inr (.inr ⟨e2,fun e=>e7 (.inl e),fun e=>e7 (.inr (.inl e)),fun e=>e7 (.inr (.inr e)),?_⟩)
   rw [Bool.eq_iff_iff,beq_iff_eq,beq_iff_eq]
   exact hfi
 clear hfi ht2
 refine retE ?_
 rcases hkk with ⟨rfl,rfl,hb1⟩ | ⟨e7,hb1⟩ | ⟨n2,n7,n12,n17,hb1⟩
 ·go_enter Tryz.func80,Tryz.ntmps80
  go_upto_region 1 with fail
  rw [HW1.o]
  go_wp2_with fail
  refine (HRIGHT.o _).mono ?_
  rintro en _ ⟨rfl,y,rfl⟩
  have g:=HG.o.trans y.gr
  obtain ⟨W,hW⟩:∃ W,y.val=W:=⟨_,rfl⟩
  rw [hW] at g ⊢
  clear hW y a0 a1 a2 a3 a4 a5 a6 a7 a8 c0 c1 c2 c3 c4 c5 c6 la lc
  replace HG:=hid g
  clear g
  obtain ⟨⟨a0,a1,a2,a3,a4,a5,a6,a7,a8⟩,⟨c0,c1,c2,c3,c4,c5,c6⟩,la,lc⟩:=HX.o W HG.o
  go_upto_region 3 with fail
  go_quiet (fail)
  go_upto_region 5 with fail
  go_quiet (fail)
  go_wp2_with fail
  refine (HREF.o _ (HG.o.drewN _)).mono ?_
  rintro en _ ⟨rfl,y,rfl⟩
  have g:=(HG.o.drewN _).trans y.gr
  obtain ⟨W,hW⟩:∃ W,y.val=W:=⟨_,rfl⟩
  rw [hW] at g ⊢
  clear hW y a0 a1 a2 a3 a4 a5 a6 a7 a8 c0 c1 c2 c3 c4 c5 c6 la lc
  replace HG:=hid g
  clear g
  obtain ⟨⟨a0,a1,a2,a3,a4,a5,a6,a7,a8⟩,⟨c0,c1,c2,c3,c4,c5,c6⟩,la,lc⟩:=HX.o W HG.o
  go_wp2_with fail
  go_ret
  exact ⟨rfl,G1.o.trans HG.o⟩
 ·rcases e7 with rfl | rfl | rfl
  all_goals (
   go_enter Tryz.func80,Tryz.ntmps80
   go_upto_region 1 with fail
   rw [HW1.o]
   go_wp2_with fail
   refine (HRIGHT.o _).mono ?_
   rintro en _ ⟨rfl,y,rfl⟩
   have g:=HG.o.trans y.gr
   obtain ⟨W,hW⟩:∃ W,y.val=W:=⟨_,rfl⟩
   rw [hW] at g ⊢
   clear hW y a0 a1 a2 a3 a4 a5 a6 a7 a8 c0 c1 c2 c3 c4 c5 c6 la lc
   replace HG:=hid g
   clear g
   obtain ⟨⟨a0,a1,a2,a3,a4,a5,a6,a7,a8⟩,⟨c0,c1,c2,c3,c4,c5,c6⟩,la,lc⟩:=HX.o W HG.o
   go_upto_region 3 with fail
   go_quiet (fail)
   go_upto_region 5 with fail
   go_quiet (fail)
   go_wp2_with fail
   refine (HREF.o _ (HG.o.drewN _)).mono ?_
   rintro en _ ⟨rfl,y,rfl⟩
   have g:=(HG.o.drewN _).trans y.gr
   obtain ⟨W,hW⟩:∃ W,y.val=W:=⟨_,rfl⟩
   rw [hW] at g ⊢
   clear hW y a0 a1 a2 a3 a4 a5 a6 a7 a8 c0 c1 c2 c3 c4 c5 c6 la lc
   replace HG:=hid g
   clear g
   obtain ⟨⟨a0,a1,a2,a3,a4,a5,a6,a7,a8⟩,⟨c0,c1,c2,c3,c4,c5,c6⟩,la,lc⟩:=HX.o W HG.o
   go_wp2_with fail
   refine (HUSES.o _ HG.o (by decide)).mono ?_
   rintro en _ ⟨rfl,y,rfl⟩
   have g:=HG.o.trans y.gr
   obtain ⟨W,hW⟩:∃ W,y.val=W:=⟨_,rfl⟩
   rw [hW] at g ⊢
   clear hW y a0 a1 a2 a3 a4 a5 a6 a7 a8 c0 c1 c2 c3 c4 c5 c6 la lc
   replace HG:=hid g
   clear g
   obtain ⟨⟨a0,a1,a2,a3,a4,a5,a6,a7,a8⟩,⟨c0,c1,c2,c3,c4,c5,c6⟩,la,lc⟩:=HX.o W HG.o
   go_wp2_with fail
   go_ret
   exact ⟨rfl,G1.o.trans HG.o⟩)
 ·obtain ⟨b,hb2⟩:∃ b,(ek==1)=b:=⟨_,rfl⟩
  rw [hb2] at hb1
  go_enter Tryz.func80,Tryz.ntmps80
  go_upto_region 1 with fail
  rw [HW1.o]
  go_wp2_with fail
  refine (HRIGHT.o _).mono ?_
  rintro en _ ⟨rfl,y,rfl⟩
  have g:=HG.o.trans y.gr
  obtain ⟨W,hW⟩:∃ W,y.val=W:=⟨_,rfl⟩
  rw [hW] at g ⊢
  clear hW y a0 a1 a2 a3 a4 a5 a6 a7 a8 c0 c1 c2 c3 c4 c5 c6 la lc
  replace HG:=hid g
  clear g
  obtain ⟨⟨a0,a1,a2,a3,a4,a5,a6,a7,a8⟩,⟨c0,c1,c2,c3,c4,c5,c6⟩,la,lc⟩:=HX.o W HG.o
  go_upto_region 3 with fail
  go_quiet (fail)
  go_upto_region 5 with fail
  go_quiet (fail)
  go_wp2_with fail
  refine (HREF.o _ (HG.o.drewN _)).mono ?_
  rintro en _ ⟨rfl,y,rfl⟩
  have g:=(HG.o.drewN _).trans y.gr
  obtain ⟨W,hW⟩:∃ W,y.val=W:=⟨_,rfl⟩
  rw [hW] at g ⊢
  clear hW y a0 a1 a2 a3 a4 a5 a6 a7 a8 c0 c1 c2 c3 c4 c5 c6 la lc
  replace HG:=hid g
  clear g
  obtain ⟨⟨a0,a1,a2,a3,a4,a5,a6,a7,a8⟩,⟨c0,c1,c2,c3,c4,c5,c6⟩,la,lc⟩:=HX.o W HG.o
  go_wp2_with fail
  go_ret
  exact ⟨rfl,G1.o.trans HG.o⟩
theorem MI.entryNew {P:Program} {w:World} {b:Nat} {kv:List (Int × Value)} (h:MI w b kv) {T K E:TypeId} (hT:P.underlying T=some (.map K E)) (hK:P.underlying K=some (.int .i64)) {z:Value} (hz:(zeroValue E).run P w=.ok z w) {k:Int} (hn:lk kv k=none) (v:Value) :
  ∃ st w1,(Instr.mapEntry T (.map (some b)) (.int .i64 k)).run P w=.ok (.tuple #[z,st]) w1∧Mod (fun x=>x=b) w w1∧∀ w2,w2.heap[b]?=w1.heap[b]?→∃ w3,(Instr.entryStore T (.map (some b)) st v).run P w2=.ok () w3∧MI w3 b (up kv k v)∧Mod (fun x=>x=b) w2 w3:=by
 obtain ⟨es,clock,hb,h1,h2⟩:=h
 have hc:∀ e,(Instr.checkKey e 10000 K (.int .i64 k)).run P w=.ok () w:=fun e=>MapKept.run_checkKey (n:=9999) hK (by simp [IsKey]) e
 have hno:∀ x∈es.toList,x.key≠.int .i64 k:=fun x hx he=>by
  have:=congrArg (List.map Prod.fst) h1
  have hm:x.key∈es.toList.map (·.key):=List.mem_map.2 ⟨x,hx,rfl⟩
  have e1:es.toList.map (·.key)=kv.map (fun x=>Value.int .i64 x.1):=by simpa [kvs,List.map_map,Function.comp_def] using this
  rw [e1,he] at hm
  obtain ⟨y,hy,hyk⟩:=List.mem_map.1 hm
  injection hyk with _ hyk
  exact z73 hn (List.mem_map.2 ⟨y,hy,hyk⟩)
 rcases z3k k es.toList kv 0 h1 with ⟨h3,h4⟩ | ⟨j,e,h3,h4,h5,_⟩
 rotate_left
 ·rw [hn] at h5;cases h5
 have hf:(Instr.findKey K (.int .i64 k) es.toList).run P w=.ok none w:=MapKept.run_findKey hK h4
 obtain ⟨w1,hr,hb1,hm1⟩:=z4g (P:=P) hb (.map (es.push { key:=.int .i64 k,val:=z,born:=clock }) (clock+1))
 refine ⟨goInt clock,w1,?_,hm1,fun w2 hw2=>?_⟩
 ·simp [Instr.mapEntry,run_underlying hT,MapKept.run_getObj_map hb,hc,hf,hz,hr,Sem.run_bind,Result.andThen]
 ·have hb2:=hw2.trans hb1
  have hs:=stamped_push (val:=z) h2 hno
  have hidx:(es.push ⟨.int .i64 k,z,clock⟩).findIdx? (fun e=>((e.born:Nat):Int)==((clock:Nat):Int))=some es.size:=by
   rw [WideElems.findIdx_arr]
   exact WideElems.findIdx_born (l:=(es.push ⟨.int .i64 k,z,clock⟩).toList) (j:=es.size) (e0:=⟨.int .i64 k,z,clock⟩) hs.2.1 (by simp)
  have hmod:(es.push ⟨.int .i64 k,z,clock⟩).modify es.size (fun e=>{ e with val:=v })=es.push ⟨.int .i64 k,v,clock⟩:=by
   apply Array.ext'
   rw [Array.toList_modify,Array.toList_push,Array.toList_push,← Array.length_toList,WideElems.modify_last]
  obtain ⟨w3,hr3,hb3,hm3⟩:=z4g (P:=P) hb2 (.map (es.push { key:=.int .i64 k,val:=v,born:=clock }) (clock+1))
  refine ⟨w3,?_,⟨_,_,hb3,?_,stamped_push h2 hno⟩,hm3⟩
  ·simp [Instr.entryStore,MapKept.run_getObj_map hb2,asInt,asIntOf,goInt,hidx,hmod,hr3,Sem.run_bind,Result.andThen]
  ·rw [Go.Ext.up_new hn,Array.toList_push,List.map_append,h1]
   simp [kvs]
def zh7 (w:World) (en:Ending) (w':World):Prop:=∃ mk,w.heap.size≤mk∧en=.returned (.pointer (some ⟨mk+4,0,none⟩))∧HR w' (mk+4) mk (mk+1) (mk+2) (mk+3) h00∧Gr w w'
theorem zai (w:World):Calls Tryz.prog 45 #[] w (zh7 w):=by
 have hmm:=@run_makeMap Tryz.prog
 go_enter Tryz.func45,Tryz.ntmps45
 go_wp2_with fail
 go_ret
 have g4:=(((Gr.refl w).alloc (.map #[] 0)).alloc (.map #[] 0)).alloc (.map #[] 0) |>.alloc (.map #[] 0)
 have m0:=MI.made w
 have m1:=MI.made (w.alloc (.map #[] 0))
 have m2:=MI.made ((w.alloc (.map #[] 0)).alloc (.map #[] 0))
 have m3:=MI.made (((w.alloc (.map #[] 0)).alloc (.map #[] 0)).alloc (.map #[] 0))
 have g5:=(Gr.refl ((((w.alloc (.map #[] 0)).alloc (.map #[] 0)).alloc (.map #[] 0)).alloc (.map #[] 0))).alloc (.cells #[.int .i64 0,.int .i64 0,.int .i64 0,.map (some w.heap.size),.map (some (w.heap.size+1)),.int .i64 0,.bool false,.map (some (w.heap.size+2)),.map (some (w.heap.size+3))] 145)
 have hc:=heap_alloc_new ((((w.alloc (.map #[] 0)).alloc (.map #[] 0)).alloc (.map #[] 0)).alloc (.map #[] 0)) (.cells #[.int .i64 0,.int .i64 0,.int .i64 0,.map (some w.heap.size),.map (some (w.heap.size+1)),.int .i64 0,.bool false,.map (some (w.heap.size+2)),.map (some (w.heap.size+3))] 145)
 simp only [World.size_alloc] at m1 m2 m3 hc
 refine ⟨w.heap.size,Nat.le_refl _,rfl,⟨hc,?_,?_,?_,?_,by omega,by omega,by omega,by omega⟩,g4.trans g5⟩
 ·exact (m0.gr ((((Gr.refl _).alloc _).alloc _).alloc _)).gr g5
 ·exact (m1.gr (((Gr.refl _).alloc _).alloc _)).gr g5
 ·exact (m2.gr ((Gr.refl _).alloc _)).gr g5
 ·exact m3.gr g5
theorem z9B (k mk mi mo mf:Nat) (H:HS) (x:Int) (w:World) (h:HR w k mk mi mo mf H) :
  Calls Tryz.prog 81 #[.pointer (some ⟨k,0,none⟩),.int .i64 x] w (fun en w'=>en=.returned (.tuple #[])∧HR w' k mk mi mo mf { H with kinds:=rm H.kinds x,ids:=rm H.ids x }∧Mod (fun b=>b=mk∨b=mi) w w'):=by
 obtain ⟨a0,a1,a2,a3,a4,a5,a6,a7,a8⟩:=z2k h.cell
 have hkl:=block_lt h.cell
 have hH:=hid h
 have o1:=h.o1
 have o2:=h.o2
 have o3:=h.o3
 have o4:=h.o4
 obtain ⟨w1,hd1,hm1,md1⟩:=h.kk.delete (P:=Tryz.prog) Tryz.underlying65 Tryz.underlying3 x 0 3
 have i1:=h.ii.keep (md1.block mi h.ii.lt (by omega))
 obtain ⟨w2,hd2,hm2,md2⟩:=i1.delete (P:=Tryz.prog) Tryz.underlying65 Tryz.underlying3 x 0 3
 have c1:=(md1.block k (block_lt h.cell) (by omega)).trans h.cell
 obtain ⟨b0,b1,b2,b3,b4,b5,b6,b7,b8⟩:=z2k c1
 have hk1:=block_lt c1
 have MD1:=hid md1
 have MD2:=hid md2
 have HM1:=hid hm1
 have HM2:=hid hm2
 clear h i1 hm1 hm2 md1 md2 o1 o2 o3 o4 c1
 go_enter Tryz.func81,Tryz.ntmps81
 go_wp2_with fail
 refine bodyPost_end (v:=.tuple #[]) (by simp [results,Tryz.results81,go_sem]) rfl ⟨rfl,?_,?_⟩
 ·obtain ⟨hc,hkk,hii,hoo,hff,o1,o2,o3,o4⟩:=hH.o
  have e1:=HM1.o
  have e2:=HM2.o
  rw [z4Z] at e1 e2
  have n1:=MD1.o.size
  exact ⟨(MD2.o.block k (Nat.lt_of_lt_of_le (block_lt hc) n1) (by omega)).trans ((MD1.o.block k (block_lt hc) (by omega)).trans hc),e1.keep (MD2.o.block mk e1.lt (by omega)),e2,
   (hoo.keep (MD1.o.block mo hoo.lt (by omega))).keep (MD2.o.block mo (Nat.lt_of_lt_of_le hoo.lt n1) (by omega)),(hff.keep (MD1.o.block mf hff.lt (by omega))).keep (MD2.o.block mf (Nat.lt_of_lt_of_le hff.lt n1) (by omega)),o1,o2,o3,o4⟩
 ·exact (MD1.o.mono fun b _ e=>.inl e).trans (MD2.o.mono fun b _ e=>.inr e) (fun _ _ e=>e)
end Go.Proofs.YtniknicnnaiilaaGreat
end
