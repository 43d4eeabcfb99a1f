/- Lemmas of the engine. -/
import Derived.Test.YtniknicnnaiilaaGreatX08
import Derived.Test.YtniknicnnaiilaaGreatX09
import Derived.Test.YtniknicnnaiilaaGreatX17
section
namespace Go.Proofs.YtniknicnnaiilaaGreat
set_option maxRecDepth 100000
open Go.RowKit Go.Ext Go.BigFrame Go.Maps Go.MapKept
attribute [local go_sem] Ext.cell Ext.frozen Ext.lt Ext.le s1 s2 s3 s4 s5 s6 t1 t2 t3 t4 t5 t6
attribute [local go_sem ↓] Go.wp_at_zero Go.wp_at_succ
theorem z5Q {F:FS} {d:Dec} {now:Int} (hl:F.l≠[]) (hm:mayF d=true) (ht:takeB (isOf F.op) d=true) (hk:d.kind=1∨d.kind=2∨d.kind=4):z3p F ⟨z2t d.kind,now,0,d.id,d.list,d.n,d.data⟩:=by
 obtain ⟨h1,h2,h3,h4,h5,hid0⟩:=z0L hm
 have hkd:z2t d.kind=7∨z2t d.kind=12∨z2t d.kind=17:=by
  rcases hk with e | e | e<;>rw [e]<;>simp [z2t]
 have hn:=h4 (by omega)
 have hnew:∀ x∈F.op,x.2.kind=z2t d.kind→x.2.id=d.id→False:=fun x hx e1 e2=>by
  have:takeB (isOf F.op) d = !isOf F.op (z2t d.kind,d.id):=by
   unfold takeB
   rw [if_neg (by omega),if_pos hk]
  rw [this,z2d.2 ⟨x,hx,e1,e2⟩] at ht
  cases ht
 refine ⟨by dsimp only;omega,h3,fun e=>absurd e hl,?_,?_,fun _=>hnew,?_,fun _=>hid0⟩
 ·intro e;dsimp only at e;omega
 ·intro e;dsimp only at e;omega
 ·intro e;dsimp only at e;omega
set_option maxHeartbeats 4000000 in
theorem zg5 (PUT:z0e) (k mb:Nat) (F:FS) (d:Dec) (now:Int) (v:Value) (M:Bl) (w:World) (h:FW w M k mb F) (hlF:F.l.length≤90000) (hne:F.l≠[]) (hm:mayF d=true) (ht:takeB (isOf F.op) d=true) (hk:d.kind=1) (hd:Bys w v d.data) (hnow:0≤now∧now≤1099511627776) :
  Calls Tryz.prog 151 #[.pointer (some ⟨k,0,none⟩),.agg #[.int .i64 d.kind,.int .i64 d.id,.int .i64 d.list,.int .i64 d.n,v],.int .i64 now] w (RetO M k mb (z0d F d now) w):=by
 have HPO:=hid (z5Q (now:=now) hne hm ht (by omega))
 have hsp:=z0L hm
 have hnn:=hsp.2.2.2.1 (by omega)
 have H:=hid h
 have HR:=hid h.r
 have HD:=hid hd
 obtain ⟨Ad,cd,rfl,_,_,_⟩:=hd
 have HC:=hid (fun W (g:Gr w W)=>z0I (.slice Ad d.data.length cd) d.data W (HD.o.gr g))
 have hDF:z0d F d now=(putF F ⟨7,now,0,d.id,d.list,d.n,d.data⟩,[⟨2,d.list,atF F,0,0,0,0,[]⟩]):=by
  unfold z0d
  rw [if_pos hk]
 rw [hDF]
 rcases d with ⟨dk,di,dl,dn,dd⟩
 simp only at hk hnn
 subst hk
 simp only [z2t] at HPO
 have hkm:k<w.heap.size∧mb<w.heap.size:=h.r.lt
 clear h hsp hm ht hDF
 simp only at HC ⊢
 have kw:IntKind.i64.wrap (now+dn)=now+dn:=IntWalk.i64_in _ (by omega)
 go_enter Tryz.func151,Tryz.ntmps151
 go_upto_region 6 with (go_at_call 91;refine (HC.o _ ((Gr.refl w).alloc _)).mono ?_;rintro en1 _ ⟨A',c',y1,rfl,rfl,hbl,ho1⟩;have HO1:=hid ho1;have HBL:=hid hbl;clear ho1 hbl)
 have G1:=hid (((Gr.refl w).alloc (.cells #[.int .i64 1,.int .i64 di,.int .i64 dl,.int .i64 dn,.slice Ad dd.length cd] 39)).ext y1)
 have hB0:y1.val.heap[w.heap.size]?=some (.cells #[.int .i64 1,.int .i64 di,.int .i64 dl,.int .i64 dn,.slice Ad dd.length cd] 39 (0,0)):=(y1.gr.block _ (by simp)).trans (heap_alloc_new w _)
 have hlt0:=y1.lt_alloc
 obtain ⟨w5,hw5⟩:∃ w5,y1.val.alloc (.cells #[.int .i64 7,.int .i64 now,.int .i64 0,.int .i64 di,.int .i64 dl,.int .i64 dn,.slice A' dd.length c'] 41)=w5:=⟨_,rfl⟩
 have G5:=hid (show Gr y1.val w5 from hw5▸(Gr.refl _).alloc _)
 have HBe:=hid (show w5.heap[y1.val.heap.size]?=some (.cells #[.int .i64 7,.int .i64 now,.int .i64 0,.int .i64 di,.int .i64 dl,.int .i64 dn,.slice A' dd.length c'] 41 (0,0)) from hw5▸heap_alloc_new y1.val _)
 have HBd:=hid ((G5.o.block _ (block_lt hB0)).trans hB0)
 have HO5:=hid (z3S HO1.o G5.o)
 obtain ⟨Be,hBe⟩:∃ Be,y1.val.heap.size=Be:=⟨_,rfl⟩
 obtain ⟨Bd,hBd⟩:∃ Bd,w.heap.size=Bd:=⟨_,rfl⟩
 have hbds:w.heap.size≤Bd:=Nat.le_of_eq hBd
 have hbes:w.heap.size≤Be:=hBe▸Nat.le_of_lt hlt0
 rw [hw5]
 rw [hBe] at HBe
 rw [hBd] at HBd
 rw [hBe,hBd]
 have GG:=hid (G1.o.trans G5.o)
 have HD5:=hid (show Bys w5 (.slice A' dd.length c') dd from Bys.of_own HO5.o HBL.o)
 have HDM:=hid (show BysM w5 M (.slice A' dd.length c') dd from BysM.of_own HO5.o (fun b hb e=>by have:=H.o.hM b e;simp at hb;omega) HBL.o)
 clear hw5 hB0 HO1 HC hBe hBd
 obtain ⟨b1,b2,b3⟩:w5.cell? ⟨Bd,1,none⟩=some (.int .i64 di)∧w5.cell? ⟨Bd,2,none⟩=some (.int .i64 dl)∧w5.cell? ⟨Bd,3,none⟩=some (.int .i64 dn):=by
  refine ⟨?_,?_,?_⟩<;>simp [World.cell?,HBd.o]
 obtain ⟨d0,d1,d2,d3,d4,d5,d6⟩:w5.cell? ⟨Be,0,none⟩=some (.int .i64 7)∧w5.cell? ⟨Be,1,none⟩=some (.int .i64 now)∧w5.cell? ⟨Be,2,none⟩=some (.int .i64 0)∧w5.cell? ⟨Be,3,none⟩=some (.int .i64 di)∧w5.cell? ⟨Be,4,none⟩=some (.int .i64 dl)∧w5.cell? ⟨Be,5,none⟩=some (.int .i64 dn)∧w5.cell? ⟨Be,6,none⟩=some (.slice A' dd.length c'):=by
  refine ⟨?_,?_,?_,?_,?_,?_,?_⟩<;>simp [World.cell?,HBe.o]
 have HP:=hid (fun (W:World) (g:Gr w5 W)=>(show Calls Tryz.prog 143 #[.pointer (some ⟨k,0,none⟩),.agg #[.int .i64 7,.int .i64 now,.int .i64 0,.int .i64 di,.int .i64 dl,.int .i64 dn,.slice A' dd.length c']] W _ from
  fput PUT ⟨7,now,0,di,dl,dn,dd⟩ (.slice A' dd.length c') (H.o.gr (GG.o.trans g)) (HD5.o.gr g) HPO.o hlF (by dsimp only;omega) (by dsimp only;omega)))
 generalize dd.length=dlen at *
 refine z01 [(0,false),(1,false),(2,false),(3,false),(4,true),(5,false),(6,true),(7,true)] (fun W=>W.heap[Bd]?=w5.heap[Bd]?∧W.heap[Be]?=w5.heap[Be]?) (by kernel_rfl) (by kernel_rfl) (fun _ _ d _ _ h=>by cases d<;>exact h) ⟨rfl,rfl⟩ (fun _=>?_)
 iterate 4 (refine z03 (v:=?_) rfl (by rfl) ?_ ?_;rotate_left;(focus (intro W9 hW9;have u0:=(World.cell?_of_block (a:=⟨Bd,1,none⟩) hW9.1).trans b1;have u1:=(World.cell?_of_block (a:=⟨Bd,2,none⟩) hW9.1).trans b2;have u2:=(World.cell?_of_block (a:=⟨Bd,3,none⟩) hW9.1).trans b3;have v0:=(World.cell?_of_block (a:=⟨Be,0,none⟩) hW9.2).trans d0;have v1:=(World.cell?_of_block (a:=⟨Be,1,none⟩) hW9.2).trans d1;have v2:=(World.cell?_of_block (a:=⟨Be,2,none⟩) hW9.2).trans d2;have v3:=(World.cell?_of_block (a:=⟨Be,3,none⟩) hW9.2).trans d3;have v4:=(World.cell?_of_block (a:=⟨Be,4,none⟩) hW9.2).trans d4;have v5:=(World.cell?_of_block (a:=⟨Be,5,none⟩) hW9.2).trans d5;have v6:=(World.cell?_of_block (a:=⟨Be,6,none⟩) hW9.2).trans d6;clear hW9;go_simp;(try with_reducible rfl);done));(try simp only [AP]))
 refine z05 rfl (by rfl) (fun K hK=>?_)
 go_simp
 go_at_call 143
 refine (HP.o _ (Gr.refl w5).drew).mono ?_
 rintro en w6 ⟨rfl,hw6,hm6⟩
 have HW6:=hid hw6
 have M6:=hid ((GG.o.drew.mod (fun b=>b=k∨b=mb)).trans hm6 (fun _ _ e=>e))
 have M56:=hid hm6
 have hs6:=And.intro (hm6.block Bd (block_lt HBd.o) (by show ¬ (Bd=k∨Bd=mb);omega)) (hm6.block Be (block_lt HBe.o) (by show ¬ (Be=k∨Be=mb);omega))
 refine hK.o (fun W=>W.heap[Bd]?=w5.heap[Bd]?∧W.heap[Be]?=w5.heap[Be]?) _ _ hs6 (fun W h=>h) (fun _=>?_)
 clear hK K hw6 hm6
 (try simp only [AP])
 iterate 1 (refine z03 (v:=?_) rfl (by rfl) ?_ ?_;rotate_left;(focus (intro W9 hW9;clear hW9;go_simp;(try with_reducible rfl);done));(try simp only [AP]))
 refine z05 rfl (by rfl) (fun K hK=>?_)
 go_simp
 have ga:=hid ((Gr.refl w6).alloc (.cells (recC (outR ⟨2,dl,atF F,0,0,0,0,[]⟩) (.slice none 0 0)).toArray 188))
 refine hK.o (fun W=>W.heap[Bd]?=w5.heap[Bd]?∧W.heap[Be]?=w5.heap[Be]?) _ _ ⟨(ga.o.block Bd (block_lt (hs6.1.trans HBd.o))).trans hs6.1,(ga.o.block Be (block_lt (hs6.2.trans HBe.o))).trans hs6.2⟩ (fun W h=>h) (fun _=>?_)
 clear hK K
 (try simp only [AP])
 refine z06 rfl (by rfl) (fun K hK=>?_)
 go_simp
 refine hK.o _ _ ?_
 clear hK K
 go_wp2_with fail
 go_ret
 refine ⟨some ⟨w6.heap.size,0,none⟩,1,rfl,(HW6.o.gr ga.o).r,z3y (d:=(.slice none 0 0)) (heap_alloc_new w6 _) (fun e=>by have:=HW6.o.hM _ e;omega) ?_,M6.o.gr ga.o⟩
 exact BysM.none _ _
set_option maxHeartbeats 4000000 in
theorem zg6 (PUT:z0e) (k mb:Nat) (F:FS) (d:Dec) (now:Int) (v:Value) (M:Bl) (w:World) (h:FW w M k mb F) (hlF:F.l.length≤90000) (hne:F.l≠[]) (hm:mayF d=true) (ht:takeB (isOf F.op) d=true) (hk:d.kind=2) (hd:Bys w v d.data) (hnow:0≤now∧now≤1099511627776) :
  Calls Tryz.prog 151 #[.pointer (some ⟨k,0,none⟩),.agg #[.int .i64 d.kind,.int .i64 d.id,.int .i64 d.list,.int .i64 d.n,v],.int .i64 now] w (RetO M k mb (z0d F d now) w):=by
 have HPO:=hid (z5Q (now:=now) hne hm ht (by omega))
 have hsp:=z0L hm
 have hnn:=hsp.2.2.2.1 (by omega)
 have H:=hid h
 have HR:=hid h.r
 have HD:=hid hd
 obtain ⟨Ad,cd,rfl,_,_,_⟩:=hd
 have HC:=hid (fun W (g:Gr w W)=>z0I (.slice Ad d.data.length cd) d.data W (HD.o.gr g))
 have hDF:z0d F d now=(putF F ⟨12,now,0,d.id,d.list,d.n,d.data⟩,[⟨5,0,atF F,0,now+d.n,0,0,[]⟩]):=by
  unfold z0d
  rw [if_neg (by omega),if_pos hk]
 rw [hDF]
 rcases d with ⟨dk,di,dl,dn,dd⟩
 simp only at hk hnn
 subst hk
 simp only [z2t] at HPO
 have hkm:k<w.heap.size∧mb<w.heap.size:=h.r.lt
 clear h hsp hm ht hDF
 simp only at HC ⊢
 have kw:IntKind.i64.wrap (now+dn)=now+dn:=IntWalk.i64_in _ (by omega)
 go_enter Tryz.func151,Tryz.ntmps151
 go_upto_region 9 with (go_at_call 91;refine (HC.o _ ((Gr.refl w).alloc _)).mono ?_;rintro en1 _ ⟨A',c',y1,rfl,rfl,hbl,ho1⟩;have HO1:=hid ho1;have HBL:=hid hbl;clear ho1 hbl)
 have G1:=hid (((Gr.refl w).alloc (.cells #[.int .i64 2,.int .i64 di,.int .i64 dl,.int .i64 dn,.slice Ad dd.length cd] 39)).ext y1)
 have hB0:y1.val.heap[w.heap.size]?=some (.cells #[.int .i64 2,.int .i64 di,.int .i64 dl,.int .i64 dn,.slice Ad dd.length cd] 39 (0,0)):=(y1.gr.block _ (by simp)).trans (heap_alloc_new w _)
 have hlt0:=y1.lt_alloc
 obtain ⟨w5,hw5⟩:∃ w5,y1.val.alloc (.cells #[.int .i64 12,.int .i64 now,.int .i64 0,.int .i64 di,.int .i64 dl,.int .i64 dn,.slice A' dd.length c'] 41)=w5:=⟨_,rfl⟩
 have G5:=hid (show Gr y1.val w5 from hw5▸(Gr.refl _).alloc _)
 have HBe:=hid (show w5.heap[y1.val.heap.size]?=some (.cells #[.int .i64 12,.int .i64 now,.int .i64 0,.int .i64 di,.int .i64 dl,.int .i64 dn,.slice A' dd.length c'] 41 (0,0)) from hw5▸heap_alloc_new y1.val _)
 have HBd:=hid ((G5.o.block _ (block_lt hB0)).trans hB0)
 have HO5:=hid (z3S HO1.o G5.o)
 obtain ⟨Be,hBe⟩:∃ Be,y1.val.heap.size=Be:=⟨_,rfl⟩
 obtain ⟨Bd,hBd⟩:∃ Bd,w.heap.size=Bd:=⟨_,rfl⟩
 have hbds:w.heap.size≤Bd:=Nat.le_of_eq hBd
 have hbes:w.heap.size≤Be:=hBe▸Nat.le_of_lt hlt0
 rw [hw5]
 rw [hBe] at HBe
 rw [hBd] at HBd
 rw [hBe,hBd]
 have GG:=hid (G1.o.trans G5.o)
 have HD5:=hid (show Bys w5 (.slice A' dd.length c') dd from Bys.of_own HO5.o HBL.o)
 have HDM:=hid (show BysM w5 M (.slice A' dd.length c') dd from BysM.of_own HO5.o (fun b hb e=>by have:=H.o.hM b e;simp at hb;omega) HBL.o)
 clear hw5 hB0 HO1 HC hBe hBd
 obtain ⟨b1,b2,b3⟩:w5.cell? ⟨Bd,1,none⟩=some (.int .i64 di)∧w5.cell? ⟨Bd,2,none⟩=some (.int .i64 dl)∧w5.cell? ⟨Bd,3,none⟩=some (.int .i64 dn):=by
  refine ⟨?_,?_,?_⟩<;>simp [World.cell?,HBd.o]
 obtain ⟨d0,d1,d2,d3,d4,d5,d6⟩:w5.cell? ⟨Be,0,none⟩=some (.int .i64 12)∧w5.cell? ⟨Be,1,none⟩=some (.int .i64 now)∧w5.cell? ⟨Be,2,none⟩=some (.int .i64 0)∧w5.cell? ⟨Be,3,none⟩=some (.int .i64 di)∧w5.cell? ⟨Be,4,none⟩=some (.int .i64 dl)∧w5.cell? ⟨Be,5,none⟩=some (.int .i64 dn)∧w5.cell? ⟨Be,6,none⟩=some (.slice A' dd.length c'):=by
  refine ⟨?_,?_,?_,?_,?_,?_,?_⟩<;>simp [World.cell?,HBe.o]
 have HP:=hid (fun (W:World) (g:Gr w5 W)=>(show Calls Tryz.prog 143 #[.pointer (some ⟨k,0,none⟩),.agg #[.int .i64 12,.int .i64 now,.int .i64 0,.int .i64 di,.int .i64 dl,.int .i64 dn,.slice A' dd.length c']] W _ from
  fput PUT ⟨12,now,0,di,dl,dn,dd⟩ (.slice A' dd.length c') (H.o.gr (GG.o.trans g)) (HD5.o.gr g) HPO.o hlF (by dsimp only;omega) (by dsimp only;omega)))
 generalize dd.length=dlen at *
 refine z01 [(0,false),(1,false),(3,false),(4,false),(5,false),(6,false),(2,true),(7,false),(8,true),(9,true)] (fun W=>W.heap[Bd]?=w5.heap[Bd]?∧W.heap[Be]?=w5.heap[Be]?) (by kernel_rfl) (by kernel_rfl) (fun _ _ d _ _ h=>by cases d<;>exact h) ⟨rfl,rfl⟩ (fun _=>?_)
 iterate 6 (refine z03 (v:=?_) rfl (by rfl) ?_ ?_;rotate_left;(focus (intro W9 hW9;have u0:=(World.cell?_of_block (a:=⟨Bd,1,none⟩) hW9.1).trans b1;have u1:=(World.cell?_of_block (a:=⟨Bd,2,none⟩) hW9.1).trans b2;have u2:=(World.cell?_of_block (a:=⟨Bd,3,none⟩) hW9.1).trans b3;have v0:=(World.cell?_of_block (a:=⟨Be,0,none⟩) hW9.2).trans d0;have v1:=(World.cell?_of_block (a:=⟨Be,1,none⟩) hW9.2).trans d1;have v2:=(World.cell?_of_block (a:=⟨Be,2,none⟩) hW9.2).trans d2;have v3:=(World.cell?_of_block (a:=⟨Be,3,none⟩) hW9.2).trans d3;have v4:=(World.cell?_of_block (a:=⟨Be,4,none⟩) hW9.2).trans d4;have v5:=(World.cell?_of_block (a:=⟨Be,5,none⟩) hW9.2).trans d5;have v6:=(World.cell?_of_block (a:=⟨Be,6,none⟩) hW9.2).trans d6;clear hW9;go_simp;(try with_reducible rfl);done));(try simp only [AP]))
 refine z05 rfl (by rfl) (fun K hK=>?_)
 go_simp
 go_at_call 143
 refine (HP.o _ (Gr.refl w5).drew).mono ?_
 rintro en w6 ⟨rfl,hw6,hm6⟩
 have HW6:=hid hw6
 have M6:=hid ((GG.o.drew.mod (fun b=>b=k∨b=mb)).trans hm6 (fun _ _ e=>e))
 have M56:=hid hm6
 have hs6:=And.intro (hm6.block Bd (block_lt HBd.o) (by show ¬ (Bd=k∨Bd=mb);omega)) (hm6.block Be (block_lt HBe.o) (by show ¬ (Be=k∨Be=mb);omega))
 refine hK.o (fun W=>W.heap[Bd]?=w5.heap[Bd]?∧W.heap[Be]?=w5.heap[Be]?) _ _ hs6 (fun W h=>h) (fun _=>?_)
 clear hK K hw6 hm6
 (try simp only [AP])
 iterate 1 (refine z03 (v:=?_) rfl (by rfl) ?_ ?_;rotate_left;(focus (intro W9 hW9;clear hW9;go_simp;(try with_reducible rfl);done));(try simp only [AP]))
 refine z05 rfl (by rfl) (fun K hK=>?_)
 go_simp
 have ga:=hid ((Gr.refl w6).alloc (.cells (recC (outR ⟨5,0,atF F,0,now+dn,0,0,[]⟩) (.slice none 0 0)).toArray 188))
 refine hK.o (fun W=>W.heap[Bd]?=w5.heap[Bd]?∧W.heap[Be]?=w5.heap[Be]?) _ _ ⟨(ga.o.block Bd (block_lt (hs6.1.trans HBd.o))).trans hs6.1,(ga.o.block Be (block_lt (hs6.2.trans HBe.o))).trans hs6.2⟩ (fun W h=>h) (fun _=>?_)
 clear hK K
 (try simp only [AP])
 refine z06 rfl (by rfl) (fun K hK=>?_)
 go_simp
 refine hK.o _ _ ?_
 clear hK K
 go_wp2_with fail
 go_ret
 refine ⟨some ⟨w6.heap.size,0,none⟩,1,rfl,(HW6.o.gr ga.o).r,z3y (d:=(.slice none 0 0)) (heap_alloc_new w6 _) (fun e=>by have:=HW6.o.hM _ e;omega) ?_,M6.o.gr ga.o⟩
 exact BysM.none _ _
set_option maxHeartbeats 4000000 in
theorem zg8 (PUT:z0e) (k mb:Nat) (F:FS) (d:Dec) (now:Int) (v:Value) (M:Bl) (w:World) (h:FW w M k mb F) (hlF:F.l.length≤90000) (hne:F.l≠[]) (hm:mayF d=true) (ht:takeB (isOf F.op) d=true) (hk:d.kind=4) (hd:Bys w v d.data) (hnow:0≤now∧now≤1099511627776) :
  Calls Tryz.prog 151 #[.pointer (some ⟨k,0,none⟩),.agg #[.int .i64 d.kind,.int .i64 d.id,.int .i64 d.list,.int .i64 d.n,v],.int .i64 now] w (RetO M k mb (z0d F d now) w):=by
 have HPO:=hid (z5Q (now:=now) hne hm ht (by omega))
 have hsp:=z0L hm
 have hnn:=hsp.2.2.2.1 (by omega)
 have H:=hid h
 have HR:=hid h.r
 have HD:=hid hd
 obtain ⟨Ad,cd,rfl,_,_,_⟩:=hd
 have HC:=hid (fun W (g:Gr w W)=>z0I (.slice Ad d.data.length cd) d.data W (HD.o.gr g))
 have hDF:z0d F d now=(putF F ⟨17,now,0,d.id,d.list,d.n,d.data⟩,[⟨6,d.list,atF F,0,0,d.id,d.n,d.data⟩]):=by
  unfold z0d
  rw [if_neg (by omega),if_neg (by omega),if_pos hk]
 rw [hDF]
 rcases d with ⟨dk,di,dl,dn,dd⟩
 simp only at hk hnn
 subst hk
 simp only [z2t] at HPO
 have hkm:k<w.heap.size∧mb<w.heap.size:=h.r.lt
 clear h hsp hm ht hDF
 simp only at HC ⊢
 have kw:IntKind.i64.wrap (now+dn)=now+dn:=IntWalk.i64_in _ (by omega)
 go_enter Tryz.func151,Tryz.ntmps151
 go_upto_region 12 with (go_at_call 91;refine (HC.o _ ((Gr.refl w).alloc _)).mono ?_;rintro en1 _ ⟨A',c',y1,rfl,rfl,hbl,ho1⟩;have HO1:=hid ho1;have HBL:=hid hbl;clear ho1 hbl)
 have G1:=hid (((Gr.refl w).alloc (.cells #[.int .i64 4,.int .i64 di,.int .i64 dl,.int .i64 dn,.slice Ad dd.length cd] 39)).ext y1)
 have hB0:y1.val.heap[w.heap.size]?=some (.cells #[.int .i64 4,.int .i64 di,.int .i64 dl,.int .i64 dn,.slice Ad dd.length cd] 39 (0,0)):=(y1.gr.block _ (by simp)).trans (heap_alloc_new w _)
 have hlt0:=y1.lt_alloc
 obtain ⟨w5,hw5⟩:∃ w5,y1.val.alloc (.cells #[.int .i64 17,.int .i64 now,.int .i64 0,.int .i64 di,.int .i64 dl,.int .i64 dn,.slice A' dd.length c'] 41)=w5:=⟨_,rfl⟩
 have G5:=hid (show Gr y1.val w5 from hw5▸(Gr.refl _).alloc _)
 have HBe:=hid (show w5.heap[y1.val.heap.size]?=some (.cells #[.int .i64 17,.int .i64 now,.int .i64 0,.int .i64 di,.int .i64 dl,.int .i64 dn,.slice A' dd.length c'] 41 (0,0)) from hw5▸heap_alloc_new y1.val _)
 have HBd:=hid ((G5.o.block _ (block_lt hB0)).trans hB0)
 have HO5:=hid (z3S HO1.o G5.o)
 obtain ⟨Be,hBe⟩:∃ Be,y1.val.heap.size=Be:=⟨_,rfl⟩
 obtain ⟨Bd,hBd⟩:∃ Bd,w.heap.size=Bd:=⟨_,rfl⟩
 have hbds:w.heap.size≤Bd:=Nat.le_of_eq hBd
 have hbes:w.heap.size≤Be:=hBe▸Nat.le_of_lt hlt0
 rw [hw5]
 rw [hBe] at HBe
 rw [hBd] at HBd
 rw [hBe,hBd]
 have GG:=hid (G1.o.trans G5.o)
 have HD5:=hid (show Bys w5 (.slice A' dd.length c') dd from Bys.of_own HO5.o HBL.o)
 have HDM:=hid (show BysM w5 M (.slice A' dd.length c') dd from BysM.of_own HO5.o (fun b hb e=>by have:=H.o.hM b e;simp at hb;omega) HBL.o)
 clear hw5 hB0 HO1 HC hBe hBd
 obtain ⟨b1,b2,b3⟩:w5.cell? ⟨Bd,1,none⟩=some (.int .i64 di)∧w5.cell? ⟨Bd,2,none⟩=some (.int .i64 dl)∧w5.cell? ⟨Bd,3,none⟩=some (.int .i64 dn):=by
  refine ⟨?_,?_,?_⟩<;>simp [World.cell?,HBd.o]
 obtain ⟨d0,d1,d2,d3,d4,d5,d6⟩:w5.cell? ⟨Be,0,none⟩=some (.int .i64 17)∧w5.cell? ⟨Be,1,none⟩=some (.int .i64 now)∧w5.cell? ⟨Be,2,none⟩=some (.int .i64 0)∧w5.cell? ⟨Be,3,none⟩=some (.int .i64 di)∧w5.cell? ⟨Be,4,none⟩=some (.int .i64 dl)∧w5.cell? ⟨Be,5,none⟩=some (.int .i64 dn)∧w5.cell? ⟨Be,6,none⟩=some (.slice A' dd.length c'):=by
  refine ⟨?_,?_,?_,?_,?_,?_,?_⟩<;>simp [World.cell?,HBe.o]
 have HP:=hid (fun (W:World) (g:Gr w5 W)=>(show Calls Tryz.prog 143 #[.pointer (some ⟨k,0,none⟩),.agg #[.int .i64 17,.int .i64 now,.int .i64 0,.int .i64 di,.int .i64 dl,.int .i64 dn,.slice A' dd.length c']] W _ from
  fput PUT ⟨17,now,0,di,dl,dn,dd⟩ (.slice A' dd.length c') (H.o.gr (GG.o.trans g)) (HD5.o.gr g) HPO.o hlF (by dsimp only;omega) (by dsimp only;omega)))
 generalize dd.length=dlen at *
 refine z01 [(0,false),(1,false),(2,false),(3,false),(4,false),(5,false),(6,false),(7,false),(8,false),(9,true),(10,false),(11,true),(12,true)] (fun W=>W.heap[Bd]?=w5.heap[Bd]?∧W.heap[Be]?=w5.heap[Be]?) (by kernel_rfl) (by kernel_rfl) (fun _ _ d _ _ h=>by cases d<;>exact h) ⟨rfl,rfl⟩ (fun _=>?_)
 iterate 9 (refine z03 (v:=?_) rfl (by rfl) ?_ ?_;rotate_left;(focus (intro W9 hW9;have u0:=(World.cell?_of_block (a:=⟨Bd,1,none⟩) hW9.1).trans b1;have u1:=(World.cell?_of_block (a:=⟨Bd,2,none⟩) hW9.1).trans b2;have u2:=(World.cell?_of_block (a:=⟨Bd,3,none⟩) hW9.1).trans b3;have v0:=(World.cell?_of_block (a:=⟨Be,0,none⟩) hW9.2).trans d0;have v1:=(World.cell?_of_block (a:=⟨Be,1,none⟩) hW9.2).trans d1;have v2:=(World.cell?_of_block (a:=⟨Be,2,none⟩) hW9.2).trans d2;have v3:=(World.cell?_of_block (a:=⟨Be,3,none⟩) hW9.2).trans d3;have v4:=(World.cell?_of_block (a:=⟨Be,4,none⟩) hW9.2).trans d4;have v5:=(World.cell?_of_block (a:=⟨Be,5,none⟩) hW9.2).trans d5;have v6:=(World.cell?_of_block (a:=⟨Be,6,none⟩) hW9.2).trans d6;clear hW9;go_simp;(try with_reducible rfl);done));(try simp only [AP]))
 refine z05 rfl (by rfl) (fun K hK=>?_)
 go_simp
 go_at_call 143
 refine (HP.o _ (Gr.refl w5).drew).mono ?_
 rintro en w6 ⟨rfl,hw6,hm6⟩
 have HW6:=hid hw6
 have M6:=hid ((GG.o.drew.mod (fun b=>b=k∨b=mb)).trans hm6 (fun _ _ e=>e))
 have M56:=hid hm6
 have hs6:=And.intro (hm6.block Bd (block_lt HBd.o) (by show ¬ (Bd=k∨Bd=mb);omega)) (hm6.block Be (block_lt HBe.o) (by show ¬ (Be=k∨Be=mb);omega))
 refine hK.o (fun W=>W.heap[Bd]?=w5.heap[Bd]?∧W.heap[Be]?=w5.heap[Be]?) _ _ hs6 (fun W h=>h) (fun _=>?_)
 clear hK K hw6 hm6
 (try simp only [AP])
 iterate 1 (refine z03 (v:=?_) rfl (by rfl) ?_ ?_;rotate_left;(focus (intro W9 hW9;clear hW9;go_simp;(try with_reducible rfl);done));(try simp only [AP]))
 refine z05 rfl (by rfl) (fun K hK=>?_)
 go_simp
 have ga:=hid ((Gr.refl w6).alloc (.cells (recC (outR ⟨6,dl,atF F,0,0,di,dn,dd⟩) (.slice A' dlen c')).toArray 188))
 refine hK.o (fun W=>W.heap[Bd]?=w5.heap[Bd]?∧W.heap[Be]?=w5.heap[Be]?) _ _ ⟨(ga.o.block Bd (block_lt (hs6.1.trans HBd.o))).trans hs6.1,(ga.o.block Be (block_lt (hs6.2.trans HBe.o))).trans hs6.2⟩ (fun W h=>h) (fun _=>?_)
 clear hK K
 (try simp only [AP])
 refine z06 rfl (by rfl) (fun K hK=>?_)
 go_simp
 refine hK.o _ _ ?_
 clear hK K
 go_wp2_with fail
 go_ret
 refine ⟨some ⟨w6.heap.size,0,none⟩,1,rfl,(HW6.o.gr ga.o).r,z3y (d:=(.slice A' dlen c')) (heap_alloc_new w6 _) (fun e=>by have:=HW6.o.hM _ e;omega) ?_,M6.o.gr ga.o⟩
 exact ((HDM.o.up (Gr.up (Gr.refl w5).drew M)).up (Mod.up M56.o (fun b _ e=>by rcases e with rfl | rfl;exact H.o.hk;exact H.o.hmb))).up (Gr.up ga.o M)
theorem zg1 {W:World} {B:Nat} {t:TypeId} {a b c d e f g:Value} (h:W.heap[B]?=some (.cells #[a,b,c,d,e,f,g] t (0,0))):W.cell? ⟨B,0,none⟩=some a∧W.cell? ⟨B,1,none⟩=some b∧W.cell? ⟨B,2,none⟩=some c∧W.cell? ⟨B,3,none⟩=some d∧W.cell? ⟨B,4,none⟩=some e∧W.cell? ⟨B,5,none⟩=some f∧W.cell? ⟨B,6,none⟩=some g:=by
 refine ⟨?_,?_,?_,?_,?_,?_,?_⟩<;>simp [World.cell?,h]
set_option maxHeartbeats 4000000 in
theorem zg7 (PUT:z0e) (k mb:Nat) (F:FS) (d:Dec) (now:Int) (v:Value) (M:Bl) (w:World) (h:FW w M k mb F) (hlF:F.l.length≤90000) (hne:F.l≠[]) (hm:mayF d=true) (hk:d.kind=3) (hd:Bys w v d.data) :
    Calls Tryz.prog 151 #[.pointer (some ⟨k,0,none⟩),.agg #[.int .i64 d.kind,.int .i64 d.id,.int .i64 d.list,.int .i64 d.n,v],.int .i64 now] w
      (fun e w'=>e=.returned (.slice none 0 0)∧FW w' M k mb (z0d F d now).1∧(z0d F d now).2=[]∧Mod (fun b=>b=k∨b=mb) w w'):=by
  have H:=hid h
  have HD:=hid hd
  obtain ⟨Ad,cd,rfl,_,_,_⟩:=hd
  have HC:=hid (fun W (g:Gr w W)=>z0I (.slice Ad d.data.length cd) d.data W (HD.o.gr g))
  have hsp:=z0L hm
  have hPO:z3p F ⟨14,now,z2r F.op 12 d.id,d.id,d.list,d.n,d.data⟩:=.plain hne (by unfold z0V;dsimp only;omega) (by dsimp only;have:=hsp.2.2.2.2.1 (by omega);omega) hsp.2.2.1
  have HPO:=hid hPO
  have HDF:=hid (show z0d F d now=(putF F ⟨14,now,z2r F.op 12 d.id,d.id,d.list,d.n,d.data⟩,[]) by
    unfold z0d
    rw [if_neg (by omega),if_neg (by omega),if_neg (by omega),if_pos hk])
  have HFI:=hid (fun (W:World) (g:Gr w W)=>z7R k mb F M 12 d.id W (h.r.gr g) h.i.uniq)
  have hnM:=h.hM
  have hkm:k<w.heap.size∧mb<w.heap.size:=h.r.lt
  rw [HDF.o]
  rcases d with ⟨dk,di,dl,dn,dd⟩
  simp only at hk
  subst hk
  clear h hsp hm hPO HDF
  simp only at HC HFI HPO ⊢
  obtain ⟨fi,hfi⟩:∃ fi,z2r F.op 12 di=fi:=⟨_,rfl⟩
  rw [hfi] at HFI HPO ⊢
  clear hfi
  have HP:=hid (fun (W:World) (g:Gr w W) (v':Value) (hv:Bys W v' dd)=>fput PUT ⟨14,now,fi,di,dl,dn,dd⟩ v' (H.o.gr g) hv HPO.o hlF (by dsimp only;omega) (by dsimp only;omega))
  simp only [evV] at HP
  generalize dd.length=dlen at *
  go_enter Tryz.func151,Tryz.ntmps151
  go_wp2_with (first
    | (go_at_call 91
       refine (HC.o _ ((Gr.refl w).alloc _)).mono ?_
       rintro en1 _ ⟨A',c',y1,rfl,rfl,hbl,ho1⟩
       have HO1:=hid ho1
       have HBL:=hid hbl
       have hB0:=(y1.gr.block w.heap.size (by simp)).trans (heap_alloc_new w _)
       have HB0:=hid hB0
       obtain ⟨q0,q1,q2,q3,q4⟩:=cells5 hB0
       have hlt0:=y1.lt_alloc
       have G1:=hid (((Gr.refl w).alloc _).ext y1)
       clear ho1 hbl hB0)
    | (go_at_call 187
       refine (HFI.o _ (G1.o.alloc _)).mono ?_
       rintro en1 _ ⟨rfl,y2,rfl⟩
       have HE2:=hid ((y2.gr.block _ (by simp)).trans (heap_alloc_new y1.val _))
       have hl2:=block_lt HE2.o
       have z0:=z00 (j:=0) HE2.o
       have z2:=z00 (j:=2) HE2.o
       obtain ⟨p0,p1,p2,p3,p4,p5,p6⟩:=zg1 HE2.o
       have G12:=hid (((Gr.refl y1.val).alloc _).ext y2))
    | (go_at_call 143
       have g3:Gr y1.val ((y2.val.setCell ⟨y1.val.heap.size,0,none⟩ (.int .i64 14)).setCell ⟨y1.val.heap.size,2,none⟩ (.int .i64 fi)):=(G12.o.set (p:=⟨y1.val.heap.size,0,none⟩) (Nat.le_refl _) _).set (p:=⟨y1.val.heap.size,2,none⟩) (Nat.le_refl _) _
       have G3:=hid (G1.o.trans g3)
       refine (HP.o _ G3.o _ (Bys.of_own (z3S HO1.o g3) HBL.o)).mono ?_
       rintro en w3 ⟨rfl,hw3,hm3⟩
       have HW3:=hid hw3
       have HM3:=hid ((G3.o.mod (fun b=>b=k∨b=mb)).trans hm3 (fun _ _ e=>e))
       clear hw3 hm3 g3))
  go_ret
  exact ⟨rfl,HW3.o,trivial,HM3.o⟩
set_option maxHeartbeats 4000000 in
theorem zg9 (PUT:z0e) (k mb:Nat) (F:FS) (d:Dec) (now:Int) (v:Value) (M:Bl) (w:World) (h:FW w M k mb F) (hk:d.kind=5) (hd:Bys w v d.data) :
    Calls Tryz.prog 151 #[.pointer (some ⟨k,0,none⟩),.agg #[.int .i64 d.kind,.int .i64 d.id,.int .i64 d.list,.int .i64 d.n,v],.int .i64 now] w (RetO M k mb (z0d F d now) w):=by
  have H:=hid h
  have HD:=hid hd
  obtain ⟨Ad,cd,rfl,_,_,_⟩:=hd
  have HC:=hid (fun W (g:Gr w W)=>z0I (.slice Ad d.data.length cd) d.data W (HD.o.gr g))
  have hDF:z0d F d now=z0J F 20 d.data now:=by
    unfold z0d
    rw [if_neg (by omega),if_neg (by omega),if_neg (by omega),if_neg (by omega),hk]
    rfl
  rw [hDF]
  rcases d with ⟨dk,di,dl,dn,dd⟩
  simp only at hk
  subst hk
  clear h hDF
  simp only at HC ⊢
  have HCL:=hid (fun (W:World) (g:Gr w W) (v':Value) (hv:BysM W M v' dd)=>z3J PUT k mb F 20 now v' dd M W (H.o.gr g) (by decide) hv)
  have HMM:=hid (show ∀ b,M b→b<w.heap.size from H.o.hM)
  generalize dd.length=dlen at *
  go_enter Tryz.func151,Tryz.ntmps151
  go_wp2_with (first
    | (go_at_call 91
       refine (HC.o _ ((Gr.refl w).alloc _)).mono ?_
       rintro en1 _ ⟨A',c',y1,rfl,rfl,hbl,ho1⟩
       have HO1:=hid ho1
       have HBL:=hid hbl
       have hB0:=(y1.gr.block w.heap.size (by simp)).trans (heap_alloc_new w _)
       obtain ⟨q0,q1,q2,q3,q4⟩:=cells5 hB0
       have hlt0:=y1.lt_alloc
       have G1:=hid (((Gr.refl w).alloc _).ext y1)
       clear ho1 hbl hB0)
    | (go_at_call 147
       go_loud ((refine (HCL.o _ ?_ _ ?_).mono ?_;exact (G1.o.alloc _).alloc _;exact (BysM.of_own HO1.o (fun b hb e=>by have:=HMM.o b e;simp at hb;omega) HBL.o).up (Gr.up (((Gr.refl _).alloc _).alloc _) M);rintro en w3 ⟨A3,c3,rfl,hr3,ho3,hm3⟩;have HR3:=hid hr3;have HO3:=hid ho3;have HM3:=hid ((((G1.o.alloc _).alloc _).mod (fun b=>b=k∨b=mb)).trans hm3 (fun _ _ e=>e));clear hr3 ho3 hm3))))
  go_ret
  exact ⟨A3,c3,rfl,HR3.o,HO3.o,HM3.o⟩
set_option maxHeartbeats 4000000 in
theorem zga (PUT:z0e) (k mb:Nat) (F:FS) (d:Dec) (now:Int) (v:Value) (M:Bl) (w:World) (h:FW w M k mb F) (hk:d.kind=6) (hd:Bys w v d.data) :
    Calls Tryz.prog 151 #[.pointer (some ⟨k,0,none⟩),.agg #[.int .i64 d.kind,.int .i64 d.id,.int .i64 d.list,.int .i64 d.n,v],.int .i64 now] w (RetO M k mb (z0d F d now) w):=by
  have H:=hid h
  have HD:=hid hd
  obtain ⟨Ad,cd,rfl,_,_,_⟩:=hd
  have HC:=hid (fun W (g:Gr w W)=>z0I (.slice Ad d.data.length cd) d.data W (HD.o.gr g))
  have hDF:z0d F d now=z0J F 21 d.data now:=by
    unfold z0d
    rw [if_neg (by omega),if_neg (by omega),if_neg (by omega),if_neg (by omega),hk]
    rfl
  rw [hDF]
  rcases d with ⟨dk,di,dl,dn,dd⟩
  simp only at hk
  subst hk
  clear h hDF
  simp only at HC ⊢
  have HCL:=hid (fun (W:World) (g:Gr w W) (v':Value) (hv:BysM W M v' dd)=>z3J PUT k mb F 21 now v' dd M W (H.o.gr g) (by decide) hv)
  have HMM:=hid (show ∀ b,M b→b<w.heap.size from H.o.hM)
  generalize dd.length=dlen at *
  go_enter Tryz.func151,Tryz.ntmps151
  go_wp2_with (first
    | (go_at_call 91
       refine (HC.o _ ((Gr.refl w).alloc _)).mono ?_
       rintro en1 _ ⟨A',c',y1,rfl,rfl,hbl,ho1⟩
       have HO1:=hid ho1
       have HBL:=hid hbl
       have hB0:=(y1.gr.block w.heap.size (by simp)).trans (heap_alloc_new w _)
       obtain ⟨q0,q1,q2,q3,q4⟩:=cells5 hB0
       have hlt0:=y1.lt_alloc
       have G1:=hid (((Gr.refl w).alloc _).ext y1)
       clear ho1 hbl hB0)
    | (go_at_call 147
       go_loud ((refine (HCL.o _ ?_ _ ?_).mono ?_;exact (G1.o.alloc _).alloc _;exact (BysM.of_own HO1.o (fun b hb e=>by have:=HMM.o b e;simp at hb;omega) HBL.o).up (Gr.up (((Gr.refl _).alloc _).alloc _) M);rintro en w3 ⟨A3,c3,rfl,hr3,ho3,hm3⟩;have HR3:=hid hr3;have HO3:=hid ho3;have HM3:=hid ((((G1.o.alloc _).alloc _).mod (fun b=>b=k∨b=mb)).trans hm3 (fun _ _ e=>e));clear hr3 ho3 hm3))))
  go_ret
  exact ⟨A3,c3,rfl,HR3.o,HO3.o,HM3.o⟩
set_option maxHeartbeats 4000000 in
theorem zgb (PUT:z0e) (k mb:Nat) (F:FS) (d:Dec) (now:Int) (v:Value) (M:Bl) (w:World) (h:FW w M k mb F) (hk:d.kind=7) (hd:Bys w v d.data) :
    Calls Tryz.prog 151 #[.pointer (some ⟨k,0,none⟩),.agg #[.int .i64 d.kind,.int .i64 d.id,.int .i64 d.list,.int .i64 d.n,v],.int .i64 now] w (RetO M k mb (z0d F d now) w):=by
  have H:=hid h
  have HD:=hid hd
  obtain ⟨Ad,cd,rfl,_,_,_⟩:=hd
  have HC:=hid (fun W (g:Gr w W)=>z0I (.slice Ad d.data.length cd) d.data W (HD.o.gr g))
  have hDF:z0d F d now=z0J F 22 d.data now:=by
    unfold z0d
    rw [if_neg (by omega),if_neg (by omega),if_neg (by omega),if_neg (by omega),hk]
    rfl
  rw [hDF]
  rcases d with ⟨dk,di,dl,dn,dd⟩
  simp only at hk
  subst hk
  clear h hDF
  simp only at HC ⊢
  have HCL:=hid (fun (W:World) (g:Gr w W) (v':Value) (hv:BysM W M v' dd)=>z3J PUT k mb F 22 now v' dd M W (H.o.gr g) (by decide) hv)
  have HMM:=hid (show ∀ b,M b→b<w.heap.size from H.o.hM)
  generalize dd.length=dlen at *
  go_enter Tryz.func151,Tryz.ntmps151
  go_wp2_with (first
    | (go_at_call 91
       refine (HC.o _ ((Gr.refl w).alloc _)).mono ?_
       rintro en1 _ ⟨A',c',y1,rfl,rfl,hbl,ho1⟩
       have HO1:=hid ho1
       have HBL:=hid hbl
       have hB0:=(y1.gr.block w.heap.size (by simp)).trans (heap_alloc_new w _)
       obtain ⟨q0,q1,q2,q3,q4⟩:=cells5 hB0
       have hlt0:=y1.lt_alloc
       have G1:=hid (((Gr.refl w).alloc _).ext y1)
       clear ho1 hbl hB0)
    | (go_at_call 147
       go_loud ((refine (HCL.o _ ?_ _ ?_).mono ?_;exact (G1.o.alloc _).alloc _;exact (BysM.of_own HO1.o (fun b hb e=>by have:=HMM.o b e;simp at hb;omega) HBL.o).up (Gr.up (((Gr.refl _).alloc _).alloc _) M);rintro en w3 ⟨A3,c3,rfl,hr3,ho3,hm3⟩;have HR3:=hid hr3;have HO3:=hid ho3;have HM3:=hid ((((G1.o.alloc _).alloc _).mod (fun b=>b=k∨b=mb)).trans hm3 (fun _ _ e=>e));clear hr3 ho3 hm3))))
  go_ret
  exact ⟨A3,c3,rfl,HR3.o,HO3.o,HM3.o⟩
set_option maxHeartbeats 4000000 in
theorem zgc (PUT:z0e) (k mb:Nat) (F:FS) (d:Dec) (now:Int) (v:Value) (M:Bl) (w:World) (h:FW w M k mb F) (hk:d.kind=8) (hd:Bys w v d.data) :
    Calls Tryz.prog 151 #[.pointer (some ⟨k,0,none⟩),.agg #[.int .i64 d.kind,.int .i64 d.id,.int .i64 d.list,.int .i64 d.n,v],.int .i64 now] w (RetO M k mb (z0d F d now) w):=by
  have H:=hid h
  have HD:=hid hd
  obtain ⟨Ad,cd,rfl,_,_,_⟩:=hd
  have HC:=hid (fun W (g:Gr w W)=>z0I (.slice Ad d.data.length cd) d.data W (HD.o.gr g))
  have hDF:z0d F d now=z0J F 19 d.data now:=by
    unfold z0d
    rw [if_neg (by omega),if_neg (by omega),if_neg (by omega),if_neg (by omega),hk]
    rfl
  rw [hDF]
  rcases d with ⟨dk,di,dl,dn,dd⟩
  simp only at hk
  subst hk
  clear h hDF
  simp only at HC ⊢
  have HCL:=hid (fun (W:World) (g:Gr w W) (v':Value) (hv:BysM W M v' dd)=>z3J PUT k mb F 19 now v' dd M W (H.o.gr g) (by decide) hv)
  have HMM:=hid (show ∀ b,M b→b<w.heap.size from H.o.hM)
  generalize dd.length=dlen at *
  go_enter Tryz.func151,Tryz.ntmps151
  go_wp2_with (first
    | (go_at_call 91
       refine (HC.o _ ((Gr.refl w).alloc _)).mono ?_
       rintro en1 _ ⟨A',c',y1,rfl,rfl,hbl,ho1⟩
       have HO1:=hid ho1
       have HBL:=hid hbl
       have hB0:=(y1.gr.block w.heap.size (by simp)).trans (heap_alloc_new w _)
       obtain ⟨q0,q1,q2,q3,q4⟩:=cells5 hB0
       have hlt0:=y1.lt_alloc
       have G1:=hid (((Gr.refl w).alloc _).ext y1)
       clear ho1 hbl hB0)
    | (go_at_call 147
       go_loud ((refine (HCL.o _ ?_ _ ?_).mono ?_;exact (G1.o.alloc _).alloc _;exact (BysM.of_own HO1.o (fun b hb e=>by have:=HMM.o b e;simp at hb;omega) HBL.o).up (Gr.up (((Gr.refl _).alloc _).alloc _) M);rintro en w3 ⟨A3,c3,rfl,hr3,ho3,hm3⟩;have HR3:=hid hr3;have HO3:=hid ho3;have HM3:=hid ((((G1.o.alloc _).alloc _).mod (fun b=>b=k∨b=mb)).trans hm3 (fun _ _ e=>e));clear hr3 ho3 hm3))))
  go_ret
  exact ⟨A3,c3,rfl,HR3.o,HO3.o,HM3.o⟩
theorem z6H {F:FS} {d:Dec} {r:List Dec} {now:Int} (h:FI F) (hb:badL F.id F.asked (isOf F.op) (d::r)=false) :
  mayF d=true∧takeB (isOf F.op) d=true∧(5≤d.kind→r=[])∧badL (z0d F d now).1.id (z0d F d now).1.asked (isOf (z0d F d now).1.op) r=false:=by
 simp only [badL,z2j,Bool.or_eq_false_iff,Bool.and_eq_false_iff,Bool.not_eq_false',decide_eq_false_iff_not] at hb
 obtain ⟨⟨⟨⟨⟨hm,h5⟩,ht⟩,_⟩,_⟩,hb⟩:=hb
 have hr:5≤d.kind→r=[]:=fun hk=>by
  rcases h5 with h5 | h5
  ·omega
  ·simpa using h5
 refine ⟨hm,ht,hr,?_⟩
 obtain ⟨e1,e2,e3,e4⟩:=z3r F d now
 by_cases hk:d.kind<5
 ·have hask:(z0d F d now).1.asked=F.asked:=by
   have hh:=(z0L hm).1
   have hkk:d.kind=1∨d.kind=2∨d.kind=3∨d.kind=4:=by omega
   rcases hkk with e | e | e | e<;>simp only [z0d,e]<;>rfl
  have his:isOf (z0d F d now).1.op=z37 (isOf F.op) d:=funext fun p=>z8J h hk ht (z0L hm).1 p
  rw [his,hask,e3]
  exact hb
 ·rw [hr (by omega)]
  rfl
def RetD (M:Bl) (k mb:Nat) (x:FS × List Out) (w:World) (e:Ending) (w':World):Prop :=
 FW w' M k mb x.1∧Mod (fun b=>b=k∨b=mb) w w'∧((x.2=[]∧e=.returned (.slice none 0 0))∨∃ o b off c dv,x.2=[o]∧e=.returned (.slice (some ⟨b,off,none⟩) 1 c)∧BysM w' M dv o.data∧RdM w' M (some ⟨b,off,none⟩) (recC (outR o) dv))
theorem RetO.retD {M:Bl} {k mb:Nat} {F F':FS} {o:Out} {w w':World} {e:Ending} (h:FW w M k mb F) (hi:FI F') (hl:F'.l.length≤100000) (hr:RetO M k mb (F',[o]) w e w'):RetD M k mb (F',[o]) w e w':=by
 obtain ⟨A,c,rfl,h1,h2,h3⟩:=hr
 refine ⟨h.same h1 h3 hi hl,h3,.inr ?_⟩
 obtain ⟨A',c',ds,e,hc,hd,hrd,hn⟩:=h2
 injection e with e1 e2 e3
 subst e1 e3
 rcases ds with _ | ⟨dv,ds⟩
 ·exact hd.elim
 obtain ⟨hb,hds⟩:=hd
 obtain ⟨b,off,rfl,hM,hcell⟩:=hrd (by simp [rowC,recC])
 refine ⟨o,b,off,c,dv,rfl,rfl,hb,fun _=>⟨b,off,rfl,hM,fun j u hu=>hcell j u ?_⟩⟩
 have hlt:=(List.getElem?_eq_some_iff.1 hu).1
 simp only [List.map_cons,rowC]
 rw [List.getElem?_append_left hlt]
 exact hu
theorem zdt (PUT:z0e) (k mb:Nat) (F:FS) (d:Dec) (now:Int) (v:Value) (M:Bl) (w:World) (h:FW w M k mb F) (hlF:F.l.length≤90000) (hne:F.l≠[]) (hm:mayF d=true) (ht:takeB (isOf F.op) d=true) (hd:Bys w v d.data) (hnow:0≤now∧now≤1099511627776) :
  Calls Tryz.prog 151 #[.pointer (some ⟨k,0,none⟩),.agg #[.int .i64 d.kind,.int .i64 d.id,.int .i64 d.list,.int .i64 d.n,v],.int .i64 now] w (RetD M k mb (z0d F d now) w):=by
 obtain ⟨h1,h8,_⟩:=z0L hm
 have hi:=h.i.done hne hm ht (now:=now)
 have hl:(z0d F d now).1.l.length≤100000:=by rw [(z3r F d now).1];omega
 have hc:d.kind=1∨d.kind=2∨d.kind=3∨d.kind=4∨d.kind=5∨d.kind=6∨d.kind=7∨d.kind=8:=by omega
 have one:∀ o,(z0d F d now).2=[o]→Calls Tryz.prog 151 #[.pointer (some ⟨k,0,none⟩),.agg #[.int .i64 d.kind,.int .i64 d.id,.int .i64 d.list,.int .i64 d.n,v],.int .i64 now] w (RetO M k mb (z0d F d now) w) →
   Calls Tryz.prog 151 #[.pointer (some ⟨k,0,none⟩),.agg #[.int .i64 d.kind,.int .i64 d.id,.int .i64 d.list,.int .i64 d.n,v],.int .i64 now] w (RetD M k mb (z0d F d now) w):=fun o ho hcall=>by
  obtain ⟨x,hx⟩:∃ x,z0d F d now=x:=⟨_,rfl⟩
  rw [hx] at hi hl ho hcall ⊢
  rcases x with ⟨F',os⟩
  simp only at hi hl ho
  subst ho
  exact hcall.mono fun _ _ hr=>RetO.retD h hi hl hr
 rcases hc with hk | hk | hk | hk | hk | hk | hk | hk
 ·exact one _ (by unfold z0d;rw [if_pos hk]) (zg5 PUT k mb F d now v M w h hlF hne hm ht hk hd hnow)
 ·exact one _ (by unfold z0d;rw [if_neg (by omega),if_pos hk]) (zg6 PUT k mb F d now v M w h hlF hne hm ht hk hd hnow)
 ·exact (zg7 PUT k mb F d now v M w h hlF hne hm hk hd).mono fun _ _ ⟨e1,e2,e3,e4⟩=>⟨e2,e4,.inl ⟨e3,e1⟩⟩
 ·exact one _ (by unfold z0d;rw [if_neg (by omega),if_neg (by omega),if_pos hk]) (zg8 PUT k mb F d now v M w h hlF hne hm ht hk hd hnow)
 ·exact one ⟨7,0,0,0,0,0,z1P 20,d.data⟩ (by unfold z0d;rw [if_neg (by omega),if_neg (by omega),if_neg (by omega),if_neg (by omega),hk];rfl) (zg9 PUT k mb F d now v M w h hk hd)
 ·exact one ⟨7,0,0,0,0,0,z1P 21,d.data⟩ (by unfold z0d;rw [if_neg (by omega),if_neg (by omega),if_neg (by omega),if_neg (by omega),hk];rfl) (zga PUT k mb F d now v M w h hk hd)
 ·exact one ⟨7,0,0,0,0,0,z1P 22,d.data⟩ (by unfold z0d;rw [if_neg (by omega),if_neg (by omega),if_neg (by omega),if_neg (by omega),hk];rfl) (zgb PUT k mb F d now v M w h hk hd)
 ·exact one ⟨8,0,0,0,0,0,0,d.data⟩ (by unfold z0d;rw [if_neg (by omega),if_neg (by omega),if_neg (by omega),if_neg (by omega),hk];rfl) (zgc PUT k mb F d now v M w h hk hd)
def ownB (M:Bl) (v:Value):Bl:=fun b=>M b∨v.ownBlock=some b
def z1T (w:World) (M:Bl) (B0:Nat) (v:Value) (xs:List Out):Prop:=∃ ds,DatM w (ownB M v) (xs.map outR) ds∧w.ownsRow B0 188 8 v xs.length (rowC (xs.map outR) ds)
theorem z7m {M M':Bl} (w:World) (h:∀ b,M b→M' b):Up M' w M w:=⟨(Gr.refl w).mod _,fun b _ e=>h b e⟩
theorem z1T.nil (w:World) (M:Bl) (B0:Nat):z1T w M B0 (.slice none 0 0) []:=⟨[],trivial,World.ownsRow_nil _ _ _ _⟩
theorem z1T.shape {w:World} {M:Bl} {B0:Nat} {v:Value} {xs:List Out} (h:z1T w M B0 v xs):∃ A c,v=.slice A xs.length c∧xs.length≤c∧(A=none→c=0):=by
 obtain ⟨ds,_,h⟩:=h
 exact z1c h
theorem z1T.recs {w:World} {M:Bl} {B0:Nat} {v:Value} {xs:List Out} (h:z1T w M B0 v xs) (hM:∀ b,M b→b<B0):z08 outR w M v xs:=by
 obtain ⟨ds,hd,ho⟩:=h
 have hd':=DatM.up (z7m w (fun b e=>.inl e)) hd
 rcases id ho.2 with ⟨rfl,h0⟩ | ⟨g,cap,cur,rfl,hb,hh,hc,_⟩
 ·have:xs=[]:=List.eq_nil_of_length_eq_zero h0
  subst this
  exact z08.none _ _ _
 ·refine ⟨some ⟨g,0,none⟩,cap,ds,rfl,hc,hd',Rd.m (Rd.of_own ho) ?_,fun e=>by cases e⟩
  rintro b off e _ hb2
  injection e with e
  injection e with e1
  subst e1
  have:=hM _ hb2
  omega
theorem z1T.mod {w w':World} {M S:Bl} {B0:Nat} {v:Value} {xs:List Out} (h:z1T w M B0 v xs) (m:Mod S w w') (hS:∀ b,S b→M b) (hv:∀ b,v.ownBlock=some b→¬ S b):z1T w' M B0 v xs:=by
 obtain ⟨ds,hd,ho⟩:=h
 exact ⟨ds,DatM.up (Mod.up m (fun b _ e=>.inl (hS b e))) hd,z2J ho m hv⟩
theorem z1T.app {w w':World} {M:Bl} {B0:Nat} {v v':Value} {xs:List Out} {o:Out} {dv:Value} {ds:List Value} (hd:DatM w (ownB M v) (xs.map outR) ds) (hb:BysM w (ownB M v) dv o.data) (ho:w'.ownsRow B0 188 8 v' (xs.length+1) (rowC (xs.map outR) ds++recC (outR o) dv))
  (u:Up (ownB M v) w (ownB M v') w'):z1T w' M B0 v' (xs++[o]):=by
 refine ⟨ds++[dv],?_,?_⟩
 ·rw [List.map_append]
  exact DatM.app (hd.up u) ⟨hb.up u,trivial⟩
 ·rw [List.map_append,z4y _ _ _ _ hd.len,List.length_append]
  simpa [rowC] using ho
theorem zcC {w w':World} {M:Bl} {v v':Value} (m:Mod (fun b=>some b=v.ownBlock) w w') (ho:v'.ownBlock=v.ownBlock∨∃ b,v'.ownBlock=some b∧w.heap.size≤b):Up (ownB M v) w (ownB M v') w' :=
 ⟨m.mono fun b _ e=>.inr e.symm,fun b hb e=>by
  rcases e with e | e
  ·exact .inl e
  ·rcases ho with ho | ⟨c,ho,hc⟩
   ·exact .inr (ho▸e)
   ·rw [ho] at e;injection e with e;omega⟩
end Go.Proofs.YtniknicnnaiilaaGreat
end
