/- Lemmas of the engine. -/
import Derived.Test.YtniknicnnaiilaaGreatGrows4
import Derived.Test.YtniknicnnaiilaaGreatGrows6
section
namespace Go.Proofs.YtniknicnnaiilaaGreat
set_option maxRecDepth 100000
open Go.RowKit Go.Ext Go.BigFrame Go.Maps Go.MapKept
attribute [local go_sem] Ext.cell Ext.frozen Ext.lt Ext.le s1 s2 s3 s4 s5 s6 t1 t2 t3 t4 t5 t6
attribute [local go_sem ↓] Go.wp_at_zero Go.wp_at_succ
open Go.ChangeShapes Go.WideShapes Go.ChangeAt Go.Joins Go.Deep
section
variable {H:Type} {enc:TypeId × Value→H}
theorem zds {W:World} {fuel:Nat} {A:Option Addr} {n c:Nat} {y:DataW H × List MemPlace} (h:DataW.trod enc Tryz.prog W 0 (fun _=>true) true fuel 33 [.slice A n c]=some y) (hz:∀ n∈y.1.weights Tryz.prog 33,n≤reachBytes):n≤140737488351232:=by
 rcases open_slice Tryz.underlying33 h with ⟨hcs,_⟩ | ⟨a,len,cap,m,k,D,Pl,hcs,hb,hl,hm,hmm,hx,hi⟩
 ·injection hcs with hcs
  injection hcs with _ h2 _
  omega
 ·injection hcs with hcs
  injection hcs with _ h2 _
  have:=hz _ (by
   rw [hx]
   simp only [DataW.weights,Tryz.underlying33]
   exact List.mem_cons_self ..)
  have e1:Tryz.prog.bytesOf 39=56:=by kernel_rfl
  rw [e1] at this
  simp only [List.length_map,List.length_range] at this
  unfold reachBytes at this
  omega
theorem zbb {W:World} {fuel:Nat} {cs:List Value} {y:DataW H × List MemPlace} (hf:DataW.trod enc Tryz.prog W 0 (fun _=>true) true fuel 35 cs=some y) (h10:cs.length=10) (hz:∀ n∈y.1.weights Tryz.prog 35,n≤reachBytes) :
  ∃ (c:Call) (Ad:Option Addr) (cd:Nat) (Al:Option Addr) (cl:Nat),cs=(z1U c (.slice Ad c.data.length cd) (.slice Al c.l.length cl)).toList∧z0P W (fun _=>False) c (.slice Ad c.data.length cd) (.slice Al c.l.length cl)∧c.l.length≤140737488351232:=by
 obtain ⟨c0,c1,c2,c3,c4,c5,c6,c7,c8,c9,rfl⟩:∃ c0 c1 c2 c3 c4 c5 c6 c7 c8 c9,cs=[c0,c1,c2,c3,c4,c5,c6,c7,c8,c9]:=by
  rcases cs with _ | ⟨c0,_ | ⟨c1,_ | ⟨c2,_ | ⟨c3,_ | ⟨c4,_ | ⟨c5,_ | ⟨c6,_ | ⟨c7,_ | ⟨c8,_ | ⟨c9,_ | ⟨c10,cs⟩⟩⟩⟩⟩⟩⟩⟩⟩⟩⟩<;>simp at h10
  exact ⟨_,_,_,_,_,_,_,_,_,_,rfl⟩
 obtain ⟨ys,n',hn',hy,hlen,hyl,hfl⟩:=DataW.trod_struct Tryz.underlying35 hf
 have k3:Tryz.prog.cellsOf 3=1:=by kernel_rfl
 have k28:Tryz.prog.cellsOf 28=4:=by kernel_rfl
 have k22:Tryz.prog.cellsOf 22=1:=by kernel_rfl
 have k33:Tryz.prog.cellsOf 33=1:=by kernel_rfl
 obtain ⟨y0,y1,y2,y3,y4,y5,y6,rfl⟩:∃ y0 y1 y2 y3 y4 y5 y6,ys=[y0,y1,y2,y3,y4,y5,y6]:=by
  simp at hyl
  rcases ys with _ | ⟨y0,_ | ⟨y1,_ | ⟨y2,_ | ⟨y3,_ | ⟨y4,_ | ⟨y5,_ | ⟨y6,_ | ⟨y7,ys⟩⟩⟩⟩⟩⟩⟩⟩<;>simp at hyl
  exact ⟨_,_,_,_,_,_,_,rfl⟩
 have t0:=hfl 0 _ rfl
 have t1:=hfl 1 _ rfl
 have t2:=hfl 2 _ rfl
 have t3:=hfl 3 _ rfl
 have t4:=hfl 4 _ rfl
 have t5:=hfl 5 _ rfl
 have t6:=hfl 6 _ rfl
 simp only [List.getElem_toArray,List.getElem_cons_zero,List.getElem_cons_succ] at t0 t1 t2 t3 t4 t5 t6
 rw [k3] at t0 t1 t2 t3
 rw [k28] at t4
 rw [k22] at t5
 rw [k33] at t6
 simp at t0 t1 t2 t3 t4 t5 t6
 obtain ⟨z0,e0,_,_⟩:=DataW.trod_int Tryz.underlying3 t0
 obtain ⟨z1,e1,_,_⟩:=DataW.trod_int Tryz.underlying3 t1
 obtain ⟨z2,e2,_,_⟩:=DataW.trod_int Tryz.underlying3 t2
 obtain ⟨z3,e3,_,_⟩:=DataW.trod_int Tryz.underlying3 t3
 injection e0 with e0
 injection e1 with e1
 injection e2 with e2
 injection e3 with e3
 subst e0 e1 e2 e3
 obtain ⟨us,n2,_,hu,_,hul,hfu⟩:=DataW.trod_struct Tryz.underlying28 t4
 obtain ⟨u0,u1,u2,u3,rfl⟩:∃ u0 u1 u2 u3,us=[u0,u1,u2,u3]:=by
  simp at hul
  rcases us with _ | ⟨u0,_ | ⟨u1,_ | ⟨u2,_ | ⟨u3,_ | ⟨u4,us⟩⟩⟩⟩⟩<;>simp at hul
  exact ⟨_,_,_,_,rfl⟩
 have q0:=hfu 0 _ rfl
 have q1:=hfu 1 _ rfl
 have q2:=hfu 2 _ rfl
 have q3:=hfu 3 _ rfl
 simp only [List.getElem_toArray,List.getElem_cons_zero,List.getElem_cons_succ] at q0 q1 q2 q3
 rw [k3] at q0 q1 q2 q3
 simp at q0 q1 q2 q3
 obtain ⟨x0,f0,_,_⟩:=DataW.trod_int Tryz.underlying3 q0
 obtain ⟨x1,f1,_,_⟩:=DataW.trod_int Tryz.underlying3 q1
 obtain ⟨x2,f2,_,_⟩:=DataW.trod_int Tryz.underlying3 q2
 obtain ⟨x3,f3,_,_⟩:=DataW.trod_int Tryz.underlying3 q3
 injection f0 with f0
 injection f1 with f1
 injection f2 with f2
 injection f3 with f3
 subst f0 f1 f2 f3
 subst hy
 simp only [DataW.weights,Tryz.underlying35] at hz
 obtain ⟨bs,hbs⟩:=z4m t5 (fun q hq=>hz q (DataW.weights_mem_each (j:=5) (t:=22) (d:=y5.1) rfl rfl q hq))
 have hz6:=fun q hq=>hz q (DataW.weights_mem_each (j:=6) (t:=33) (d:=y6.1) rfl rfl q hq)
 obtain ⟨l,hl⟩:=zbo t6 hz6
 obtain ⟨Ad,cd,rfl⟩:=hbs.m.shape
 obtain ⟨Al,cl,rfl,_⟩:=hl.shape
 exact ⟨⟨z0,z1,z2,z3,⟨x0,x1,x2,x3⟩,bs,l⟩,Ad,cd,Al,cl,rfl,⟨hbs.m,hl⟩,zds t6 hz6⟩
theorem zdf {W:World} {fuel:Nat} {cs:List Value} {y:DataW H × List MemPlace} (hf:DataW.trod enc Tryz.prog W 0 (fun _=>true) true fuel 54 cs=some y) (h13:cs.length=13) (hz:∀ n∈y.1.weights Tryz.prog 54,n≤reachBytes) :
  ∃ (a:ActD) (Ad:Option Addr) (cd:Nat) (Al:Option Addr) (cl:Nat),cs=actC a (.slice Ad a.c.data.length cd) (.slice Al a.c.l.length cl)∧z0P W (fun _=>False) a.c (.slice Ad a.c.data.length cd) (.slice Al a.c.l.length cl)∧a.c.l.length≤140737488351232:=by
 obtain ⟨c0,c1,c2,c3,c4,c5,c6,c7,c8,c9,c10,c11,c12,rfl⟩:∃ c0 c1 c2 c3 c4 c5 c6 c7 c8 c9 c10 c11 c12,cs=[c0,c1,c2,c3,c4,c5,c6,c7,c8,c9,c10,c11,c12]:=by
  rcases cs with _ | ⟨c0,_ | ⟨c1,_ | ⟨c2,_ | ⟨c3,_ | ⟨c4,_ | ⟨c5,_ | ⟨c6,_ | ⟨c7,_ | ⟨c8,_ | ⟨c9,_ | ⟨c10,_ | ⟨c11,_ | ⟨c12,_ | ⟨c13,cs⟩⟩⟩⟩⟩⟩⟩⟩⟩⟩⟩⟩⟩⟩<;>simp at h13
  exact ⟨_,_,_,_,_,_,_,_,_,_,_,_,_,rfl⟩
 obtain ⟨ys,n',hn',hy,hlen,hyl,hfl⟩:=DataW.trod_struct Tryz.underlying54 hf
 have k3:Tryz.prog.cellsOf 3=1:=by kernel_rfl
 have k4:Tryz.prog.cellsOf 4=1:=by kernel_rfl
 have k35:Tryz.prog.cellsOf 35=10:=by kernel_rfl
 obtain ⟨y0,y1,y2,y3,rfl⟩:∃ y0 y1 y2 y3,ys=[y0,y1,y2,y3]:=by
  simp at hyl
  rcases ys with _ | ⟨y0,_ | ⟨y1,_ | ⟨y2,_ | ⟨y3,_ | ⟨y4,ys⟩⟩⟩⟩⟩<;>simp at hyl
  exact ⟨_,_,_,_,rfl⟩
 have t0:=hfl 0 _ rfl
 have t1:=hfl 1 _ rfl
 have t2:=hfl 2 _ rfl
 have t3:=hfl 3 _ rfl
 simp only [List.getElem_toArray,List.getElem_cons_zero,List.getElem_cons_succ] at t0 t1 t2 t3
 rw [k3] at t0 t3
 rw [k35] at t1
 rw [k4] at t2
 simp at t0 t1 t2 t3
 obtain ⟨z0,e0,_,_⟩:=DataW.trod_int Tryz.underlying3 t0
 obtain ⟨z2,e2,_⟩:=DataW.trod_bool Tryz.underlying4 t2
 obtain ⟨z3,e3,_,_⟩:=DataW.trod_int Tryz.underlying3 t3
 injection e0 with e0
 injection e2 with e2
 injection e3 with e3
 subst e0 e2 e3
 subst hy
 simp only [DataW.weights,Tryz.underlying54] at hz
 obtain ⟨c,Ad,cd,Al,cl,hc,hm,hl⟩:=zbb t1 rfl (fun q hq=>hz q (DataW.weights_mem_each (j:=1) (t:=35) (d:=y1.1) rfl rfl q hq))
 simp only [z1U] at hc
 injection hc with g1 hc
 injection hc with g2 hc
 injection hc with g3 hc
 injection hc with g4 hc
 injection hc with g5 hc
 injection hc with g6 hc
 injection hc with g7 hc
 injection hc with g8 hc
 injection hc with g9 hc
 injection hc with g10 hc
 subst g1 g2 g3 g4 g5 g6 g7 g8 g9 g10
 exact ⟨⟨z0,c,z2,z3⟩,Ad,cd,Al,cl,rfl,hm,hl⟩
theorem zb6 {W:World} {fuel:Nat} {v:Value} {y:DataW H × List MemPlace} (h:DataW.trod enc Tryz.prog W 0 (fun _=>true) true fuel 50 [v]=some y) (hz:∀ n∈y.1.weights Tryz.prog 50,n≤reachBytes) :
  ∃ (xs:List ActD) (A:Option Addr) (c:Nat),v=.slice A xs.length c∧z6B W (fun _=>False) A xs∧xs.length≤140737488351232:=by
 rcases open_slice Tryz.underlying50 h with ⟨hcs,_⟩ | ⟨a,len,cap,m,k,D,Pl,hcs,hb,hl,hm,hmm,hx,hi⟩
 ·injection hcs with hcs
  subst hcs
  exact ⟨[],none,0,rfl,fun i x hx=>by simp at hx,by simp⟩
 ·injection hcs with hcs
  subst hcs
  have hm':m=cap:=by simpa using hmm
  subst hm'
  rw [hx] at hz
  have hk:Tryz.prog.cellsOf 54=13:=by kernel_rfl
  rw [hk] at hi
  have hlen:len≤140737488351232:=by
   have:=hz _ (by
    simp only [DataW.weights,Tryz.underlying50]
    exact List.mem_cons_self ..)
   have e1:Tryz.prog.bytesOf 54=136:=by kernel_rfl
   rw [e1] at this
   simp only [List.length_map,List.length_range] at this
   unfold reachBytes at this
   omega
  have each:∀ i,i<len→∃ x:ActD,∃ Ad cd Al cl,z0P W (fun _=>False) x.c (.slice Ad x.c.data.length cd) (.slice Al x.c.l.length cl)∧x.c.l.length≤140737488351232∧∀ j u,(actC x (.slice Ad x.c.data.length cd) (.slice Al x.c.l.length cl))[j]?=some u→W.cell? ((a.add (i * 13)).add j)=some u:=by
   intro i hin
   obtain ⟨cs',hc,ht'⟩:=hi i (by omega)
   obtain ⟨_,hcl,hat⟩:=World.cells?_some hc
   obtain ⟨x,Ad,cd,Al,cl,he,hcm,hll⟩:=zdf ht' hcl (fun q hq=>hz q (by
    simp only [DataW.weights,Tryz.underlying50]
    exact List.mem_cons_of_mem _ (List.mem_append_left _ (z2A (d:=D i) (List.mem_map.2 ⟨i,by simpa using hin,rfl⟩) hq))))
   refine ⟨x,Ad,cd,Al,cl,hcm,hll,fun j u hu=>?_⟩
   have hj:=(List.getElem?_eq_some_iff.1 hu).1
   rw [← he] at hu hj
   rw [hat j (by omega),hu]
  let f:Nat→ActD:=fun i=>if h:i<len then Classical.choose (each i h) else ⟨0,⟨0,0,0,0,tok0,[],[]⟩,false,0⟩
  refine ⟨(List.range len).map f,some a,m,by simp,fun i x hx=>?_,by simpa using hlen⟩
  obtain ⟨hin,hxe⟩:=List.getElem?_eq_some_iff.1 hx
  simp only [List.length_map,List.length_range] at hin
  have hx2:x=f i:=by
   rw [← hxe]
   simp
  subst hx2
  have hch:=Classical.choose_spec (each i hin)
  have hfi:f i=Classical.choose (each i hin):=by simp only [f,dif_pos hin]
  rw [← hfi] at hch
  obtain ⟨Ad,cd,Al,cl,hcm,hll,hcell⟩:=hch
  obtain ⟨b,off,spot⟩:=a
  have hs:spot=none:=by
   obtain ⟨x0,Ad0,cd0,Al0,cl0,_,_,hc0⟩:=each 0 (by omega)
   simpa [Addr.add] using World.cell?_spot (hc0 0 _ rfl)
  subst hs
  rw [z2V] at hcell
  refine ⟨b,off,Ad,cd,Al,cl,rfl,?_,fun e=>e,hcm,hll,fun j u hu=>?_⟩
  ·have:=hcell 0 _ rfl
   rw [z2V] at this
   exact World.block_lt_of_cell? W _ this
  ·have:=hcell j u hu
   rw [z2V] at this
   exact this
theorem z5f {W:World} {b0:Nat} {v:Value} {d:DataW H} {p:List MemPlace} (hv:Value.okWide Tryz.prog W .any b0 50 v) (h:DataW.Trod enc Tryz.prog W 0 (fun _=>true) true 50 v d p) (hz:∀ n∈d.weights Tryz.prog 50,n≤reachBytes) :
  ∃ (xs:List ActD) (A:Option Addr) (c:Nat),v=.slice A xs.length c∧z6B W (fun _=>False) A xs∧xs.length≤140737488351232:=by
 obtain ⟨A,n,c,rfl⟩:=okWide_slice Tryz.underlying50 hv
 obtain ⟨fuel,hf⟩:=h
 exact zb6 hf hz
end
end Go.Proofs.YtniknicnnaiilaaGreat
end
