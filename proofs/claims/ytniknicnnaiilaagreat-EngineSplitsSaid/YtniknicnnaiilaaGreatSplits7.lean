/- Lemmas of the engine. -/
import Derived.ChangeSame
import Derived.Deep.Fields
import Derived.Deep.Slices
import Derived.SizedLaws
import Derived.Test.YtniknicnnaiilaaGreatX09
import Derived.Test.YtniknicnnaiilaaGreatX20
import Derived.Test.YtniknicnnaiilaaGreatX30
import Derived.Test.YtniknicnnaiilaaGreatSplits1
import Derived.Test.YtniknicnnaiilaaGreatSplits2
import Derived.Test.YtniknicnnaiilaaGreatSplits5
import Derived.Test.YtniknicnnaiilaaGreatSplits6
section
namespace Go.Proofs.YtniknicnnaiilaaGreat
set_option maxRecDepth 100000
open Go.RowKit Go.Ext Go.BigFrame Go.Maps Go.MapKept
attribute [local go_sem] Ext.cell Ext.frozen Ext.lt Ext.le s1 s2 s3 s4 s5 s6 t1 t2 t3 t4 t5 t6
attribute [local go_sem ↓] Go.wp_at_zero Go.wp_at_succ
open Go.ChangeShapes Go.WideShapes Go.ChangeAt Go.Joins Go.Deep
theorem Tryz.own:ownKnob Tryz.prog.godebug=none:=by kernel_rfl
theorem Tryz.laidOut:laidOutB Tryz.prog=true:=by kernel_rfl
theorem z2V {b off j:Nat}:(⟨b,off,none⟩:Addr).add j=⟨b,off+j,none⟩:=by unfold Addr.add;split<;>simp_all
section
variable {H:Type} {enc:TypeId × Value→H} {P:Program} {w:World} {base:Nat} {spare:Nat→Bool} {held:Bool}
theorem z3m {t e:TypeId} {fs:Array Field} {fuel:Nat} {cs:List Value} {x:DataW H × List MemPlace} (ht:P.underlying t=some (.slice e)) (he:P.underlying e=some (.struct fs))
  (hone:oneCellFields P fs=true) (hC:P.cellsOf e=fs.size) (h:DataW.trod enc P w base spare held fuel t cs=some x) :
  (cs=[.slice none 0 0]∧x=(.nil,[])) ∨
  ∃ (a:Addr) (len cap m:Nat) (D:Nat→DataW H) (Pl:Nat→List MemPlace),cs=[.slice (some a) len cap]∧base≤a.block∧len≤cap∧cap≤maxLen∧m=(if spare a.block then cap else len) ∧
   x=(.slice ((List.range len).map D) ((List.range (m-len)).map fun j=>D (len+j)),MemPlace.row a (m * fs.size)++(List.range m).flatMap Pl) ∧
   ∀ i,i<m→∃ (ys:List (DataW H × List MemPlace)) (n:Nat),D i=.agg (ys.map (·.1))∧Pl i=ys.flatMap (·.2)∧ys.length=fs.size ∧
    ∀ (j:Nat) (f:Field),fs[j]?=some f→∃ (v:Value) (y:DataW H × List MemPlace),w.cell? (a.add (i * fs.size+j))=some v∧ys[j]?=some y∧DataW.trod enc P w base spare held n f.type [v]=some y:=by
 rcases open_slice ht h with h0 | ⟨a,len,cap,m,n,D,Pl,hcs,hb,hl,hm,hmm,hx,hi⟩
 ·exact .inl h0
 ·refine .inr ⟨a,len,cap,m,D,Pl,hcs,hb,hl,hm,hmm,by rw [hC] at hx;exact hx,fun i him=>?_⟩
  obtain ⟨cs',hc,ht'⟩:=hi i him
  rw [hC] at hc
  obtain ⟨ys,n',hn',hy,hlen,hyl,hf⟩:=DataW.trod_struct he ht'
  obtain ⟨_,hcl,hat⟩:=World.cells?_some hc
  simp only [Prod.mk.injEq] at hy
  refine ⟨ys,n',hy.1,hy.2,hyl,fun j f hj=>?_⟩
  obtain ⟨ho,hk⟩:=hone_of hone j f hj
  have hjl:j<fs.size:=(Array.getElem?_eq_some_iff.1 hj).1
  have hcell:=hat j hjl
  have hv:cs'[j]?=some (cs'[j]'(by omega)):=List.getElem?_eq_getElem (by omega)
  have h1:=hf j f hj
  rw [ho,hk] at h1
  have hone':(cs'.drop j).take 1=[cs'[j]'(by omega)]:=by
   rw [List.drop_eq_getElem_cons (by omega)]
   rfl
  rw [hone'] at h1
  have hys:ys[j]?=some (ys[j]'(by omega)):=List.getElem?_eq_getElem (by omega)
  refine ⟨_,_,?_,hys,h1.trans hys⟩
  rw [← Go.Deep.add_add,hcell,hv]
theorem z2A {e:TypeId} {d:DataW H} {n:Nat}:∀ {ds:List (DataW H)},d∈ds→n∈d.weights P e→n∈DataW.weightsAll P e ds
 | d0::ds,hd,hn=>by
  simp only [DataW.weightsAll,List.mem_append]
  rcases List.mem_cons.1 hd with rfl | hd
  ·exact .inl hn
  ·exact .inr (z2A hd hn)
end
theorem Bys.m {W:World} {v:Value} {bs:List UInt8} (h:Bys W v bs):BysM W (fun _=>False) v bs:=by
 obtain ⟨A,c,e,h1,h2,h3⟩:=h
 exact ⟨A,c,e,h1,Rd.m h2 (fun _ _ _ _ e=>e),h3⟩
theorem z9v {α:Type} {r:α→List Int × List UInt8} {W:World} {M:Bl} (f:Nat→α) (g:Nat→Value):∀ L:List Nat,(∀ i∈L,BysM W M (g i) (r (f i)).2)→DatM W M ((L.map f).map r) (L.map g)
 | [],_=>trivial
 | i::L,h=>⟨h i (List.mem_cons_self ..),z9v f g L (fun j hj=>h j (List.mem_cons_of_mem _ hj))⟩
theorem zcP {α:Type} (r:α→List Int × List UInt8) (m:Nat) (hm:∀ x,(r x).1.length=m) {W:World} {M:Bl} {b off n c:Nat} (f:Nat→α) (g:Nat→Value)
  (h:∀ i,i<n→(∀ j u,(recC (r (f i)) (g i))[j]?=some u→W.cell? ⟨b,off+i * (m+1)+j,none⟩=some u)∧BysM W M (g i) (r (f i)).2) (hM:¬ M b) (hnc:n≤c):z08 r W M (.slice (some ⟨b,off,none⟩) n c) ((List.range n).map f):=by
 refine ⟨some ⟨b,off,none⟩,c,(List.range n).map g,by simp,by simpa using hnc,z9v f g _ (fun i hi=>(h i (by simpa using hi)).2),fun _=>⟨b,off,rfl,hM,fun j u hu=>?_⟩,fun e=>by cases e⟩
 have hmm:∀ x∈((List.range n).map f).map r,x.1.length=m:=fun x hx=>by
  obtain ⟨y,_,rfl⟩:=List.mem_map.1 hx
  exact hm y
 have hlen:=z5b (((List.range n).map f).map r) ((List.range n).map g) hmm (by simp)
 have hj:=(List.getElem?_eq_some_iff.1 hu).1
 rw [hlen] at hj
 simp only [List.length_map,List.length_range] at hj
 have hi:j / (m+1)<n:=Nat.div_lt_of_lt_mul (by rw [Nat.mul_comm];exact hj)
 have hk:j % (m+1)<m+1:=Nat.mod_lt _ (by omega)
 have hg:=z7b (((List.range n).map f).map r) ((List.range n).map g) (j / (m+1)) (r (f (j / (m+1)))) (g (j / (m+1))) (j % (m+1)) hmm (by simp [hi]) (by simp [hi]) hk
 have hj2:j / (m+1) * (m+1)+j % (m+1)=j:=by rw [Nat.mul_comm];exact Nat.div_add_mod j (m+1)
 rw [hj2] at hg
 have:=(h _ hi).1 _ u (hg▸hu)
 rw [Nat.add_assoc,hj2] at this
 exact this
section
variable {H:Type} {enc:TypeId × Value→H}
theorem z4m {W:World} {fuel:Nat} {v:Value} {y:DataW H × List MemPlace} (h:DataW.trod enc Tryz.prog W 0 (fun _=>true) true fuel 22 [v]=some y) (hz:∀ n∈y.1.weights Tryz.prog 22,n≤reachBytes) :
  ∃ bs,Bys W v bs:=by
 rcases open_ints (k:=.u8) Tryz.underlying22 Tryz.underlying5 (by kernel_rfl) h with ⟨hcs,_⟩ | ⟨a,len,cap,zs,hcs,_,hl,hm,hlen,hx,hcell,hw⟩
 ·injection hcs with hcs
  subst hcs
  exact ⟨[],none,0,rfl,by simp,Rd.nil _ _,fun _=>rfl⟩
 ·injection hcs with hcs
  subst hcs
  have hcap:zs.length=cap:=by simpa using hlen
  have hb:cap≤140737488351232:=by
   have:=hz _ (by
    rw [hx]
    simp only [DataW.weights,Tryz.underlying22]
    exact List.mem_cons_self ..)
   simp only [Go.ChangeShapes.lits,List.length_map,List.length_take,List.length_drop,hcap] at this
   have e1:Tryz.prog.bytesOf 5=1:=by kernel_rfl
   rw [e1] at this
   unfold reachBytes at this
   omega
  refine ⟨(zs.take len).map (fun z=>UInt8.ofNat z.toNat),some a,cap,by simp;omega,by simp;omega,fun hne=>?_,fun e=>by cases e⟩
  have h0:0<len:=by
   rcases Nat.eq_zero_or_pos len with h0 | h0
   ·subst h0;simp [bc] at hne
   ·exact h0
  obtain ⟨b,off,spot⟩:=a
  have hs:spot=none:=by
   have:=hcell 0 (by omega)
   simpa [Addr.add] using World.cell?_spot this
  subst hs
  refine ⟨b,off,rfl,fun j u hu=>?_⟩
  have hj:j<len:=by
   have:=(List.getElem?_eq_some_iff.1 hu).1
   simp [bc] at this;omega
  have:=hcell j (by omega)
  rw [z2V] at this
  rw [this,← hu]
  have hwz:=hw (zs[j]'(by omega)) (List.getElem_mem _)
  have hr:0≤zs[j]'(by omega)∧zs[j]'(by omega)≤255:=by simpa [Lit.wf,IntKind.min,IntKind.max,IntKind.signed,IntKind.bits] using hwz
  simp [bc,hj,List.getD,show j<zs.length by omega]
  omega
theorem zdz {W:World} {fuel:Nat} {v:Value} {y:DataW H × List MemPlace} (h:DataW.trod enc Tryz.prog W 0 (fun _=>true) true fuel 29 [v]=some y) (hz:∀ n∈y.1.weights Tryz.prog 29,n≤reachBytes) :
  ∃ l:List Ev,z08 evR W (fun _=>False) v l:=by
 rcases z3m Tryz.underlying29 Tryz.underlying41 (by kernel_rfl) (by kernel_rfl) h with ⟨hcs,_⟩ | ⟨a,len,cap,m,D,Pl,hcs,hb,hl,hm,hmm,hx,hi⟩
 ·injection hcs with hcs
  subst hcs
  exact ⟨[],z08.none _ _ _⟩
 ·injection hcs with hcs
  subst hcs
  have hm':m=cap:=by simpa using hmm
  subst hm'
  rw [hx] at hz
  have each:∀ i,i<len→∃ (x:Ev) (dv:Value),(∀ j u,(recC (evR x) dv)[j]?=some u→W.cell? (a.add (i * 7+j))=some u)∧BysM W (fun _=>False) dv x.data:=by
   intro i hin
   obtain ⟨ys,k,hD,_,hyl,hf⟩:=hi i (by omega)
   obtain ⟨v0,y0,c0,g0,t0⟩:=hf 0 _ rfl
   obtain ⟨v1,y1,c1,g1,t1⟩:=hf 1 _ rfl
   obtain ⟨v2,y2,c2,g2,t2⟩:=hf 2 _ rfl
   obtain ⟨v3,y3,c3,g3,t3⟩:=hf 3 _ rfl
   obtain ⟨v4,y4,c4,g4,t4⟩:=hf 4 _ rfl
   obtain ⟨v5,y5,c5,g5,t5⟩:=hf 5 _ rfl
   obtain ⟨v6,y6,c6,g6,t6⟩:=hf 6 _ rfl
   obtain ⟨z0,e0,_,_⟩:=DataW.trod_int Tryz.underlying3 t0
   injection e0 with e0
   obtain ⟨z1,e1,_,_⟩:=DataW.trod_int Tryz.underlying3 t1
   injection e1 with e1
   obtain ⟨z2,e2,_,_⟩:=DataW.trod_int Tryz.underlying3 t2
   injection e2 with e2
   obtain ⟨z3,e3,_,_⟩:=DataW.trod_int Tryz.underlying3 t3
   injection e3 with e3
   obtain ⟨z4,e4,_,_⟩:=DataW.trod_int Tryz.underlying3 t4
   injection e4 with e4
   obtain ⟨z5,e5,_,_⟩:=DataW.trod_int Tryz.underlying3 t5
   injection e5 with e5
   subst e0 e1 e2 e3 e4 e5
   have hzD:∀ q∈(D i).weights Tryz.prog 41,q≤reachBytes:=fun q hq=>hz q (by
    simp only [DataW.weights,Tryz.underlying29]
    exact List.mem_cons_of_mem _ (List.mem_append_left _ (z2A (d:=D i) (List.mem_map.2 ⟨i,by simpa using hin,rfl⟩) hq)))
   rw [hD] at hzD
   simp only [DataW.weights,Tryz.underlying41] at hzD
   obtain ⟨bs,hbs⟩:=z4m t6 (fun q hq=>hzD q (DataW.weights_mem_each (j:=6) (t:=22) (d:=y6.1) rfl (by simp [g6]) q hq))
   refine ⟨⟨z0,z1,z2,z3,z4,z5,bs⟩,v6,fun j u hu=>?_,hbs.m⟩
   have hj:=(List.getElem?_eq_some_iff.1 hu).1
   simp [recC,evR] at hj hu
   rcases j with _ | _ | _ | _ | _ | _ | _ | j
   ·simp at hu;subst hu;exact c0
   ·simp at hu;subst hu;exact c1
   ·simp at hu;subst hu;exact c2
   ·simp at hu;subst hu;exact c3
   ·simp at hu;subst hu;exact c4
   ·simp at hu;subst hu;exact c5
   ·simp at hu;subst hu;exact c6
   ·omega
  let f:Nat→Ev:=fun i=>if h:i<len then Classical.choose (each i h) else ⟨0,0,0,0,0,0,[]⟩
  let g:Nat→Value:=fun i=>if h:i<len then Classical.choose (Classical.choose_spec (each i h)) else .int .i64 0
  have hf:∀ i,i<len→(∀ j u,(recC (evR (f i)) (g i))[j]?=some u→W.cell? (a.add (i * 7+j))=some u)∧BysM W (fun _=>False) (g i) (f i).data:=by
   intro i hin
   have:=Classical.choose_spec (Classical.choose_spec (each i hin))
   simp only [f,g,dif_pos hin]
   exact this
  refine ⟨(List.range len).map f,?_⟩
  by_cases h0:len=0
  ·subst h0
   exact ⟨some a,m,[],rfl,by simp,trivial,RdM.nil _ _ _,fun e=>by cases e⟩
  ·obtain ⟨b,off,spot⟩:=a
   have hs:spot=none:=by
    have:=(hf 0 (by omega)).1 0 _ rfl
    simpa [Addr.add] using World.cell?_spot this
   subst hs
   refine zcP evR 6 z14 f g (fun i hin=>⟨fun j u hu=>?_,(hf i hin).2⟩) (fun e=>e) hl
   have:=(hf i hin).1 j u hu
   rw [z2V] at this
   rw [Nat.add_assoc]
   exact this
theorem zbo {W:World} {fuel:Nat} {v:Value} {y:DataW H × List MemPlace} (h:DataW.trod enc Tryz.prog W 0 (fun _=>true) true fuel 33 [v]=some y) (hz:∀ n∈y.1.weights Tryz.prog 33,n≤reachBytes) :
  ∃ l:List Dec,z08 decR W (fun _=>False) v l:=by
 rcases z3m Tryz.underlying33 Tryz.underlying39 (by kernel_rfl) (by kernel_rfl) h with ⟨hcs,_⟩ | ⟨a,len,cap,m,D,Pl,hcs,hb,hl,hm,hmm,hx,hi⟩
 ·injection hcs with hcs
  subst hcs
  exact ⟨[],z08.none _ _ _⟩
 ·injection hcs with hcs
  subst hcs
  have hm':m=cap:=by simpa using hmm
  subst hm'
  rw [hx] at hz
  have each:∀ i,i<len→∃ (x:Dec) (dv:Value),(∀ j u,(recC (decR x) dv)[j]?=some u→W.cell? (a.add (i * 5+j))=some u)∧BysM W (fun _=>False) dv x.data:=by
   intro i hin
   obtain ⟨ys,k,hD,_,hyl,hf⟩:=hi i (by omega)
   obtain ⟨v0,y0,c0,g0,t0⟩:=hf 0 _ rfl
   obtain ⟨v1,y1,c1,g1,t1⟩:=hf 1 _ rfl
   obtain ⟨v2,y2,c2,g2,t2⟩:=hf 2 _ rfl
   obtain ⟨v3,y3,c3,g3,t3⟩:=hf 3 _ rfl
   obtain ⟨v4,y4,c4,g4,t4⟩:=hf 4 _ rfl
   obtain ⟨z0,e0,_,_⟩:=DataW.trod_int Tryz.underlying3 t0
   injection e0 with e0
   obtain ⟨z1,e1,_,_⟩:=DataW.trod_int Tryz.underlying3 t1
   injection e1 with e1
   obtain ⟨z2,e2,_,_⟩:=DataW.trod_int Tryz.underlying3 t2
   injection e2 with e2
   obtain ⟨z3,e3,_,_⟩:=DataW.trod_int Tryz.underlying3 t3
   injection e3 with e3
   subst e0 e1 e2 e3
   have hzD:∀ q∈(D i).weights Tryz.prog 39,q≤reachBytes:=fun q hq=>hz q (by
    simp only [DataW.weights,Tryz.underlying33]
    exact List.mem_cons_of_mem _ (List.mem_append_left _ (z2A (d:=D i) (List.mem_map.2 ⟨i,by simpa using hin,rfl⟩) hq)))
   rw [hD] at hzD
   simp only [DataW.weights,Tryz.underlying39] at hzD
   obtain ⟨bs,hbs⟩:=z4m t4 (fun q hq=>hzD q (DataW.weights_mem_each (j:=4) (t:=22) (d:=y4.1) rfl (by simp [g4]) q hq))
   refine ⟨⟨z0,z1,z2,z3,bs⟩,v4,fun j u hu=>?_,hbs.m⟩
   have hj:=(List.getElem?_eq_some_iff.1 hu).1
   simp [recC,decR] at hj hu
   rcases j with _ | _ | _ | _ | _ | j
   ·simp at hu;subst hu;exact c0
   ·simp at hu;subst hu;exact c1
   ·simp at hu;subst hu;exact c2
   ·simp at hu;subst hu;exact c3
   ·simp at hu;subst hu;exact c4
   ·omega
  let f:Nat→Dec:=fun i=>if h:i<len then Classical.choose (each i h) else ⟨0,0,0,0,[]⟩
  let g:Nat→Value:=fun i=>if h:i<len then Classical.choose (Classical.choose_spec (each i h)) else .int .i64 0
  have hf:∀ i,i<len→(∀ j u,(recC (decR (f i)) (g i))[j]?=some u→W.cell? (a.add (i * 5+j))=some u)∧BysM W (fun _=>False) (g i) (f i).data:=by
   intro i hin
   have:=Classical.choose_spec (Classical.choose_spec (each i hin))
   simp only [f,g,dif_pos hin]
   exact this
  refine ⟨(List.range len).map f,?_⟩
  by_cases h0:len=0
  ·subst h0
   exact ⟨some a,m,[],rfl,by simp,trivial,RdM.nil _ _ _,fun e=>by cases e⟩
  ·obtain ⟨b,off,spot⟩:=a
   have hs:spot=none:=by
    have:=(hf 0 (by omega)).1 0 _ rfl
    simpa [Addr.add] using World.cell?_spot this
   subst hs
   refine zcP decR 4 z9x f g (fun i hin=>⟨fun j u hu=>?_,(hf i hin).2⟩) (fun e=>e) hl
   have:=(hf i hin).1 j u hu
   rw [z2V] at this
   rw [Nat.add_assoc]
   exact this
end
end Go.Proofs.YtniknicnnaiilaaGreat
end
section
namespace Go.Proofs.YtniknicnnaiilaaGreat
set_option maxRecDepth 100000
open Go.RowKit Go.Ext Go.BigFrame Go.Maps Go.MapKept
attribute [local go_sem] Ext.cell Ext.frozen Ext.lt Ext.le s1 s2 s3 s4 s5 s6 t1 t2 t3 t4 t5 t6
attribute [local go_sem ↓] Go.wp_at_zero Go.wp_at_succ
open Go.ChangeShapes Go.WideShapes Go.ChangeAt Go.Joins Go.Deep
def zeF (w:World) (A:Option Addr) (n:Nat):Prop:=∀ i,i<n→∃ b off x,A=some ⟨b,off,none⟩∧b<w.heap.size∧w.cell? ⟨b,off+i,none⟩=some (.int .i64 x)∧-9223372036854775808≤x∧x≤9223372036854775807
section
variable {H:Type} {enc:TypeId × Value→H}
theorem z6l {W:World} {b0:Nat} {v:Value} {d:DataW H} {p:List MemPlace} (hv:Value.okWide Tryz.prog W .any b0 56 v) (h:DataW.Trod enc Tryz.prog W 0 (fun _=>true) true 56 v d p) (hz:∀ n∈d.weights Tryz.prog 56,n≤reachBytes) :
  ∃ (A:Option Addr) (n c:Nat),v=.slice A n c∧zeF W A n∧n≤140737488351232:=by
 obtain ⟨A,n,c,rfl⟩:=okWide_slice Tryz.underlying56 hv
 obtain ⟨fuel,hf⟩:=h
 rcases open_ints (k:=.i64) Tryz.underlying56 Tryz.underlying3 (by kernel_rfl) hf with ⟨hcs,_⟩ | ⟨a,len,cap,zs,hcs,_,hl,hm,hlen,hx,hcell,hw⟩
 ·simp [Value.cells] at hcs
  obtain ⟨rfl,rfl,rfl⟩:=hcs
  exact ⟨none,0,0,rfl,fun j hj=>absurd hj (by omega),by omega⟩
 ·simp [Value.cells] at hcs
  obtain ⟨rfl,rfl,rfl⟩:=hcs
  have hcap:zs.length=c:=by simpa using hlen
  have hb:n≤140737488351232:=by
   have:=hz _ (by
    injection hx with hx _
    rw [hx]
    simp only [DataW.weights,Tryz.underlying56]
    exact List.mem_cons_self ..)
   simp only [Go.ChangeShapes.lits,List.length_map,List.length_take,List.length_drop,hcap] at this
   have e1:Tryz.prog.bytesOf 3=8:=by kernel_rfl
   rw [e1] at this
   unfold reachBytes at this
   omega
  refine ⟨some a,n,c,rfl,fun i hi=>?_,hb⟩
  obtain ⟨b,off,spot⟩:=a
  have hs:spot=none:=by
   have:=hcell 0 (by omega)
   simpa [Addr.add] using World.cell?_spot this
  subst hs
  have:=hcell i (by omega)
  rw [z2V] at this
  have hwz:=hw (zs[i]'(by omega)) (List.getElem_mem _)
  have hr:-9223372036854775808≤zs[i]'(by omega)∧zs[i]'(by omega)≤9223372036854775807:=by simpa [Lit.wf,IntKind.min,IntKind.max,IntKind.signed,IntKind.bits] using hwz
  have hg:zs.getD i 0=zs[i]'(by omega):=by simp [List.getD,show i<zs.length by omega]
  rw [hg] at this
  exact ⟨b,off,_,rfl,World.block_lt_of_cell? W _ this,this,hr.1,hr.2⟩
end
end Go.Proofs.YtniknicnnaiilaaGreat
end
section
namespace Go.Proofs.YtniknicnnaiilaaGreat
set_option maxRecDepth 100000
open Go.RowKit Go.Ext Go.BigFrame Go.Maps Go.MapKept
attribute [local go_sem] Ext.cell Ext.frozen Ext.lt Ext.le s1 s2 s3 s4 s5 s6 t1 t2 t3 t4 t5 t6
attribute [local go_sem ↓] Go.wp_at_zero Go.wp_at_succ
structure Tw2 (w0 w:World) (M Sa Sb:Bl) (ka kb:Nat) (Ea Eb:ES) (na nb:Nat):Prop where
 a:EngR w M Sa ka Ea
 b:EngR w M Sb kb Eb
 ea:E1 Ea na
 eb:E1 Eb nb
 g:Gr w0 w
 sa:∀ x,Sa x→w0.heap.size≤x
 sb:∀ x,Sb x→w0.heap.size≤x
 dis:∀ x,Sa x→¬ Sb x
section
variable {w0 w w' w2:World} {M Sa Sb M2 Sa2:Bl} {ka kb na nb n':Nat} {Ea Eb E':ES}
theorem Tw2.symm (h:Tw2 w0 w M Sa Sb ka kb Ea Eb na nb):Tw2 w0 w M Sb Sa kb ka Eb Ea nb na:=⟨h.b,h.a,h.eb,h.ea,h.g,h.sb,h.sa,fun x e e'=>h.dis x e' e⟩
theorem Tw2.step (h:Tw2 w0 w M Sa Sb ka kb Ea Eb na nb) (hal:z0j w M Sa w2 M2 Sa2) (ha:EngR w2 M2 Sa2 ka E') (he:E1 E' n'):Tw2 w0 w2 M2 Sa2 Sb ka kb E' Eb n' nb :=
 ⟨ha,h.b.keep (hal.up h.a.lt.2.1) (fun x e=>hal.mod.block x (h.b.lt.1 x (h.b.lt.2.1 x e)) (fun s=>h.dis x s e)) (fun x e=>hal.mm x (h.b.lt.2.1 x e)) ha.lt.1,he,h.eb,z2c h.g hal.mod h.sa,
  fun x e=>by
   by_cases hb:x<w.heap.size
   ·exact h.sa x (hal.s x hb e)
   ·have:=h.g.size
    omega,h.sb,fun x e e'=>h.dis x (hal.s x (h.b.lt.1 x (h.b.lt.2.1 x e')) e) e'⟩
end
def zhd (w0:World) (M Sa Sb:Bl) (ka kb:Nat) (x:Ans × ES) (Eb:ES) (na nb:Nat) (w:World) (en:Ending) (w2:World):Prop :=
 ∃ A c A' c' M' Sa',en=.returned (ansV x.1 (.slice A x.1.data.length c) (.slice A' x.1.events.length c'))∧Tw2 w0 w2 M' Sa' Sb ka kb x.2 Eb (na+100) nb∧z0j w M Sa w2 M' Sa'∧BysM w2 M' (.slice A x.1.data.length c) x.1.data∧z08 evR w2 M' (.slice A' x.1.events.length c') x.1.events
theorem zcZ (k:Nat) (E:ES) (x:Int) (M S:Bl) (w:World) (h:EngR w M S k E) (hE:EOk E) (hdue:E.due.length≤990000):Calls Tryz.prog 23 #[.pointer (some ⟨k,0,none⟩),.int .i64 x] w (RetK M S k (z0S E x) w) :=
 z5W (fun k mb F e d M w h hk hmb hne hM hd hl hi h1 hw=>z5P k mb F e d M w h hk hmb hne hM hd hl hi h1 hw) k E x M S w h hE hdue
def zhg (w0:World) (M Sa Sb:Bl) (ka kb:Nat) (x:Int × ES) (Eb:ES) (na nb:Nat) (w:World) (en:Ending) (w2:World):Prop :=
 ∃ M' Sa',en=.returned (.int .i64 x.1)∧Tw2 w0 w2 M' Sa' Sb ka kb x.2 Eb na nb∧z0j w M Sa w2 M' Sa'
theorem Tw2.tick {w0 w:World} {M Sa Sb:Bl} {ka kb na nb:Nat} {Ea Eb:ES} (h:Tw2 w0 w M Sa Sb ka kb Ea Eb na nb) (x:Int) (hn:na≤990000) :
  Calls Tryz.prog 23 #[.pointer (some ⟨ka,0,none⟩),.int .i64 x] w (zhg w0 M Sa Sb ka kb (z0S Ea x) Eb na nb w):=by
 refine (zcZ ka Ea x M Sa w h.a h.ea.ok (Nat.le_trans h.ea.due hn)).mono ?_
 rintro en w2 ⟨M2,S2,rfl,e2,hal2⟩
 exact ⟨M2,S2,rfl,h.step hal2 e2 ⟨(z2x Ea x).1 h.ea.ok,(z2x Ea x).2.2.1.trans h.ea.g,Nat.le_trans (z2x Ea x).2.1 h.ea.due⟩,hal2⟩
theorem z90 {w:World} {M S:Bl} {k:Nat} {E:ES} (h:EngR w M S k E):Calls Tryz.prog 25 #[.pointer (some ⟨k,0,none⟩)] w (RetE (.int .i64 E.now) w):=by
 obtain ⟨kd,ka,md,ma,mr,kh,hv,hP⟩:=h
 obtain ⟨e0,e1,e2,e3,e4,e5,e6,hkl⟩:=hP.cells
 refine retE ?_
 go_enter Tryz.func25,Tryz.ntmps25
 go_wp2_with fail
 go_ret
 exact ⟨rfl,Gr.refl w⟩
def zhe (M0:Bl) (n:Int) (w:World) (en:Ending) (w':World):Prop :=
 ∃ k M S,en=.returned (.pointer (some ⟨k,0,none⟩))∧EngR w' M S k (tm n 0)∧E1 (tm n 0) 300∧Gr w w'∧(∀ b,S b→w.heap.size≤b)∧(∀ b,M0 b→M b)∧∀ b,b<w.heap.size→M b→M0 b
structure ActD where
 op:Int
 c:Call
 last:Bool
 n:Int
def actC (a:ActD) (d l:Value):List Value:=[.int .i64 a.op,.int .i64 a.c.kind,.int .i64 a.c.flow,.int .i64 a.c.list,.int .i64 a.c.n,.int .i64 a.c.tok.flow,.int .i64 a.c.tok.run,.int .i64 a.c.tok.event,.int .i64 a.c.tok.turn,d,l,.bool a.last,.int .i64 a.n]
def zdd (w:World) (M:Bl) (A:Option Addr) (i:Nat) (a:ActD):Prop :=
 ∃ b off Ad cd Al cl,A=some ⟨b,off,none⟩∧b<w.heap.size∧¬ M b∧z0P w M a.c (.slice Ad a.c.data.length cd) (.slice Al a.c.l.length cl)∧a.c.l.length≤140737488351232 ∧
  ∀ j u,(actC a (.slice Ad a.c.data.length cd) (.slice Al a.c.l.length cl))[j]?=some u→w.cell? ⟨b,off+i * 13+j,none⟩=some u
def z6B (w:World) (M:Bl) (A:Option Addr) (xs:List ActD):Prop:=∀ i x,xs[i]?=some x→zdd w M A i x
theorem zdd.up {w w':World} {M M':Bl} {A:Option Addr} {i:Nat} {a:ActD} (h:zdd w M A i a) (u:Up M w M' w'):zdd w' M' A i a:=by
 obtain ⟨b,off,Ad,cd,Al,cl,e,hb,hM,hc,hl,hx⟩:=h
 exact ⟨b,off,Ad,cd,Al,cl,e,Nat.lt_of_lt_of_le hb u.size,u.not hb hM,hc.up u,hl,fun j v hj=>(World.cell?_of_block (u.block hb hM)).trans (hx j v hj)⟩
theorem z6B.up {w w':World} {M M':Bl} {A:Option Addr} {xs:List ActD} (h:z6B w M A xs) (u:Up M w M' w'):z6B w' M' A xs:=fun i x hx=>(h i x hx).up u
theorem z9w {w:World} {M:Bl}:∀ {l:List Dec} {ds:List Value},DatM w M (l.map decR) ds→∀ d∈l,d.data.length≤140737488351232
 | [],_,_,d,hd=>by cases hd
 | x::r,[],h,d,hd=>h.elim
 | x::r,e::es,h,d,hd=>by
  rcases List.mem_cons.1 hd with rfl | hd
  ·obtain ⟨_,_,_,h1,_⟩:=h.1
   exact h1
  ·exact z9w h.2 d hd
theorem z0P.datas {w:World} {M:Bl} {c:Call} {d l:Value} (h:z0P w M c d l):∀ d∈c.l,d.data.length≤140737488351232:=by
 obtain ⟨_,_,ds,_,_,hd,_⟩:=h.2
 exact z9w hd
def zfX (n:Nat) (w:World) (e:Ending) (w':World):Prop:=∃ b,e=.returned (.bool b)∧(b=true→n≤150)∧Gr w w'
set_option maxHeartbeats 8000000 in
theorem z8N (A:Option Addr) (c:Nat) (xs:List ActD) (M:Bl) (w:World) (h:z6B w M A xs) (hl:xs.length≤140737488351232) :
  Calls Tryz.prog 22 #[.slice A xs.length c] w (zfX xs.length w):=by
 have H:=hid h
 have HL:=hid hl
 obtain ⟨n,hn⟩:∃ n,xs.length=n:=⟨_,rfl⟩
 have HN:=hid hn
 rw [hn] at HL ⊢
 clear h hl hn
 go_enter Tryz.func22,Tryz.ntmps22
 go_wp2_with fail
 go_loopw [3,4] (fun nv iv wr=>∃ (x:Int) (i:Nat),nv=.int .i64 x∧iv=.int .i64 i∧i≤n∧Gr w wr) (fun _ iv _=>n-(intOf iv).toNat)
 case atStart=>exact ⟨0,0,rfl,rfl,Nat.zero_le _,Gr.refl w⟩
 case round =>
  obtain ⟨x,i,rfl,rfl,hi,hgr⟩:=hrel
  have HG:=hid hgr
  clear hgr
  have hLL:(n:Int)≤140737488351232:=by have:=HL.o;omega
  by_cases hlt:i<n
  ·obtain ⟨a,ha⟩:∃ a,xs[i]?=some a:=⟨_,List.getElem?_eq_getElem (by rw [HN.o];exact hlt)⟩
   have HA:=hid (H.o.up (Gr.up HG.o M) i a ha)
   obtain ⟨b,off,Ad,cd,Al,cl,rfl,hb,hM,hcm,hll,hx⟩:=HA.o
   have HCM:=hid hcm
   have c9:=hx 9 _ rfl
   have c10:=hx 10 _ rfl
   obtain ⟨ll,hll9⟩:∃ n,a.c.l.length=n:=⟨_,rfl⟩
   have HLL:=hid hll9
   rw [hll9] at c10 hll HCM
   generalize a.c.data.length=dl at *
   clear hx hcm HA ha hll9
   have hlz:(i:Int)<(n:Int):=by omega
   have hz2:(ll:Int)≤140737488351232:=by omega
   go_wp2_with fail
   go_quiet (fail)
   go_wp2_with fail
   go_loopw [3,5] (fun nv kv w3=>∃ (x:Int) (k:Nat),nv=.int .i64 x∧kv=.int .i64 k∧k≤ll∧Gr wr w3) (fun _ kv _=>ll-(intOf kv).toNat)
   case atStart=>exact ⟨_,0,rfl,rfl,Nat.zero_le _,(Gr.refl wr).drewN _⟩
   case round =>
    obtain ⟨x,j,rfl,rfl,hj,hg3⟩:=hrel
    have HG3:=hid hg3
    have hb3:=Nat.lt_of_lt_of_le hb hg3.size
    have c10':=(hg3.cell hb).trans c10
    clear hg3 c9
    by_cases hjl:j<ll
    ·obtain ⟨d,hd⟩:∃ d,a.c.l[j]?=some d:=⟨_,List.getElem?_eq_getElem (by rw [HLL.o];exact hjl)⟩
     obtain ⟨b',off',A',c',rfl,hb',-,-,-,-,-,-,d4⟩:=z6g (HCM.o.up (Gr.up HG3.o M)).2 hd
     generalize d.data.length=dl' at *
     have hjz:(j:Int)<(ll:Int):=by omega
     go_wp2_with fail
     go_roundw
     case rel=>exact ⟨_,j+1,rfl,by go_num,by omega,HG3.o⟩
     case measure=>simp [intOf];omega
    ·have hjz:¬ (j:Int)<(ll:Int):=by omega
     go_wp2_with fail
     go_roundw
     case rel=>exact ⟨_,i+1,rfl,by go_num,by omega,HG.o.trans HG3.o⟩
     case measure=>simp [intOf];omega
  ·have hlz:¬ (i:Int)<(n:Int):=by omega
   by_cases h150:n≤150
   ·have hz:(n:Int)≤150:=by omega
    by_cases hx:x≤16384
    all_goals (
     go_wp2_with fail
     go_ret
     exact ⟨_,rfl,fun _=>h150,HG.o⟩)
   ·have hz:¬ (n:Int)≤150:=by omega
    go_wp2_with fail
    go_ret
    exact ⟨_,rfl,fun e=>(by cases e),HG.o⟩
theorem z8q (k:Nat) (E:ES) (x:Int) (M S:Bl) (w:World) (h:EngR w M S k E) (hE:EOk E) (hdue:E.due.length≤990000):Calls Tryz.prog 23 #[.pointer (some ⟨k,0,none⟩),.int .i64 x] w (RetK M S k (z0S E x) w) :=
 z5W (fun k mb F e d M w h hk hmb hne hM hd hl hi h1 hw=>z5P k mb F e d M w h hk hmb hne hM hd hl hi h1 hw) k E x M S w h hE hdue
theorem zbv {E:ES} {m:Nat} (h:E1 E m) (n:Int):E1 (z0S E n).2 m:=⟨(z2x E n).1 h.ok,(z2x E n).2.2.1.trans h.g,Nat.le_trans (z2x E n).2.1 h.due⟩
theorem Lw.old2 {w0 w1 w:World} {M S:Bl} {k n:Nat} {E:ES} (h:Lw w1 w M S k E n) (g:Gr w0 w1):Lw w0 w M S k E n :=
 ⟨⟨h.law.eng,h.law.e1,g.trans h.law.g,fun b e=>Nat.le_trans g.size (h.law.s b e)⟩,fun b e=>Nat.le_trans g.size (h.m b e)⟩
theorem Lw.upF {w0 w:World} {M S:Bl} {k n:Nat} {E:ES} (h:Lw w0 w M S k E n):Up (fun _=>False) w0 M w:=⟨h.law.g.mod _,fun b hb e=>by have:=h.m b e;omega⟩
theorem z7i {w:World} {B:Nat} {ty:TypeId} {a b c d a' b' c' d':Value} (h:w.heap[B]?=some (.cells #[a,b,c,d] ty (0,0))) :
  ∃ w',(((w.setCell ⟨B,0,none⟩ a').setCell ⟨B,1,none⟩ b').setCell ⟨B,2,none⟩ c').setCell ⟨B,3,none⟩ d'=w'∧Mod (fun x=>x=B) w w'∧w'.heap[B]?=some (.cells #[a',b',c',d'] ty (0,0)):=by
 refine ⟨_,rfl,z0c (z0c (z0c (z0c ((Gr.refl w).mod _)))),?_⟩
 have:=z02 (j:=3) (z02 (j:=2) (z02 (j:=1) (z02 (j:=0) h a') b') c') d'
 simpa only [List.setIfInBounds_toArray,List.set_cons_zero,List.set_cons_succ] using this
theorem z7h {w:World} {B:Nat} {ty:TypeId} {a b c d e f g h i j k l m f' g' h' i':Value} (hh:w.heap[B]?=some (.cells #[a,b,c,d,e,f,g,h,i,j,k,l,m] ty (0,0))) :
  ∃ w',(((w.setCell ⟨B,5,none⟩ f').setCell ⟨B,6,none⟩ g').setCell ⟨B,7,none⟩ h').setCell ⟨B,8,none⟩ i'=w'∧Mod (fun x=>x=B) w w'∧w'.heap[B]?=some (.cells #[a,b,c,d,e,f',g',h',i',j,k,l,m] ty (0,0)):=by
 refine ⟨_,rfl,z0c (z0c (z0c (z0c ((Gr.refl w).mod _)))),?_⟩
 have:=z02 (j:=8) (z02 (j:=7) (z02 (j:=6) (z02 (j:=5) hh f') g') h') i'
 simpa only [List.setIfInBounds_toArray,List.set_cons_zero,List.set_cons_succ] using this
structure Oc (w0 w:World) (M S:Bl) (k bt mb:Nat) (E:ES) (n:Nat) (t:Tok) (Sn:Tok→Bool) (m:Nat):Prop where
 lw:Lw w0 w M S k E n
 j:EJ E
 tok:z60 t
 cells:w.heap[bt]?=some (.cells #[.int .i64 t.flow,.int .i64 t.run,.int .i64 t.event,.int .i64 t.turn] 28 (0,0))
 map:MT w mb m Sn
 mt:M bt
 st:¬ S bt
 mm:M mb
 sm:¬ S mb
 ne:mb≠bt
 seen:∀ x,Sn x=true→Seen E x
section
variable {w0 w w' w2:World} {M S M2 S2:Bl} {k bt mb n m:Nat} {E E':ES} {t:Tok} {Sn:Tok→Bool}
end
theorem z4F {W:World} {B:Nat} {t:TypeId} {a b c d e f g h i j k l m:Value} (hh:W.heap[B]?=some (.cells #[a,b,c,d,e,f,g,h,i,j,k,l,m] t (0,0))) :
  W.cell? ⟨B,0,none⟩=some a∧W.cell? ⟨B,1,none⟩=some b∧W.cell? ⟨B,2,none⟩=some c∧W.cell? ⟨B,3,none⟩=some d∧W.cell? ⟨B,4,none⟩=some e∧W.cell? ⟨B,5,none⟩=some f∧W.cell? ⟨B,6,none⟩=some g∧W.cell? ⟨B,7,none⟩=some h∧W.cell? ⟨B,8,none⟩=some i∧W.cell? ⟨B,9,none⟩=some j∧W.cell? ⟨B,10,none⟩=some k∧W.cell? ⟨B,11,none⟩=some l∧W.cell? ⟨B,12,none⟩=some m:=by
 refine ⟨?_,?_,?_,?_,?_,?_,?_,?_,?_,?_,?_,?_,?_⟩<;>simp [World.cell?,hh]
structure Gd (i:Nat) (E:ES):Prop where
 w:wt E≤17 * i
 p:∀ x,ph E x≤64 * i
 t:tsk E.act≤64 * i
 k:KE E
theorem Gd.zero:Gd 0 (e0 0 1):=⟨by decide,fun x=>by simp [ph,e0,lk,flO,dueN],by decide,zhp 0 1⟩
theorem Gd.step {i:Nat} {E E':ES} (h:Gd i E) (hx:Wx 17 64 E E') (hk:KE E'):Gd (i+1) E':=⟨by have:=h.w;have:=hx.w;omega,fun x=>by have:=h.p x;have:=hx.p x;omega,by have:=h.t;have:=hx.t;omega,hk⟩
theorem Gd.call {i:Nat} {E:ES} (h:Gd i E) (c:Call):Gd (i+1) (z0z E c).2:=h.step (zfP sh0 E c) (zfo sh0 c h.k)
theorem Gd.tick {i:Nat} {E:ES} (h:Gd i E) (n:Int):Gd i (z0S E n).2:=by
 have hx:=zem E n
 exact ⟨by have:=h.w;have:=hx.w;omega,fun x=>by have:=h.p x;have:=hx.p x;omega,by have:=h.t;have:=hx.t;omega,zdP n h.k⟩
theorem Gd.le {i j:Nat} {E:ES} (h:Gd i E) (hij:i≤j):Gd j E:=⟨by have:=h.w;omega,fun x=>by have:=h.p x;omega,by have:=h.t;omega,h.k⟩
theorem Gd.lt {i:Nat} {E:ES} (h:Gd i E) (hi:i≤60):Lt E:=⟨by have:=h.w;omega,fun x=>by have:=h.p x;omega⟩
theorem za5 {m:Rows} (h:ROk m):m.length≤tsk m:=by
 have h2:=h.len
 clear h
 induction m with
 | nil=>simp
 | cons x r ih =>
  have h3:=(h2 x (List.mem_cons_self ..)).1
  have h4:=ih fun y hy=>h2 y (List.mem_cons_of_mem _ hy)
  simp only [tsk,List.map_cons,List.sum_cons,List.length_cons] at *
  omega
theorem Gd.een {i:Nat} {E:ES} (h:Gd i E) (hi:i≤60) (hE:EOk E) (hd:E.due.length≤1000000):EEn E:=by
 have hw:=h.w
 have ht:=h.t
 have h1:tsk E.dec≤1020:=by simp only [wt] at hw;omega
 have h2:=za5 hE.d
 have h3:=za5 hE.a.toROk
 exact ⟨hE,h.k,by omega,by omega,fun x=>by have:=z99 E.dec x;omega,fun x=>by have:=z99 E.act x;omega,hd⟩
structure Sc (w0 w:World) (M S:Bl) (k bt:Nat) (E:ES) (n:Nat) (t:Tok):Prop where
 lw:Lw w0 w M S k E n
 cells:w.heap[bt]?=some (.cells #[.int .i64 t.flow,.int .i64 t.run,.int .i64 t.event,.int .i64 t.turn] 28 (0,0))
 mt:M bt
 st:¬ S bt
section
variable {w0 w w' w2:World} {M S M2 S2:Bl} {k bt n:Nat} {E E':ES} {t:Tok}
theorem Sc.more {B:Nat} (h:Sc w0 w M S k bt E n t) (g:Gr w w') (h1:w.heap.size≤B) (h2:B<w'.heap.size):Sc w0 w' (fun b=>M b∨b=B) S k bt E n t :=
 ⟨h.lw.more g h1 h2,(g.block bt (block_lt h.cells)).trans h.cells,.inl h.mt,h.st⟩
theorem Sc.gr (h:Sc w0 w M S k bt E n t) (g:Gr w w'):Sc w0 w' M S k bt E n t:=⟨h.lw.gr g,(g.block bt (block_lt h.cells)).trans h.cells,h.mt,h.st⟩
theorem Sc.step {n':Nat} (h:Sc w0 w M S k bt E n t) (hal:z0j w M S w2 M2 S2) (hl:Lw w0 w2 M2 S2 k E' n'):Sc w0 w2 M2 S2 k bt E' n' t :=
 ⟨hl,(hal.mod.block bt (block_lt h.cells) h.st).trans h.cells,hal.mm _ h.mt,fun e=>h.st (hal.s _ (block_lt h.cells) e)⟩
theorem Sc.set {B:Nat} (h:Sc w0 w M S k bt E n t) (md:Mod (fun b=>b=B) w w') (h1:M B) (h2:¬ S B) (n1:bt≠B):Sc w0 w' M S k bt E n t :=
 ⟨h.lw.set md h1 h2,(md.block bt (block_lt h.cells) n1).trans h.cells,h.mt,h.st⟩
theorem Sc.setTok {t':Tok} (h:Sc w0 w M S k bt E n t) (md:Mod (fun b=>b=bt) w w') (hc:w'.heap[bt]?=some (.cells #[.int .i64 t'.flow,.int .i64 t'.run,.int .i64 t'.event,.int .i64 t'.turn] 28 (0,0))):Sc w0 w' M S k bt E n t' :=
 ⟨h.lw.set md h.mt h.st,hc,h.mt,h.st⟩
end
def Aft (E:ES) (n at_:Int) (Eb:ES):Prop:=(z0S E n).1=0→(at_=0∧Eb=E)∨Eb=aft E at_
theorem zd1 {E:ES} {n:Int} (hn:1≤n∧n≤300) (h:(z0S E n).1=0):E.now+n≤1099511627776:=by
 unfold z0S at h
 rw [if_neg (by omega)] at h
 split at h
 ·cases h
 ·omega
theorem Aft.step {E Eb:ES} {n at_ k:Int} (h:Aft E n at_ Eb) (hE:Lt E) (hn:1≤n∧n≤300) (h0:0≤at_) (hk:1≤k) (h1:at_+k≤n):Aft E n (at_+k) (z0S Eb k).2:=fun hc=>by
 have h2:=zd1 hn hc
 rcases h hc with ⟨rfl,rfl⟩ | rfl
 ·rw [za8 _ _ (by omega) (by omega),Int.zero_add]
  exact .inr rfl
 ·rw [zd0 hE _ _ (by omega) (by omega)]
  exact .inr rfl
theorem Aft.same {E Eb:ES} {n:Int} (h:Aft E n n Eb) (hn:1≤n∧n≤300) (hc:(z0S E n).1=0):Eb=(z0S E n).2:=by
 have h2:=zd1 hn hc
 rcases h hc with ⟨h0,_⟩ | rfl
 ·omega
 ·rw [za8 E n (by omega) h2]
end Go.Proofs.YtniknicnnaiilaaGreat
end
