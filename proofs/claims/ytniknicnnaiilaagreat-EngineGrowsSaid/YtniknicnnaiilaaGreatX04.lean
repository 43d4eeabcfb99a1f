/- Lemmas of the engine. -/
import Derived.Laws.CopyOwn
import Derived.Laws.Externs
import Derived.Lib.AppendZerosOnto
import Derived.Lib.Overlaps
import Derived.Shelf.Abstract
import Derived.Test.YtniknicnnaiilaaGreatX01
import Derived.Test.YtniknicnnaiilaaGreatX03
section
namespace Go.Ext
open Go.RowKit
section
variable {P:Program}
theorem z2O (w:World) {ops:Array Oper} {rest:List Oper} {o:Oper} {a:Act} {Q:Exit→Act→World→Prop} (hgd:o.guard=none) (d s:Operand) (t t':TypeId)
  (ho:o.op=.call { callee:=.builtin .append,args:=#[d,s],argTypes:=#[t,t'] }) (v u:Value) (hd:a.eval d=v) (hs:a.eval s=u) {v':Value} {w':World}
  (hr:(Builtin.append_ #[t,t'] o.type #[v,u]).run P w=.ok v' w') (h:wpList P ops Q rest (a.put o.dst v') w'):wpList P ops Q (o::rest) a w :=
 wpList_plain hgd fun _ hK=>by
  unfold Oper.wp execOp
  simp only [ho,resolve,invoke,builtin,Sem.run_bind,Sem.run_pure,Result.andThen_ok,List.map_toArray,List.map_cons,List.map_nil,hd,hs,hr]
  exact hK _ _ h
theorem z0s {ops:Array Oper} {o:Oper} {a:Act} {w:World} {K:Act→World→Prop} {Q:Exit→Act→World→Prop} {E:Prop}
  (hg:o.guard=none) (d x:Operand) (dT sT:TypeId) (hop:o.op=Op.call { callee:=Callee.builtin Builtin.append,args:=#[d,x],argTypes:=#[dT,sT] })
  (v u:Value) (hd:a.eval d=v) (hx:a.eval x=u) {v':Value} {w':World} (hr:(Builtin.append_ #[dT,sT] o.type #[v,u]).run P w=.ok v' w') (hK:K (a.put o.dst v') w') :
  if Region.wanted o (yielded ops a.tmps)=true then Oper.wp P o a w K Q else E:=by
 have hw:Region.wanted o (yielded ops a.tmps)=true:=by simp [Region.wanted,hg]
 rw [if_pos hw]
 unfold Oper.wp
 simp [execOp,hop,resolve,invoke,builtin,hd,hx,hr,Result.andThen]
 exact hK
theorem z2T (w:World) (dT sT ty elem:TypeId) (k:Nat) (g o dLen dCap:Nat) (a:Addr) (sLen sCap m:Nat) (cur:List Value) (t:TypeId) (cs:List Value)
  (hu:P.underlying dT=some (.slice elem)) (i:TypeInfo) (hi:P.info? elem=some i) (hk:i.size=k)
  (hg:w.heap[g]?=some (.cells cur.toArray t (0,0))) (hm:Nat.min sLen dLen=m) (hn:cs.length=m * k)
  (hsrc:∀ j v,cs[j]?=some v→w.cell? (a.add j)=some v) (hfit:o+cs.length≤cur.length) (h1:∀ v∈cs,v.oneCell'=true) :
  (Builtin.copy_ #[dT,sT] ty #[.slice (some ⟨g,o,none⟩) dLen dCap,.slice (some a) sLen sCap]).run P w =
   .ok (goInt m) (w.setRow g (splice cur o cs).toArray):=by
 have hl:=run_loadCells_list (P:=P) w a cs hsrc
 have hst:=run_storeCells_at P g o t cs 0 cur.toArray w hg (by simpa using hfit) h1
 simp only [Nat.add_zero,List.append_assoc] at hst
 subst hm
 rw [hn] at hl
 simp [Builtin.copy_,run_underlying hu,Builtin.lenOf,Builtin.firstCells,sizeOf,typeInfo,hi,hk,hl,hst,splice]
theorem z4b (w:World) (t e ty:TypeId) (z:Value) (k:Nat) (ht:P.underlying t=some (.slice e)) (hv:(zeroValue e).run P w=.ok z w) (hz:z.cells.size=k) (h1:∀ v∈z.cells.toList,v.oneCell'=true) (g o n c:Nat) (hn:0<n)
  (cur:List Value) (tt:TypeId) (hg:w.heap[g]?=some (.cells cur.toArray tt (0,0))) (hfit:o+n * k≤cur.length) :
  (Builtin.clear_ #[t] ty #[.slice (some ⟨g,o,none⟩) n c]).run P w=.ok (.tuple #[]) (w.setRow g (splice cur o (Builtin.zeroCells z.cells n).toList).toArray):=by
 have hlen:(Builtin.zeroCells z.cells n).toList.length=n * k:=by rw [Array.length_toList,size_zeroCells,hz]
 have hone:∀ v∈(Builtin.zeroCells z.cells n).toList,v.oneCell'=true:=by
  intro v hv'
  simp only [Builtin.zeroCells,Array.mem_toList_iff,Array.mem_map,Array.mem_range] at hv'
  obtain ⟨i,hi,rfl⟩:=hv'
  have hpos:0<z.cells.size:=Nat.pos_of_ne_zero fun e=>by rw [e] at hi;omega
  have hlt:i % z.cells.size<z.cells.size:=Nat.mod_lt _ hpos
  rw [getElem!_pos z.cells _ hlt]
  exact h1 _ (by simp)
 have hst:=run_storeCells_at P g o tt _ 0 cur.toArray w hg (by simpa [hlen] using hfit) hone
 simp only [Nat.add_zero,List.append_assoc] at hst
 obtain ⟨m,rfl⟩:∃ m,n=m+1:=⟨n-1,by omega⟩
 simp [Builtin.clear_,run_underlying ht,hv,hst,splice]
theorem z5R (w:World) (t ty e:TypeId) (i:TypeInfo) (ht:P.underlying t=some (.slice e)) (hi:P.info? e=some i) (k:Nat) (hk:i.size=k)
  (g sLen sCap:Nat) (cur:List Value) (hg:w.heap[g]?=some (.cells cur.toArray e (0,0)))
  (a:Addr) (m c:Nat) (news:List Value) (hl:news.length=m * k) (hnews:∀ j u,news[j]?=some u→w.cell? (a.add j)=some u) (h1:∀ u∈news,u.oneCell'=true)
  (hroom:sLen+m≤sCap) (hfit:sLen * k+news.length≤cur.length) :
  (Builtin.append_ #[t,t] ty #[.slice (some ⟨g,0,none⟩) sLen sCap,.slice (some a) m c]).run P w =
   .ok (.slice (some ⟨g,0,none⟩) (sLen+m) sCap) (w.setRow g (splice cur (sLen * k) news).toArray):=by
 subst hk
 have:=run_append_room (P:=P) w t ty e i ht hi g sLen sCap cur.toArray hg a m c news hl hnews h1 hroom (by simpa using hfit)
 rw [this]
 simp [splice]
theorem z2v (w:World) (g:Nat) (cs:Array Value):Mod (fun b=>b=g) w (w.setRow g cs):=⟨rfl,rfl,rfl,by simp [World.setRow],fun k _ hn=>setRow_other w g k _ hn⟩
end
end Go.Ext
end
section
namespace Go.Proofs.YtniknicnnaiilaaGreat
set_option maxRecDepth 100000
open Go.RowKit Go.Ext Go.BigFrame
attribute [local go_sem] Ext.cell Ext.frozen Ext.lt Ext.le s1 s2 s3 s4 s5 s6 t1 t2 t3 t4 t5 t6
attribute [local go_sem ↓] Go.wp_at_zero Go.wp_at_succ
theorem z5E:(Tryz.prog.info? 92).map (fun i=>(i.zero,i.size,i.bytes))=some (some (.agg #[.int .i64 0,.int .i64 0,.int .i64 0,.int .i64 0,.int .i64 0,.int .i64 0]),6,48):=by kernel_rfl
theorem zcf (x:It):∀ u∈ic x,u.oneCell'=true:=by
 intro u hu
 simp only [ic,List.mem_cons,List.not_mem_nil,or_false] at hu
 rcases hu with rfl | rfl | rfl | rfl | rfl | rfl<;>rfl
def z6b (base:Nat) (v:Value) (L':List It) (w:World) (e:Ending) (w':World):Prop :=
 ∃ v',e=.returned v'∧w'.ownsRow base 92 6 v' L'.length (cs6 L')∧Mod (fun k=>some k=v.ownBlock) w w'∧(v'.ownBlock=v.ownBlock∨∃ k,v'.ownBlock=some k∧w.heap.size≤k)
theorem z2f {row:Option Nat} {w w':World} (h:w.grownBy w' row):Mod (fun b=>some b=row) w w':=⟨h.os,h.tape,h.output,h.size,fun k hk hn=>h.block k hk hn⟩
theorem zaH (base vb:Nat) (v:Value) (L:List It) (x:It) (w:World) (h:w.ownsRow base 92 6 v L.length (cs6 L)) (hb:w.heap[vb]?=some (.cells (ic x).toArray 92 (0,0))) (hl:L.length≤1000000) (hbase:base≤w.heap.size) :
  Calls Tryz.prog 79 #[v,.int .i64 L.length,.slice (some ⟨vb,0,none⟩) 1 1] w (z6b base v (L++[x]) w):=by
 obtain ⟨i0,hi0,hz0,hz1,hz2⟩:=info_parts z5E
 have H:=hid h
 have HBk:=hid hb
 have hsh:∃ A c,v=.slice A L.length c:=by
  rcases h.2 with ⟨rfl,h0⟩ | ⟨g,cap,cur,rfl,_⟩
  ·exact ⟨none,0,by rw [h0]⟩
  ·exact ⟨_,_,rfl⟩
 have hcp:∀ A c,v=.slice A L.length c→L.length≤c:=by
  intro A c e
  rcases h.2 with ⟨rfl,h0⟩ | ⟨g,cap,cur,rfl,_,_,hc,_⟩
  ·omega
  ·injection e with _ _ e;omega
 obtain ⟨A,c,rfl⟩:=hsh
 have hc:=hcp A c rfl
 clear hcp h hb
 obtain ⟨D,hD⟩:∃ D,(if c=L.length then A else Option.map (fun x=>x.add (L.length * 6)) A)=D:=⟨_,rfl⟩
 go_enter Tryz.func79,Tryz.ntmps79
 go_wp2_with (at_builtin;refine wpList_append_lies _ rfl _ _ 115 rfl base 92 i0 _ 6 48 Tryz.underlying115 hi0 hz0 hz1 hz2 rfl (by omega) (.slice A L.length c) L.length (cs6 L) rfl H.o ⟨vb,0,none⟩ 1 1 (ic x) rfl rfl (World.news_of_block (cs:=(ic x).toArray) HBk.o) (zcf x) (by omega) (by unfold maxLen;omega) (by omega) hbase _ rfl ?_;intro gg cap w1 hown hgrow hat hlt)
 go_ret
 refine ⟨_,rfl,?_,z2f hgrow,?_⟩
 ·rw [z5j,List.length_append,List.length_singleton]
  exact hown
 ·rcases hat with h | h
  ·exact .inl h.symm
  ·exact .inr ⟨gg,rfl,by omega⟩
theorem take3 (O X D R:List Value) (n:Nat) (hn:n=O.length+X.length+D.length):(O++(X++(D++R))).take n=O++(X++D):=by
 rw [← List.append_assoc X D R,← List.append_assoc O (X++D) R]
 rw [List.take_left' (by simp;omega)]
theorem z8o (C:List Value) (L:List It) (x:It) (i:Nat) (hi:i≤L.length) (hC:C.take (L.length * 6)=cs6 L) (_hlen:(L.length+1) * 6≤C.length) :
  (splice (splice C ((i+1) * 6) (cs6 (L.drop i))) (i * 6) (ic x)).take ((L.length+1) * 6)=cs6 (L.take i++x::L.drop i):=by
 have hO:C.take (i * 6)=cs6 (L.take i):=by rw [z4p,← hC,List.take_take,Nat.min_eq_left (by omega)]
 have hD:(cs6 (L.drop i)).length=(L.length-i) * 6:=by rw [z0l,List.length_drop]
 have hOl:(cs6 (L.take i)).length=i * 6:=by rw [z0l,List.length_take,Nat.min_eq_left hi]
 have h1:(splice C ((i+1) * 6) (cs6 (L.drop i))).take (i * 6)=cs6 (L.take i):=by
  unfold splice
  rw [List.take_append_of_le_length (by rw [List.length_take];omega),List.take_take,Nat.min_eq_left (by omega),hO]
 have h2:(splice C ((i+1) * 6) (cs6 (L.drop i))).drop (i * 6+(ic x).length)=cs6 (L.drop i)++C.drop ((i+1) * 6+(cs6 (L.drop i)).length):=by
  unfold splice
  rw [List.drop_left' (by rw [List.length_take,z0t];omega)]
 have e:splice (splice C ((i+1) * 6) (cs6 (L.drop i))) (i * 6) (ic x)=cs6 (L.take i)++(ic x++(cs6 (L.drop i)++C.drop ((i+1) * 6+(cs6 (L.drop i)).length))):=by
  rw [← h1,← h2];rfl
 rw [e,take3 _ _ _ _ _ (by rw [hOl,hD,z0t];omega),z5j,show cs6 (x::L.drop i)=ic x++cs6 (L.drop i) from rfl]
theorem z9b (Z:List Value) (L:List It) (x:It) (i:Nat) (hi:i≤L.length) (_hlen:(L.length+1-i) * 6≤Z.length) :
  (splice (splice (cs6 (L.take i)++Z) (i * 6) (ic x)) ((i+1) * 6) (cs6 (L.drop i))).take ((L.length+1) * 6)=cs6 (L.take i++x::L.drop i):=by
 have hD:(cs6 (L.drop i)).length=(L.length-i) * 6:=by rw [z0l,List.length_drop]
 have hOl:(cs6 (L.take i)).length=i * 6:=by rw [z0l,List.length_take,Nat.min_eq_left hi]
 have e1:splice (cs6 (L.take i)++Z) (i * 6) (ic x)=cs6 (L.take i)++(ic x++Z.drop 6):=by
  unfold splice
  rw [List.take_left' hOl,List.drop_append,hOl,List.drop_eq_nil_of_le (by rw [hOl];omega),List.nil_append,z0t,show i * 6+6-i * 6=6 by omega]
 rw [e1]
 have e2:splice (cs6 (L.take i)++(ic x++Z.drop 6)) ((i+1) * 6) (cs6 (L.drop i))=cs6 (L.take i)++(ic x++(cs6 (L.drop i)++((cs6 (L.take i)++(ic x++Z.drop 6)).drop ((i+1) * 6+(cs6 (L.drop i)).length)))):=by
  unfold splice
  rw [← List.append_assoc (cs6 (L.take i)) (ic x) (Z.drop 6),List.take_left' (by rw [List.length_append,hOl,z0t];omega),List.append_assoc]
 rw [e2,take3 _ _ _ _ _ (by rw [hOl,hD,z0t];omega),z5j,show cs6 (x::L.drop i)=ic x++cs6 (L.drop i) from rfl]
theorem z7d {w:World} {g:Nat} {C:List Value} {t:TypeId} (hg:w.heap[g]?=some (.cells C.toArray t (0,0))) (o:Nat) (cs:List Value) (hcs:∀ j u,cs[j]?=some u→C[o+j]?=some u):∀ j u,cs[j]?=some u→w.cell? ((⟨g,o,none⟩:Addr).add j)=some u:=by
 intro j u hu
 rw [Addr.add_lit]
 simpa [World.cell?,hg] using hcs j u hu
theorem ze5 (g off vb lb cb:Nat) (C:Array Value) (x:It) (w:World) (hg:w.heap[g]?=some (.cells C 92 (0,0))) (hC:0<C.size) (hb:w.heap[vb]?=some (.cells (ic x).toArray 92 (0,0))) (hne:vb≠g) :
  (callFunc 122 #[.slice (some ⟨vb,0,none⟩) 1 1,.slice (some ⟨g,off,none⟩) lb cb]).run Tryz.prog w=.ok (.value (.bool false)) w:=by
 rw [run_callFunc_extern Tryz.func122 (by kernel_rfl) (by kernel_rfl) (by kernel_rfl) (e:=Extern.SlicesOverlaps.overlaps #[115,115] #[4]) (by kernel_rfl),
  Lib.run_overlaps_apart w 115 4 92 Tryz.underlying115 6 Tryz.sizeOf92 ⟨vb,0,none⟩ ⟨g,off,none⟩ 1 1 lb cb hne 92 92 6 C.size (by simp [World.shape?,hb,ic]) (by simp [World.shape?,hg]) (by omega) (by simp [World.frozen?,hb]) (by simp [World.frozen?,hb])]
 rfl
set_option maxHeartbeats 600000 in
theorem z87 (base vb g cap i:Nat) (C:List Value) (L:List It) (x:It) (w:World) (hg:w.heap[g]?=some (.cells C.toArray 92 (0,0))) (hbg:base≤g) (hcm:cap≤maxLen) (hCl:C.length=cap * 6) (hC:C.take (L.length * 6)=cs6 L)
  (hb:w.heap[vb]?=some (.cells (ic x).toArray 92 (0,0))) (hne:vb≠g) (hl:L.length≤1000000) (hi:i<L.length) (hroom:L.length+1≤cap) :
  Calls Tryz.prog 79 #[.slice (some ⟨g,0,none⟩) L.length cap,.int .i64 i,.slice (some ⟨vb,0,none⟩) 1 1] w (z6b base (.slice (some ⟨g,0,none⟩) L.length cap) (L.take i++x::L.drop i) w):=by
 obtain ⟨i0,hi0,hz0,hz1,hz2⟩:=info_parts z5E
 have hD:(cs6 (L.drop i)).length=(L.length-i) * 6:=by rw [z0l,List.length_drop]
 have hfull:=hid (z8o C L x i (by omega) hC (by omega))
 have hsrc:∀ j u,(cs6 (L.drop i))[j]?=some u→C[i * 6+j]?=some u:=by
  intro j u hu
  have hj:=(List.getElem?_eq_some_iff.1 hu).1
  rw [z3X,List.getElem?_drop,← hC,List.getElem?_take] at hu
  split at hu
  ·exact hu
  ·cases hu
 have hov:=fun lb cb=>ze5 g ((i+1) * 6) vb lb cb C.toArray x w hg (by simp;omega) hb hne
 have hcp1:∀ ty dc sc,(Builtin.copy_ #[115,115] ty #[.slice (some ⟨g,(i+1) * 6,none⟩) (L.length-i) dc,.slice (some ⟨g,i * 6,none⟩) (L.length+1-i) sc]).run Tryz.prog w.drew=.ok (goInt (L.length-i:Nat)) (w.drew.setRow g (splice C ((i+1) * 6) (cs6 (L.drop i))).toArray):=fun ty dc sc =>
  z2T w.drew 115 115 ty 92 6 g ((i+1) * 6) (L.length-i) dc ⟨g,i * 6,none⟩ (L.length+1-i) sc (L.length-i) C 92 (cs6 (L.drop i)) Tryz.underlying115 i0 hi0 hz1 hg (by simp only [Nat.min_def];split<;>omega) (by rw [hD]) (z7d (w:=w.drew) hg _ _ hsrc) (by rw [hD];omega) (z4G _)
 have hlen1:(splice C ((i+1) * 6) (cs6 (L.drop i))).length=C.length:=length_splice _ _ _ (by rw [hD];omega)
 have hh1:(w.drew.setRow g (splice C ((i+1) * 6) (cs6 (L.drop i))).toArray).heap[g]?=some (.cells (splice C ((i+1) * 6) (cs6 (L.drop i))).toArray 92 (0,0)):=setRow_heap w.drew g _ _ 92 _ hg
 have hm1:Mod (fun b=>b=g) w (w.drew.setRow g (splice C ((i+1) * 6) (cs6 (L.drop i))).toArray):=((Gr.refl w).drew.mod _).trans (z2v _ g _) (fun _ _ h=>h)
 generalize hw1:w.drew.setRow g (splice C ((i+1) * 6) (cs6 (L.drop i))).toArray=W1 at *
 generalize splice C ((i+1) * 6) (cs6 (L.drop i))=C1 at *
 have hvb1:W1.heap[vb]?=some (.cells (ic x).toArray 92 (0,0)):=(hm1.block vb (Array.getElem?_eq_some_iff.1 hb).1 hne).trans hb
 have hcp2:∀ ty dc,(Builtin.copy_ #[115,115] ty #[.slice (some ⟨g,i * 6,none⟩) (L.length+1-i) dc,.slice (some ⟨vb,0,none⟩) 1 1]).run Tryz.prog W1=.ok (goInt 1) (W1.setRow g (splice C1 (i * 6) (ic x)).toArray):=fun ty dc =>
  z2T W1 115 115 ty 92 6 g (i * 6) (L.length+1-i) dc ⟨vb,0,none⟩ 1 1 1 C1 92 (ic x) Tryz.underlying115 i0 hi0 hz1 hh1 (by simp only [Nat.min_def];split<;>omega) rfl (World.news_of_block (cs:=(ic x).toArray) hvb1) (by rw [hlen1,z0t];omega) (zcf x)
 have hh2:=hid (setRow_heap W1 g _ (splice C1 (i * 6) (ic x)).toArray 92 _ hh1)
 have hm2:=hid (hm1.trans (z2v W1 g (splice C1 (i * 6) (ic x)).toArray) (fun _ _ h=>h))
 have hlen2:(splice C1 (i * 6) (ic x)).length=C.length:=(length_splice _ _ _ (by rw [hlen1,z0t];omega)).trans hlen1
 generalize hw2:W1.setRow g (splice C1 (i * 6) (ic x)).toArray=W2 at *
 generalize splice C1 (i * 6) (ic x)=C2 at *
 have HX:=hid hw1
 have HX2:=hid hw2
 clear hw1 hw2 hsrc hm1 hh1 hvb1 hg hb hD
 have hw1:IntKind.i64.wrap ((i:Int)+1)=(i:Int)+1:=by rw [IntKind.wrap_i64];omega
 have htn:((i:Int)+1).toNat=i+1:=by omega
 have hb1:(0:Int)≤(i:Int)+1:=by omega
 have hb2:¬ (cap=i+1):=by omega
 have hb3:¬ (cap=i):=by omega
 have hb4:¬ ((i:Int)=(L.length:Int)):=by omega
 have hin:i≤L.length:=by omega
 have hb5:(i:Int)≤(L.length:Int)+1:=by omega
 go_enter Tryz.func79,Tryz.ntmps79
 go_wp2_with (simp only [hov])
 go_region_law (refine z4V rfl _ _ 115 115 rfl _ _ (by simp [Act.eval,Act.put]) (by simp [Act.eval,Act.put]) (hcp1 _ _ _) ?_)
 all_goals (
  go_wp2_with (at_builtin;refine z4c _ rfl _ _ 115 115 rfl _ _ rfl rfl (hcp2 _ _) ?_)
  go_ret
  refine ⟨_,rfl,⟨by rw [z0l],.inr ⟨g,cap,C2.toArray,?_,hbg,hh2.o,?_,hcm,by simp;omega,?_⟩⟩,hm2.o.mono (fun _ _ h=>by simp [Value.ownBlock,h]),.inl rfl⟩
  ·simp;omega
  ·simp;omega
  ·rw [show (L.take i++x::L.drop i).length=L.length+1 by simp;omega]
   exact hfull.o)
theorem zeE (w:World):(zeroValue 92).run Tryz.prog w=.ok (.agg #[.int .i64 0,.int .i64 0,.int .i64 0,.int .i64 0,.int .i64 0,.int .i64 0]) w:=by kernel_rfl
theorem z5V (C Z:List Value) (o:Nat) (h:o≤C.length):(splice C o Z).take o=C.take o:=by
 unfold splice
 exact List.take_left' (by rw [List.length_take];omega)
theorem zaZ (C Z:List Value) (L:List It) (i m:Nat) (hi:i<L.length) (hm:m+1=L.length) (hC:C.take (L.length * 6)=cs6 L) (hlen:L.length * 6≤C.length) :
  (splice (splice C (i * 6) (cs6 (L.drop (i+1)))) (m * 6) Z).take (m * 6)=cs6 (L.take i++L.drop (i+1)):=by
 have hO:C.take (i * 6)=cs6 (L.take i):=by rw [z4p,← hC,List.take_take,Nat.min_eq_left (by omega)]
 have hD:(cs6 (L.drop (i+1))).length=(L.length-(i+1)) * 6:=by rw [z0l,List.length_drop]
 have hOl:(cs6 (L.take i)).length=i * 6:=by rw [z0l,List.length_take,Nat.min_eq_left (by omega)]
 have hl1:(splice C (i * 6) (cs6 (L.drop (i+1)))).length=C.length:=length_splice _ _ _ (by rw [hD];omega)
 have e:(splice (splice C (i * 6) (cs6 (L.drop (i+1)))) (m * 6) Z).take (m * 6)=(splice C (i * 6) (cs6 (L.drop (i+1)))).take (m * 6):=by
  exact z5V _ _ _ (by rw [hl1];omega)
 rw [e,z5j]
 unfold splice
 rw [hO,← List.append_assoc,List.take_left' (by rw [List.length_append,hOl,hD];omega)]
set_option maxHeartbeats 600000 in
theorem zau (base i:Nat) (v:Value) (L:List It) (w:World) (h:w.ownsRow base 92 6 v L.length (cs6 L)) (hl:L.length≤1000000) (hi:i<L.length) :
  Calls Tryz.prog 112 #[v,.int .i64 i,.int .i64 ((i:Int)+1)] w (z6b base v (L.take i++L.drop (i+1)) w):=by
 obtain ⟨i0,hi0,hz0,hz1,hz2⟩:=info_parts z5E
 rcases id h.2 with ⟨_,h0⟩ | ⟨g,cap,cur,rfl,hbg,hg',hnc,hcm,hcs,ht⟩
 ·omega
 obtain ⟨C,hC0⟩:∃ C,C=cur.toList:=⟨_,rfl⟩
 have hg:w.heap[g]?=some (.cells C.toArray 92 (0,0)):=by rw [hC0];simpa using hg'
 have hCl:C.length=cap * 6:=by rw [hC0];simpa using hcs
 rw [← hC0] at ht
 clear hC0 hg' hcs h
 have hD:(cs6 (L.drop (i+1))).length=(L.length-(i+1)) * 6:=by rw [z0l,List.length_drop]
 obtain ⟨m,hm⟩:∃ m,i+(L.length-(i+1))=m:=⟨_,rfl⟩
 have hfull:=hid (fun Z=>zaZ C Z L i m hi (by omega) ht (by omega))
 have hsrc:∀ j u,(cs6 (L.drop (i+1)))[j]?=some u→C[(i+1) * 6+j]?=some u:=by
  intro j u hu
  rw [z3X,List.getElem?_drop,← ht,List.getElem?_take] at hu
  split at hu
  ·exact hu
  ·cases hu
 obtain ⟨ad,had⟩:∃ ad,(if cap=i+1 then some (⟨g,0,none⟩:Addr) else some ⟨g,(i+1) * 6,none⟩)=some ad:=by split<;>exact ⟨_,rfl⟩
 have hnews:∀ j u,(cs6 (L.drop (i+1)))[j]?=some u→w.cell? (ad.add j)=some u:=by
  split at had
  ·intro j u hu
   have:=(List.getElem?_eq_some_iff.1 hu).1
   rw [hD] at this
   omega
  ·injection had with had
   subst had
   exact z7d hg _ _ hsrc
 have hap:∀ ty c',(Builtin.append_ #[115,115] ty #[.slice (some ⟨g,0,none⟩) i cap,.slice (some ad) (L.length-(i+1)) c']).run Tryz.prog w.drew=.ok (.slice (some ⟨g,0,none⟩) m cap) (w.drew.setRow g (splice C (i * 6) (cs6 (L.drop (i+1)))).toArray):=fun ty c'=>by
  rw [← hm]
  exact z5R w.drew 115 ty 92 i0 Tryz.underlying115 hi0 6 hz1 g i cap C hg ad (L.length-(i+1)) c' (cs6 (L.drop (i+1))) hD (fun j u hu=>by have:=hnews j u hu;simpa using this) (z4G _) (by omega) (by rw [hD];omega)
 have hlen1:(splice C (i * 6) (cs6 (L.drop (i+1)))).length=C.length:=length_splice _ _ _ (by rw [hD];omega)
 have hh1:(w.drew.setRow g (splice C (i * 6) (cs6 (L.drop (i+1)))).toArray).heap[g]?=some (.cells (splice C (i * 6) (cs6 (L.drop (i+1)))).toArray 92 (0,0)):=setRow_heap w.drew g _ _ 92 _ hg
 have hm1:Mod (fun b=>b=g) w (w.drew.setRow g (splice C (i * 6) (cs6 (L.drop (i+1)))).toArray):=((Gr.refl w).drew.mod _).trans (z2v _ g _) (fun _ _ h=>h)
 generalize hw1:w.drew.setRow g (splice C (i * 6) (cs6 (L.drop (i+1)))).toArray=W1 at *
 generalize splice C (i * 6) (cs6 (L.drop (i+1)))=C1 at *
 have hcl:∀ ty c',(Builtin.clear_ #[115] ty #[.slice (some ⟨g,m * 6,none⟩) 1 c']).run Tryz.prog W1=.ok (.tuple #[]) (W1.setRow g (splice C1 (m * 6) (Builtin.zeroCells (Value.agg #[.int .i64 0,.int .i64 0,.int .i64 0,.int .i64 0,.int .i64 0,.int .i64 0]).cells 1).toList).toArray):=fun ty c' =>
  z4b W1 115 92 ty _ 6 Tryz.underlying115 (zeE W1) rfl (by intro v hv;simp [Value.cells] at hv;rcases hv with rfl;rfl) g (m * 6) 1 c' (by omega) C1 92 hh1 (by omega)
 have hh2:=hid (setRow_heap W1 g _ (splice C1 (m * 6) (Builtin.zeroCells (Value.agg #[.int .i64 0,.int .i64 0,.int .i64 0,.int .i64 0,.int .i64 0,.int .i64 0]).cells 1).toList).toArray 92 _ hh1)
 have hm2:=hid (hm1.trans (z2v W1 g (splice C1 (m * 6) (Builtin.zeroCells (Value.agg #[.int .i64 0,.int .i64 0,.int .i64 0,.int .i64 0,.int .i64 0,.int .i64 0]).cells 1).toList).toArray) (fun _ _ h=>h))
 have hlen2:(splice C1 (m * 6) (Builtin.zeroCells (Value.agg #[.int .i64 0,.int .i64 0,.int .i64 0,.int .i64 0,.int .i64 0,.int .i64 0]).cells 1).toList).length=C.length:=(length_splice _ _ _ (by rw [Array.length_toList,size_zeroCells];simp only [Value.cells];show _+1 * 6≤_;omega)).trans hlen1
 have hfull2:=hid (hfull.o (Builtin.zeroCells (Value.agg #[.int .i64 0,.int .i64 0,.int .i64 0,.int .i64 0,.int .i64 0,.int .i64 0]).cells 1).toList)
 clear hfull
 generalize hw2:W1.setRow g (splice C1 (m * 6) (Builtin.zeroCells (Value.agg #[.int .i64 0,.int .i64 0,.int .i64 0,.int .i64 0,.int .i64 0,.int .i64 0]).cells 1).toList).toArray=W2 at *
 generalize splice C1 (m * 6) (Builtin.zeroCells (Value.agg #[.int .i64 0,.int .i64 0,.int .i64 0,.int .i64 0,.int .i64 0,.int .i64 0]).cells 1).toList=C2 at *
 have HX:=hid hw1
 have HX2:=hid hw2
 have HM:=hid hm
 clear hw1 hw2 hsrc hm1 hh1 hg hD hnews
 have hma:m+1≤L.length:=by omega
 have hmb:L.length≤m+1:=by omega
 clear hm
 have hn1:L.length-m=1:=by omega
 have hmn:m≤L.length:=by omega
 have hw1:IntKind.i64.wrap ((i:Int)+1)=(i:Int)+1:=by rw [IntKind.wrap_i64];omega
 have htn:((i:Int)+1).toNat=i+1:=by omega
 have hb1:(0:Int)≤(i:Int)+1:=by omega
 have hb2:¬ (cap=m):=by omega
 have hb4:¬ ((i:Int)=(i:Int)+1):=by omega
 have hb5:(i:Int)+1≤(L.length:Int):=by omega
 have hb6:i+1≤L.length:=by omega
 have hin:i≤L.length:=by omega
 have hcn:L.length≤cap:=by omega
 have hic:i≤cap:=by omega
 go_enter Tryz.func112,Tryz.ntmps112
 go_wp2_with fail
 go_region_law (refine z0s (by rfl) (.tmp 22) (.tmp 25) 115 115 (by rfl) (.slice (some ⟨g,0,none⟩) i cap) (.slice (some ad) (L.length-(i+1)) (cap-(i+1))) (by rfl) (by rfl) (hap _ _) ?_)
 all_goals (
  go_wp2_with (at_builtin;refine z3V _ rfl _ 115 rfl _ rfl (hcl _ _) ?_)
  go_ret
  have e:=HM.o
  refine ⟨_,rfl,⟨by rw [z0l],.inr ⟨g,cap,C2.toArray,?_,hbg,hh2.o,?_,hcm,by simp;omega,?_⟩⟩,hm2.o.mono (fun _ _ h=>by simp [Value.ownBlock,h]),.inl rfl⟩
  ·simp;omega
  ·simp;omega
  ·rw [show (L.take i++L.drop (i+1)).length=m by simp;omega]
   exact hfull2.o)
def gone (flow run:Int) (x:It):Bool:=(x.2.1==flow) && (x.2.2.1==run)
theorem zgn (flow run a b c d e f:Int) (B1 B2:Nat) (w:World) (h1:w.cell? ⟨B1,0,none⟩=some (.int .i64 flow)) (h2:w.cell? ⟨B2,0,none⟩=some (.int .i64 run)) :
  Calls Tryz.prog 191 #[.agg #[.int .i64 a,.int .i64 b,.int .i64 c,.int .i64 d,.int .i64 e,.int .i64 f],.pointer (some ⟨B1,0,none⟩),.pointer (some ⟨B2,0,none⟩)] w (RetE (.bool (gone flow run (a,b,c,d,e,f))) w):=by
 have l1:=World.block_lt_of_cell? w _ h1
 have l2:=World.block_lt_of_cell? w _ h2
 simp only at l1 l2
 refine retE ?_
 unfold gone
 simp only
 cases hb:b==flow
 ·rw [Bool.false_and]
  go_enter Tryz.func191,Tryz.ntmps191
  go_wp2_with fail
  go_ret
  exact ⟨rfl,(Gr.refl w).alloc _⟩
 ·rw [Bool.true_and]
  go_enter Tryz.func191,Tryz.ntmps191
  go_wp2_with fail
  go_ret
  exact ⟨rfl,(Gr.refl w).alloc _⟩
set_option maxHeartbeats 1000000 in
theorem zcg (flow run:Int) (A:Option Addr) (cp:Nat) (L:List It) (B1 B2:Nat) (w:World) (hr:Row w A L) (hl:L.length≤4398046511103) (h1:w.cell? ⟨B1,0,none⟩=some (.int .i64 flow)) (h2:w.cell? ⟨B2,0,none⟩=some (.int .i64 run)) :
  Calls Tryz.prog 203 #[.slice A L.length cp,.func (.func 191) #[] #[.pointer (some ⟨B1,0,none⟩),.pointer (some ⟨B2,0,none⟩)]] w
   (fun en w'=>∃ r,en=.returned (.int .i64 r)∧Gr w w'∧((r=-1∧∀ x∈L,gone flow run x=false)∨∃ i:Nat,r=i∧i<L.length∧gone flow run (L.getD i z0)=true∧∀ j,j<i→gone flow run (L.getD j z0)=false)):=by
 have HR:=hid hr
 have H1:=hid h1
 have H2:=hid h2
 have l1:=World.block_lt_of_cell? w _ h1
 have l2:=World.block_lt_of_cell? w _ h2
 simp only at l1 l2
 clear hr h1 h2
 go_enter Tryz.func203,Tryz.ntmps203
 go_wp2_with fail
 go_loopw [5,8] (fun _ i wr=>∃ k:Nat,k≤L.length∧i=.int .i64 k∧Gr w wr∧∀ j,j<k→gone flow run (L.getD j z0)=false) (fun _ i _=>L.length-(intOf i).toNat)
 case atStart=>exact ⟨0,Nat.zero_le _,rfl,Gr.refl _,fun j hj=>absurd hj (by omega)⟩
 case round =>
  obtain ⟨k,hk,rfl,hg,hall⟩:=hrel
  have HG:=hid hg
  have HA:=hid hall
  clear hg hall
  by_cases hlt:k<L.length
  ·obtain ⟨bb,off,rfl,hbb,c0,c1,c2,c3,c4,c5⟩:=(HR.o.gr HG.o).at_ hlt
   obtain ⟨⟨a,b,c,d,e,f⟩,hy⟩:∃ y,L.getD k z0=y:=⟨_,rfl⟩
   rw [hy] at c0 c1 c2 c3 c4 c5
   simp only at c0 c1 c2 c3 c4 c5
   have HY:=hid hy
   clear hy
   have HGN:=hid (zgn flow run a b c d e f B1 B2 wr ((HG.o.cell (p:=⟨B1,0,none⟩) l1).trans H1.o) ((HG.o.cell (p:=⟨B2,0,none⟩) l2).trans H2.o))
   cases hgn:gone flow run (a,b,c,d,e,f)
   ·rw [hgn] at HGN
    have HN:=hid hgn
    clear hgn
    go_wp2_with (first | (go_at_fn 36;refine HGN.o.mono ?_;rintro en _ ⟨rfl,y1,rfl⟩) | (go_at_call 191;refine HGN.o.mono ?_;rintro en _ ⟨rfl,y1,rfl⟩))
    go_roundw
    case rel=>exact ⟨k+1,by omega,by go_num,HG.o.ext y1,fun j hj=>by
     rcases Nat.lt_or_ge j k with h | h
     ·exact HA.o j h
     ·rw [show j=k by omega,HY.o];exact HN.o⟩
    case measure=>simp [intOf];omega
   ·rw [hgn] at HGN
    have HN:=hid hgn
    clear hgn
    go_wp2_with (first | (go_at_fn 36;refine HGN.o.mono ?_;rintro en _ ⟨rfl,y1,rfl⟩) | (go_at_call 191;refine HGN.o.mono ?_;rintro en _ ⟨rfl,y1,rfl⟩))
    go_ret
    exact ⟨_,rfl,HG.o.ext y1,.inr ⟨k,rfl,hlt,by rw [HY.o];exact HN.o,HA.o⟩⟩
  ·go_wp2_with fail
   go_ret
   refine ⟨_,rfl,HG.o,.inl ⟨rfl,fun x hx=>?_⟩⟩
   obtain ⟨j,hj,rfl⟩:=List.getElem_of_mem hx
   have:=HA.o j (by omega)
   simpa [List.getD,hj] using this
set_option maxHeartbeats 600000 in
theorem z8T (base vb g cap i:Nat) (C:List Value) (L:List It) (x:It) (w:World) (hg:w.heap[g]?=some (.cells C.toArray 92 (0,0))) (hC:C.take (L.length * 6)=cs6 L)
  (hb:w.heap[vb]?=some (.cells (ic x).toArray 92 (0,0))) (hl:L.length≤1000000) (hi:i<L.length) (hnc:L.length≤cap) (hroom:cap<L.length+1) (hbase:base≤w.heap.size) :
  Calls Tryz.prog 79 #[.slice (some ⟨g,0,none⟩) L.length cap,.int .i64 i,.slice (some ⟨vb,0,none⟩) 1 1] w (z6b base (.slice (some ⟨g,0,none⟩) L.length cap) (L.take i++x::L.drop i) w):=by
 obtain ⟨i0,hi0,hz0,hz1,hz2⟩:=info_parts z5E
 have hlt:g<w.heap.size:=(Array.getElem?_eq_some_iff.1 hg).1
 have hD:(cs6 (L.drop i)).length=(L.length-i) * 6:=by rw [z0l,List.length_drop]
 have hOl:(cs6 (L.take i)).length=i * 6:=by rw [z0l,List.length_take,Nat.min_eq_left (by omega)]
 have hsrc:∀ j u,(cs6 (L.drop i))[j]?=some u→C[i * 6+j]?=some u:=by
  intro j u hu
  have hj:=(List.getElem?_eq_some_iff.1 hu).1
  rw [z3X,List.getElem?_drop,← hC,List.getElem?_take] at hu
  split at hu
  ·exact hu
  ·cases hu
 have hsrc0:∀ j u,(cs6 (L.take i))[j]?=some u→C[0+j]?=some u:=by
  intro j u hu
  rw [z4p,← hC,List.take_take,List.getElem?_take] at hu
  split at hu
  ·rwa [Nat.zero_add]
  ·cases hu
 have hkk:(L.length:Int)+1-(i:Int)=((L.length+1-i:Nat):Int):=by omega
 have hold:(Builtin.firstCells i0.size i (.slice (some ⟨g,0,none⟩) i cap)).run Tryz.prog w.drew=.ok (cs6 (L.take i)).toArray w.drew:=by
  rw [hz1]
  exact run_firstCells_some w.drew 6 i ⟨g,0,none⟩ i cap _ hOl (z7d (w:=w.drew) hg _ _ hsrc0)
 have hG1:=grownCap_ge w (L.length+1) cap 92
 have hG2:=grownCap_le_maxLen w (L.length+1) cap 92 (by unfold maxLen;omega)
 have hap:∀ ty,(Builtin.append_ #[115,3] ty #[.slice (some ⟨g,0,none⟩) i cap,.int .i64 ((L.length:Int)+1-(i:Int))]).run Tryz.prog w=.ok (.slice (some ⟨w.heap.size,0,none⟩) (i+(L.length+1-i)) (grownCap w (i+(L.length+1-i)) cap 92)) (w.drew.alloc (.cells ((cs6 (L.take i)).toArray++Builtin.zeroCells (Value.agg #[.int .i64 0,.int .i64 0,.int .i64 0,.int .i64 0,.int .i64 0,.int .i64 0]).cells (L.length+1-i)++Builtin.zeroCells (Value.agg #[.int .i64 0,.int .i64 0,.int .i64 0,.int .i64 0,.int .i64 0,.int .i64 0]).cells (grownCap w (i+(L.length+1-i)) cap 92-(i+(L.length+1-i)))) 92)):=fun ty=>by
  rw [hkk]
  exact Lib.run_append_grow_zeros w 115 3 ty 92 i0 _ .i64 .i64 Tryz.underlying115 Tryz.underlying3 hi0 hz0 (some ⟨g,0,none⟩) i cap _ hold (L.length+1-i) (by omega) (by omega) (by omega) (by omega) (by rw [hz2];omega) (by rw [hz2,show i+(L.length+1-i)=L.length+1 by omega];exact growslice_fits hroom (by omega))
 rw [show i+(L.length+1-i)=L.length+1 by omega] at hap
 obtain ⟨Z,hZ⟩:∃ Z,Z=(Builtin.zeroCells (Value.agg #[.int .i64 0,.int .i64 0,.int .i64 0,.int .i64 0,.int .i64 0,.int .i64 0]).cells (L.length+1-i)).toList++(Builtin.zeroCells (Value.agg #[.int .i64 0,.int .i64 0,.int .i64 0,.int .i64 0,.int .i64 0,.int .i64 0]).cells (grownCap w (L.length+1) cap 92-(L.length+1))).toList:=⟨_,rfl⟩
 have hZl:Z.length=(grownCap w (L.length+1) cap 92-i) * 6:=by
  rw [hZ]
  simp only [List.length_append,Array.length_toList,size_zeroCells,Value.cells]
  show (L.length+1-i) * 6+_ * 6=_
  omega
 have hZe:(cs6 (L.take i)).toArray++Builtin.zeroCells (Value.agg #[.int .i64 0,.int .i64 0,.int .i64 0,.int .i64 0,.int .i64 0,.int .i64 0]).cells (L.length+1-i)++Builtin.zeroCells (Value.agg #[.int .i64 0,.int .i64 0,.int .i64 0,.int .i64 0,.int .i64 0,.int .i64 0]).cells (grownCap w (L.length+1) cap 92-(L.length+1))=(cs6 (L.take i)++Z).toArray:=by
  rw [hZ]
  apply Array.ext'
  simp
 rw [hZe] at hap
 clear hZe hZ
 generalize grownCap w (L.length+1) cap 92=G at *
 have hfull:=hid (z9b Z L x i (by omega) (by rw [hZl];exact Nat.mul_le_mul_right _ (by omega)))
 obtain ⟨H,hH⟩:∃ H,H=w.heap.size:=⟨_,rfl⟩
 have hh0:(w.drew.alloc (.cells (cs6 (L.take i)++Z).toArray 92)).heap[H]?=some (.cells (cs6 (L.take i)++Z).toArray 92 (0,0)):=by rw [hH];exact heap_alloc_new w.drew _
 have hg0:Gr w (w.drew.alloc (.cells (cs6 (L.take i)++Z).toArray 92)):=(Gr.refl w).drew.alloc _
 have hl0:(cs6 (L.take i)++Z).length=G * 6:=by rw [List.length_append,hOl,hZl,← Nat.add_mul];congr 1;omega
 rw [← hH] at hap
 generalize hw0:w.drew.alloc (.cells (cs6 (L.take i)++Z).toArray 92)=W0 at *
 generalize cs6 (L.take i)++Z=C0 at *
 have hb0:W0.heap[vb]?=some (.cells (ic x).toArray 92 (0,0)):=(hg0.block vb (Array.getElem?_eq_some_iff.1 hb).1).trans hb
 have hg00:W0.heap[g]?=some (.cells C.toArray 92 (0,0)):=(hg0.block g hlt).trans hg
 have hcp1:∀ ty dc,(Builtin.copy_ #[115,115] ty #[.slice (some ⟨H,i * 6,none⟩) (L.length+1-i) dc,.slice (some ⟨vb,0,none⟩) 1 1]).run Tryz.prog W0=.ok (goInt 1) (W0.setRow H (splice C0 (i * 6) (ic x)).toArray):=fun ty dc =>
  z2T W0 115 115 ty 92 6 H (i * 6) (L.length+1-i) dc ⟨vb,0,none⟩ 1 1 1 C0 92 (ic x) Tryz.underlying115 i0 hi0 hz1 hh0 (by simp only [Nat.min_def];split<;>omega) rfl (World.news_of_block (cs:=(ic x).toArray) hb0) (by rw [hl0,z0t];omega) (zcf x)
 have hl1:(splice C0 (i * 6) (ic x)).length=G * 6:=(length_splice _ _ _ (by rw [hl0,z0t];omega)).trans hl0
 have hh1:=setRow_heap W0 H _ (splice C0 (i * 6) (ic x)).toArray 92 _ hh0
 have hm1:=z2v W0 H (splice C0 (i * 6) (ic x)).toArray
 have hg1:(W0.setRow H (splice C0 (i * 6) (ic x)).toArray).heap[g]?=some (.cells C.toArray 92 (0,0)):=(hm1.block g (Nat.lt_of_lt_of_le hlt hg0.size) (by omega)).trans hg00
 generalize hw1:W0.setRow H (splice C0 (i * 6) (ic x)).toArray=W1 at *
 generalize splice C0 (i * 6) (ic x)=C1 at *
 have hcp2:∀ ty dc sc,(Builtin.copy_ #[115,115] ty #[.slice (some ⟨H,(i+1) * 6,none⟩) (L.length-i) dc,.slice (some ⟨g,i * 6,none⟩) (L.length-i) sc]).run Tryz.prog W1.drew=.ok (goInt (L.length-i:Nat)) (W1.drew.setRow H (splice C1 ((i+1) * 6) (cs6 (L.drop i))).toArray):=fun ty dc sc =>
  z2T W1.drew 115 115 ty 92 6 H ((i+1) * 6) (L.length-i) dc ⟨g,i * 6,none⟩ (L.length-i) sc (L.length-i) C1 92 (cs6 (L.drop i)) Tryz.underlying115 i0 hi0 hz1 hh1 (by simp only [Nat.min_def];split<;>omega) (by rw [hD]) (z7d (w:=W1.drew) hg1 _ _ hsrc) (by rw [hD,hl1];omega) (z4G _)
 have hl2:(splice C1 ((i+1) * 6) (cs6 (L.drop i))).length=G * 6:=(length_splice _ _ _ (by rw [hD,hl1];omega)).trans hl1
 have hh2:=hid (setRow_heap W1.drew H _ (splice C1 ((i+1) * 6) (cs6 (L.drop i))).toArray 92 _ hh1)
 have hm2:=hid (hm1.trans (((Gr.refl W1).drew.mod fun b=>b=H).trans (z2v W1.drew H (splice C1 ((i+1) * 6) (cs6 (L.drop i))).toArray) (fun _ _ h=>h)) (fun _ _ h=>h))
 generalize hw2:W1.drew.setRow H (splice C1 ((i+1) * 6) (cs6 (L.drop i))).toArray=W2 at *
 generalize splice C1 ((i+1) * 6) (cs6 (L.drop i))=C2 at *
 have HX0:=hid hw0
 have HX1:=hid hw1
 have HX2:=hid hw2
 have HG0:=hid hg0
 have HH:=hid hH
 clear hkk hw0 hw1 hw2 hg0 hg1 hg00 hh0 hh1 hm1 hb0 hsrc hsrc0 hold hg hb hD hH hZl
 have hw1:IntKind.i64.wrap ((i:Int)+1)=(i:Int)+1:=by rw [IntKind.wrap_i64];omega
 have htn:((i:Int)+1).toNat=i+1:=by omega
 have hb1:(0:Int)≤(i:Int)+1:=by omega
 have hb2:¬ (G=i+1):=by omega
 have hb3:¬ (G=i):=by omega
 have hb6:¬ (cap=i):=by omega
 have hb4:¬ ((i:Int)=(L.length:Int)):=by omega
 have hin:i≤L.length:=by omega
 have hb5:(i:Int)≤(L.length:Int)+1:=by omega
 go_enter Tryz.func79,Tryz.ntmps79
 go_wp2_with (first | (at_builtin;refine z2O _ rfl _ _ 115 3 rfl _ _ rfl rfl (hap _) ?_) | (at_builtin;refine z4c _ rfl _ _ 115 115 rfl _ _ rfl rfl (hcp1 _ _) ?_))
 go_region_law (refine z4V rfl _ _ 115 115 rfl _ _ (by simp [Act.eval,Act.put]) (by simp [Act.eval,Act.put]) (hcp2 _ _ _) ?_)
 all_goals (
  go_wp2_with fail
  go_ret
  have e:=HH.o
  refine ⟨_,rfl,⟨by rw [z0l],.inr ⟨H,G,C2.toArray,?_,by omega,hh2.o,?_,hG2,by simp;omega,?_⟩⟩,?_,.inr ⟨H,rfl,by omega⟩⟩
  ·simp;omega
  ·simp;omega
  ·rw [show (L.take i++x::L.drop i).length=L.length+1 by simp;omega]
   exact hfull.o
  ·exact (HG0.o.mod _).trans hm2.o (fun b hb e=>by omega))
theorem zaG (base vb i:Nat) (v:Value) (L:List It) (x:It) (w:World) (h:w.ownsRow base 92 6 v L.length (cs6 L)) (hb:w.heap[vb]?=some (.cells (ic x).toArray 92 (0,0))) (hne:v.ownBlock≠some vb) (hl:L.length≤1000000) (hi:i≤L.length) (hbase:base≤w.heap.size) :
  Calls Tryz.prog 79 #[v,.int .i64 i,.slice (some ⟨vb,0,none⟩) 1 1] w (z6b base v (L.take i++x::L.drop i) w):=by
 rcases Nat.lt_or_ge i L.length with hlt | hge
 ·rcases id h.2 with ⟨_,h0⟩ | ⟨g,cap,cur,rfl,hbg,hg,hnc,hcm,hcs,ht⟩
  ·omega
  ·have hne':vb≠g:=fun e=>hne (by rw [e];rfl)
   have hgl:w.heap[g]?=some (.cells cur.toList.toArray 92 (0,0)):=by simpa using hg
   rcases Nat.lt_or_ge cap (L.length+1) with hr | hr
   ·exact z8T base vb g cap i cur.toList L x w hgl ht hb hl hlt hnc hr hbase
   ·exact z87 base vb g cap i cur.toList L x w hgl hbg hcm (by simpa using hcs) ht hb hne' hl hlt hr
 ·have e:i=L.length:=by omega
  subst e
  have:=zaH base vb v L x w h hb hl hbase
  simpa using this
def RetH (base g:Nat) (v:Value) (L':List It) (r:Value) (w:World) (e:Ending) (w':World):Prop :=
 ∃ v',e=.returned r∧HB base w' g v' L'∧Mod (fun k=>k=g∨some k=v.ownBlock) w w'∧(v'.ownBlock=v.ownBlock∨∃ k,v'.ownBlock=some k∧w.heap.size≤k)
theorem HB.set {base g:Nat} {v v':Value} {L':List It} {w:World} (hlo:base≤g) (hc:w.heap[g]?=some (.cells #[v] 132 (0,0))) (hr:w.ownsRow base 92 6 v' L'.length (cs6 L')):HB base (w.setCell ⟨g,0,none⟩ v') g v' L':=by
 have hlt:g<w.heap.size:=(Array.getElem?_eq_some_iff.1 hc).1
 have m:=((Gr.refl w).mod (fun b=>b=g)).set (p:=⟨g,0,none⟩) (fun _=>rfl) v'
 have hne:∀ k,v'.ownBlock=some k→k≠g:=by
  rintro k e rfl
  rcases hr.2 with ⟨rfl,_⟩ | ⟨g',cap,cur,rfl,_,hh,_⟩
  ·simp [Value.ownBlock] at e
  ·simp [Value.ownBlock] at e;subst e;rw [hc] at hh;injection hh with hh;injection hh with _ ht _;cases ht
 refine ⟨hlo,?_,hr.1,?_⟩
 ·have:=setCell_eq_setRow w g 0 #[v] 132 (0,0) v' hc
  rw [this]
  exact setRow_heap w g _ _ 132 _ hc
 ·rcases hr.2 with h3 | ⟨g',cap,cur,hv,hb,hh,r⟩
  ·exact .inl h3
  ·exact .inr ⟨g',cap,cur,hv,hb,(m.block g' (Array.getElem?_eq_some_iff.1 hh).1 (hne g' (by rw [hv];rfl))).trans hh,r⟩
def addF (L:List It) (x:It):List It:=if has L x then L else ins L x
set_option maxHeartbeats 1000000 in
theorem z6D (base g:Nat) (v:Value) (L:List It) (x:It) (w:World) (h:HB base w g v L) (hs:Srt L) (hl:L.length≤1000000) (hbase:base≤w.heap.size) :
    Calls Tryz.prog 44 #[.pointer (some ⟨g,0,none⟩),iv x] w (RetH base g v (addF L x) (.bool (!has L x)) w):=by
  obtain ⟨A,cp,rfl⟩:=h.shape
  have HF:=hid (fun W (y:Gr w W)=>z9K base g _ L x W (h.gr y) hs (by omega))
  have H:=hid h
  have hpl:=za2 L x
  have HI:=hid (show ins L x=L.take (pos L x)++x::L.drop (pos L x) from rfl)
  have hlt:=h.lt
  unfold addF
  generalize pos L x=p at *
  clear h hs
  obtain ⟨res,hres⟩:∃ res,has L x=res:=⟨_,rfl⟩
  rw [hres] at HF ⊢
  clear hres
  generalize ins L x=L' at *
  obtain ⟨a,b,c,d,e,f⟩:=x
  simp only [iv] at HF ⊢
  cases res
  · go_enter Tryz.func44,Tryz.ntmps44
    go_wp2_with (go_at_call 78; refine (HF.o _ ((Gr.refl w).alloc _)).mono ?_; rintro e _ ⟨rfl, y1, rfl⟩
                 have G1:=hid (show Gr w y1.val from ((Gr.refl w).alloc _).ext y1)
                 obtain ⟨b0,b1,b2,b3,b4,b5,hbl⟩:=box6 (Gr.ext (Gr.refl _) y1)
                 have c0:y1.val.cell? ⟨g,0,none⟩=some (.slice A L.length cp):=(G1.o.cell hlt).trans H.o.c0
                 have hlt1:g<y1.val.heap.size:=Nat.lt_of_lt_of_le hlt G1.o.size
                 have H1:=hid (H.o.gr G1.o)
                 have hb1:base≤y1.val.heap.size:=Nat.le_trans hbase G1.o.size)
    go_region_law (go_simp; go_at_call 79
                   refine (zaG base y1.val.heap.size p (.slice A L.length cp) L (a,b,c,d,e,f) _ (H1.o.gr ((Gr.refl _).drew.alloc _)).row (by exact heap_alloc_new y1.val.drew _) (by intro e;have:=(H1.o.row.lt _ e).2;omega) hl hpl (by simp;omega)).mono ?_
                   rintro e w2 ⟨v2,rfl,hr2,hm2,hw2⟩
                   have HR2:=hid hr2
                   have HM2:=hid hm2
                   have HW2:=hid hw2
                   clear hr2 hm2 hw2
                   have HC2:=hid (show w2.heap[g]?=some (.cells #[.slice A L.length cp] 132 (0,0)) from (HM2.o.block g (by simp;omega) H1.o.ne).trans (H1.o.gr ((Gr.refl _).drew.alloc _)).cell)
                   have k0:w2.cell? ⟨g,0,none⟩=some (.slice A L.length cp):=by simp [World.cell?,HC2.o]
                   have f0:w2.frozen? ⟨g,0,none⟩=false:=by simp [World.frozen?,HC2.o]
                   have hsh:∃ A2 n2 c2,v2=.slice A2 n2 c2:=by
                     rcases HR2.o.2 with ⟨rfl,_⟩ | ⟨g',cap,cur,rfl,_⟩
                     · exact ⟨_,_,_,rfl⟩
                     · exact ⟨_,_,_,rfl⟩
                   obtain ⟨A2,n2,c2,rfl⟩:=hsh)
    all_goals (
      go_wp2_with fail
      go_ret
      rw [← HI.o] at HR2
      refine ⟨_,rfl,HB.set H1.o.lo HC2.o HR2.o,?_,?_⟩
      · have M:=(((G1.o.trans ((Gr.refl _).drew.alloc _)).mod (fun k=>k=g∨some k=(Value.slice A L.length cp).ownBlock)).trans HM2.o (fun _ _ h=>.inr h))
        exact M.set (fun _=>.inl rfl) _
      · rcases HW2.o with h | ⟨k,h1,h2⟩
        · exact .inl h
        · refine .inr ⟨k,h1,?_⟩
          have:=G1.o.size
          simp at h2
          omega)
  · go_enter Tryz.func44,Tryz.ntmps44
    go_wp2_with (go_at_call 78; refine (HF.o _ ((Gr.refl w).alloc _)).mono ?_; rintro e _ ⟨rfl, y1, rfl⟩
                 have G1:=hid (show Gr w y1.val from ((Gr.refl w).alloc _).ext y1))
    go_ret
    exact ⟨_,rfl,H.o.gr G1.o,G1.o.mod _,.inl rfl⟩
end Go.Proofs.YtniknicnnaiilaaGreat
end
