/- Lemmas of the engine. -/
import Derived.Shelf.SlGeneric
import Derived.Shelf.SlIterI.Nil
import Derived.Shelf.SortM.Plain
import Derived.Shelf.SortM.SortNone
import Derived.Test.YtniknicnnaiilaaGreatX22
import Derived.Test.YtniknicnnaiilaaGreatX30
import Derived.Test.YtniknicnnaiilaaGreatGrows2
import Derived.Test.YtniknicnnaiilaaGreatGrows4
section
namespace Go.Proofs.YtniknicnnaiilaaGreat
set_option maxRecDepth 100000
open Go.RowKit Go.Ext Go.BigFrame Go.Maps Go.MapKept
attribute [local go_sem] Ext.cell Ext.frozen Ext.lt Ext.le s1 s2 s3 s4 s5 s6 t1 t2 t3 t4 t5 t6
attribute [local go_sem ↓] Go.wp_at_zero Go.wp_at_succ
theorem Lw.old2 {w0 w1 w:World} {M S:Bl} {k n:Nat} {E:ES} (h:Lw w1 w M S k E n) (g:Gr w0 w1):Lw w0 w M S k E n :=
 ⟨⟨h.law.eng,h.law.e1,g.trans h.law.g,fun b e=>Nat.le_trans g.size (h.law.s b e)⟩,fun b e=>Nat.le_trans g.size (h.m b e)⟩
theorem Lw.upF {w0 w:World} {M S:Bl} {k n:Nat} {E:ES} (h:Lw w0 w M S k E n):Up (fun _=>False) w0 M w:=⟨h.law.g.mod _,fun b hb e=>by have:=h.m b e;omega⟩
theorem z7i {w:World} {B:Nat} {ty:TypeId} {a b c d a' b' c' d':Value} (h:w.heap[B]?=some (.cells #[a,b,c,d] ty (0,0))) :
  ∃ w',(((w.setCell ⟨B,0,none⟩ a').setCell ⟨B,1,none⟩ b').setCell ⟨B,2,none⟩ c').setCell ⟨B,3,none⟩ d'=w'∧Mod (fun x=>x=B) w w'∧w'.heap[B]?=some (.cells #[a',b',c',d'] ty (0,0)):=by
 refine ⟨_,rfl,z0c (z0c (z0c (z0c ((Gr.refl w).mod _)))),?_⟩
 have:=z02 (j:=3) (z02 (j:=2) (z02 (j:=1) (z02 (j:=0) h a') b') c') d'
 simpa only [List.setIfInBounds_toArray,List.set_cons_zero,List.set_cons_succ] using this
theorem z7h {w:World} {B:Nat} {ty:TypeId} {a b c d e f g h i j k l m f' g' h' i':Value} (hh:w.heap[B]?=some (.cells #[a,b,c,d,e,f,g,h,i,j,k,l,m] ty (0,0))) :
  ∃ w',(((w.setCell ⟨B,5,none⟩ f').setCell ⟨B,6,none⟩ g').setCell ⟨B,7,none⟩ h').setCell ⟨B,8,none⟩ i'=w'∧Mod (fun x=>x=B) w w'∧w'.heap[B]?=some (.cells #[a,b,c,d,e,f',g',h',i',j,k,l,m] ty (0,0)):=by
 refine ⟨_,rfl,z0c (z0c (z0c (z0c ((Gr.refl w).mod _)))),?_⟩
 have:=z02 (j:=8) (z02 (j:=7) (z02 (j:=6) (z02 (j:=5) hh f') g') h') i'
 simpa only [List.setIfInBounds_toArray,List.set_cons_zero,List.set_cons_succ] using this
structure Oc (w0 w:World) (M S:Bl) (k bt mb:Nat) (E:ES) (n:Nat) (t:Tok) (Sn:Tok→Bool) (m:Nat):Prop where
 lw:Lw w0 w M S k E n
 j:EJ E
 tok:z60 t
 cells:w.heap[bt]?=some (.cells #[.int .i64 t.flow,.int .i64 t.run,.int .i64 t.event,.int .i64 t.turn] 28 (0,0))
 map:MT w mb m Sn
 mt:M bt
 st:¬ S bt
 mm:M mb
 sm:¬ S mb
 ne:mb≠bt
 seen:∀ x,Sn x=true→Seen E x
section
variable {w0 w w' w2:World} {M S M2 S2:Bl} {k bt mb n m:Nat} {E E':ES} {t:Tok} {Sn:Tok→Bool}
end
theorem z4F {W:World} {B:Nat} {t:TypeId} {a b c d e f g h i j k l m:Value} (hh:W.heap[B]?=some (.cells #[a,b,c,d,e,f,g,h,i,j,k,l,m] t (0,0))) :
  W.cell? ⟨B,0,none⟩=some a∧W.cell? ⟨B,1,none⟩=some b∧W.cell? ⟨B,2,none⟩=some c∧W.cell? ⟨B,3,none⟩=some d∧W.cell? ⟨B,4,none⟩=some e∧W.cell? ⟨B,5,none⟩=some f∧W.cell? ⟨B,6,none⟩=some g∧W.cell? ⟨B,7,none⟩=some h∧W.cell? ⟨B,8,none⟩=some i∧W.cell? ⟨B,9,none⟩=some j∧W.cell? ⟨B,10,none⟩=some k∧W.cell? ⟨B,11,none⟩=some l∧W.cell? ⟨B,12,none⟩=some m:=by
 refine ⟨?_,?_,?_,?_,?_,?_,?_,?_,?_,?_,?_,?_,?_⟩<;>simp [World.cell?,hh]
end Go.Proofs.YtniknicnnaiilaaGreat
end
section
namespace Go.Proofs.YtniknicnnaiilaaGreat
set_option maxRecDepth 100000
open Go.RowKit Go.Ext Go.BigFrame Go.Maps Go.MapKept
attribute [local go_sem] Ext.cell Ext.frozen Ext.lt Ext.le s1 s2 s3 s4 s5 s6 t1 t2 t3 t4 t5 t6
attribute [local go_sem ↓] Go.wp_at_zero Go.wp_at_succ
structure Gc (w0 w:World) (M S:Bl) (k bt m1 m2:Nat) (E:ES) (n:Nat) (t:Tok) (rf:Int→Int) (wf:Int→List Ev):Prop where
 lw:Lw w0 w M S k E n
 ec:EC E
 cells:w.heap[bt]?=some (.cells #[.int .i64 t.flow,.int .i64 t.run,.int .i64 t.event,.int .i64 t.turn] 28 (0,0))
 r:∃ kv,MI w m1 kv∧∀ x,(lk kv x).getD (.int .i64 0)=.int .i64 (rf x)
 e:∃ kv,MI w m2 kv∧∀ x,z08 evR w M ((lk kv x).getD (.slice none 0 0)) (wf x)
 mt:M bt
 st:¬ S bt
 mm1:M m1
 sm1:¬ S m1
 mm2:M m2
 sm2:¬ S m2
 n12:m1≠m2
 n1:m1≠bt
 n2:m2≠bt
 told:Tld rf wf E
section
variable {w0 w w' w2:World} {M S M2 S2:Bl} {k bt m1 m2 n:Nat} {E E':ES} {t:Tok} {rf:Int→Int} {wf:Int→List Ev}
theorem Gc.lt1 (h:Gc w0 w M S k bt m1 m2 E n t rf wf):m1<w.heap.size:=by
 obtain ⟨kv,h1,_⟩:=h.r
 exact h1.lt
theorem Gc.lt2 (h:Gc w0 w M S k bt m1 m2 E n t rf wf):m2<w.heap.size:=by
 obtain ⟨kv,h1,_⟩:=h.e
 exact h1.lt
theorem Gc.mv {n':Nat} (h:Gc w0 w M S k bt m1 m2 E n t rf wf) (hl:Lw w0 w2 M2 S2 k E' n') (hc:EC E') (ht:Tld rf wf E') (u:Up M w M2 w2) (ms:∀ b,M b→M2 b) (ss:∀ b,b<w.heap.size→S2 b→S b)
  (h0:w2.heap[bt]?=w.heap[bt]?) (h1:w2.heap[m1]?=w.heap[m1]?) (h2:w2.heap[m2]?=w.heap[m2]?):Gc w0 w2 M2 S2 k bt m1 m2 E' n' t rf wf:=by
 obtain ⟨kv,r1,r2⟩:=h.r
 obtain ⟨kv',e1,e2⟩:=h.e
 exact ⟨hl,hc,h0.trans h.cells,⟨kv,r1.keep h1,r2⟩,⟨kv',e1.keep h2,fun x=>(e2 x).up u⟩,ms _ h.mt,fun e=>h.st (ss _ (block_lt h.cells) e),ms _ h.mm1,fun e=>h.sm1 (ss _ h.lt1 e),ms _ h.mm2,fun e=>h.sm2 (ss _ h.lt2 e),h.n12,h.n1,h.n2,ht⟩
theorem Gc.more {B:Nat} (h:Gc w0 w M S k bt m1 m2 E n t rf wf) (g:Gr w w') (h1:w.heap.size≤B) (h2:B<w'.heap.size):Gc w0 w' (fun b=>M b∨b=B) S k bt m1 m2 E n t rf wf :=
 h.mv (h.lw.more g h1 h2) h.ec h.told ⟨g.mod M,fun b hb e=>by
  rcases e with e | e
  ·exact e
  ·omega⟩ (fun _ e=>.inl e) (fun _ _ e=>e) (g.block _ (block_lt h.cells)) (g.block _ h.lt1) (g.block _ h.lt2)
theorem Gc.gr (h:Gc w0 w M S k bt m1 m2 E n t rf wf) (g:Gr w w'):Gc w0 w' M S k bt m1 m2 E n t rf wf :=
 h.mv (h.lw.gr g) h.ec h.told (Gr.up g M) (fun _ e=>e) (fun _ _ e=>e) (g.block _ (block_lt h.cells)) (g.block _ h.lt1) (g.block _ h.lt2)
theorem Gc.step {n':Nat} (h:Gc w0 w M S k bt m1 m2 E n t rf wf) (hal:z0j w M S w2 M2 S2) (hl:Lw w0 w2 M2 S2 k E' n') (hc:EC E') (ht:Tld rf wf E'):Gc w0 w2 M2 S2 k bt m1 m2 E' n' t rf wf :=
 h.mv hl hc ht (hal.up h.lw.law.eng.lt.2.1) hal.mm hal.s (hal.mod.block bt (block_lt h.cells) h.st) (hal.mod.block m1 h.lt1 h.sm1) (hal.mod.block m2 h.lt2 h.sm2)
theorem Gc.set {B:Nat} (h:Gc w0 w M S k bt m1 m2 E n t rf wf) (md:Mod (fun b=>b=B) w w') (h1:M B) (h2:¬ S B) (b0:bt≠B) (b1:m1≠B) (b2:m2≠B):Gc w0 w' M S k bt m1 m2 E n t rf wf :=
 h.mv (h.lw.set md h1 h2) h.ec h.told (Mod.up md (fun _ _ e=>e▸h1)) (fun _ e=>e) (fun _ _ e=>e) (md.block _ (block_lt h.cells) b0) (md.block _ h.lt1 b1) (md.block _ h.lt2 b2)
theorem Gc.setTok {t':Tok} (h:Gc w0 w M S k bt m1 m2 E n t rf wf) (md:Mod (fun b=>b=bt) w w') (hc:w'.heap[bt]?=some (.cells #[.int .i64 t'.flow,.int .i64 t'.run,.int .i64 t'.event,.int .i64 t'.turn] 28 (0,0))):Gc w0 w' M S k bt m1 m2 E n t' rf wf:=by
 obtain ⟨kv,r1,r2⟩:=h.r
 obtain ⟨kv',e1,e2⟩:=h.e
 exact ⟨h.lw.set md h.mt h.st,h.ec,hc,⟨kv,r1.keep (md.block _ h.lt1 h.n1),r2⟩,⟨kv',e1.keep (md.block _ h.lt2 h.n2),fun x=>(e2 x).up (Mod.up md (fun _ _ e=>e▸h.mt))⟩,h.mt,h.st,h.mm1,h.sm1,h.mm2,h.sm2,h.n12,h.n1,h.n2,h.told⟩
theorem Gc.tell {w3:World} {x:Int} {v:Value} {kv kv':List (Int × Value)} (h:Gc w0 w M S k bt m1 m2 E n t rf wf) (q2:∀ x,(lk kv x).getD (.int .i64 0)=.int .i64 (rf x)) (q4:∀ x,z08 evR w M ((lk kv' x).getD (.slice none 0 0)) (wf x))
  (md:Mod (fun b=>b=m1) w w2) (hm:MI w2 m1 (up kv x (.int .i64 (hisR E x).1))) (md':Mod (fun b=>b=m2) w2 w3) (hm':MI w3 m2 (up kv' x v)) (hv:z08 evR w M v (hisR E x).2) :
  Gc w0 w3 M S k bt m1 m2 E n t (fun y=>if y=x then (hisR E x).1 else rf y) (fun y=>if y=x then (hisR E x).2 else wf y):=by
 have u:Up M w M w2:=Mod.up md (fun _ _ e=>e▸h.mm1)
 have u':Up M w2 M w3:=Mod.up md' (fun _ _ e=>e▸h.mm2)
 have hc:w2.heap[bt]?=w.heap[bt]?:=md.block _ (block_lt h.cells) (Ne.symm h.n1)
 have hc':w3.heap[bt]?=w2.heap[bt]?:=md'.block _ (by have:=block_lt h.cells;have:=md.size;omega) (Ne.symm h.n2)
 refine ⟨(h.lw.set md h.mm1 h.sm1).set md' h.mm2 h.sm2,h.ec,hc'.trans (hc.trans h.cells),⟨_,hm.keep (md'.block _ hm.lt h.n12),fun y=>?_⟩,⟨_,hm',fun y=>?_⟩,h.mt,h.st,h.mm1,h.sm1,h.mm2,h.sm2,h.n12,h.n1,h.n2,h.told.set x⟩
 ·by_cases hy:y=x
  ·subst hy
   rw [z0g,if_pos rfl]
   rfl
  ·rw [z0G _ _ hy,if_neg hy]
   exact q2 y
 ·by_cases hy:y=x
  ·subst hy
   rw [z0g,if_pos rfl]
   exact (hv.up u).up u'
  ·rw [z0G _ _ hy]
   simp only [if_neg hy]
   exact ((q4 y).up u).up u'
theorem z9C {n':Nat} (h:E1 E n) (h':E1 E' n'):E'.shard=E.shard:=by
 have h1:=h.ok.sh
 have h2:=h'.ok.sh
 have:=h.g
 have:=h'.g
 omega
theorem Gc.le {n':Nat} (h:Gc w0 w M S k bt m1 m2 E n t rf wf) (hn:n≤n'):Gc w0 w M S k bt m1 m2 E n' t rf wf :=
 ⟨⟨⟨h.lw.law.eng,⟨h.lw.law.e1.ok,h.lw.law.e1.g,Nat.le_trans h.lw.law.e1.due hn⟩,h.lw.law.g,h.lw.law.s⟩,h.lw.m⟩,h.ec,h.cells,h.r,h.e,h.mt,h.st,h.mm1,h.sm1,h.mm2,h.sm2,h.n12,h.n1,h.n2,h.told⟩
def zfY (w0:World) (M S:Bl) (k bt m1 m2:Nat) (E:ES) (n:Nat) (t:Tok) (rf:Int→Int) (wf:Int→List Ev) (x:Int) (w:World) (en:Ending) (w2:World):Prop :=
 ∃ a A c A' c' M' S',en=.returned (ansV a (.slice A a.data.length c) (.slice A' a.events.length c'))∧a.run=(hisR E x).1∧a.events=(hisR E x).2∧Gc w0 w2 M' S' k bt m1 m2 E n t rf wf∧z0j w M S w2 M' S'∧z08 evR w2 M' (.slice A' a.events.length c') a.events
theorem Gc.his (h:Gc w0 w M S k bt m1 m2 E n t rf wf) (x:Int) (hn:n≤998000):Calls Tryz.prog 14 #[.pointer (some ⟨k,0,none⟩),z0E (hisC x) (.slice none 0 0) (.slice none 0 0)] w (zfY w0 M S k bt m1 m2 E n t rf wf x w):=by
 refine (h.lw.call (hisC x) (.slice none 0 0) (.slice none 0 0) hn (z0q _ _ _ rfl rfl) (by simp [hisC]) (by simp [hisC])).mono ?_
 rintro en w2 ⟨A,c,A',c',M',S',rfl,l,al,-,he⟩
 obtain ⟨h1,h2,h3⟩:=zdM E x
 rw [h1] at l
 exact ⟨_,A,c,A',c',M',S',rfl,h2,h3,h.step al ⟨⟨l.law.eng,h.lw.law.e1,l.law.g,l.law.s⟩,l.m⟩ h.ec h.told,al,he⟩
def zfV (w0:World) (M S:Bl) (k bt m1 m2:Nat) (n:Nat) (t:Tok) (rf:Int→Int) (wf:Int→List Ev) (w:World) (en:Ending) (w2:World):Prop :=
 ∃ a A c A' c' M' S' E',en=.returned (ansV a (.slice A a.data.length c) (.slice A' a.events.length c'))∧Gc w0 w2 M' S' k bt m1 m2 E' (n+100) t rf wf∧z0j w M S w2 M' S'
theorem Gc.act (h:Gc w0 w M S k bt m1 m2 E n t rf wf) (c:Call) (d l:Value) (hn:n≤998000) (hc:z0P w M c d l) (hll:c.l.length≤140737488351232) (hdd:∀ d∈c.l,d.data.length≤140737488351232) :
  Calls Tryz.prog 14 #[.pointer (some ⟨k,0,none⟩),z0E c d l] w (zfV w0 M S k bt m1 m2 n t rf wf w):=by
 refine (h.lw.call c d l hn hc hll hdd).mono ?_
 rintro en w2 ⟨A,ca,A',ca',M',S',rfl,l,al,-,-⟩
 exact ⟨_,A,ca,A',ca',M',S',_,rfl,h.step al l (z6O sh0 h.lw.law.e1.ok h.ec c) (h.told.gro (z6W sh0 E c) l.law.e1.ok (z9C h.lw.law.e1 l.law.e1)),al⟩
def zhf (w0:World) (M S:Bl) (k bt m1 m2:Nat) (n:Nat) (t:Tok) (rf:Int→Int) (wf:Int→List Ev) (w:World) (en:Ending) (w2:World):Prop :=
 ∃ x M' S' E',en=.returned (.int .i64 x)∧Gc w0 w2 M' S' k bt m1 m2 E' n t rf wf∧z0j w M S w2 M' S'
theorem Gc.tick (h:Gc w0 w M S k bt m1 m2 E n t rf wf) (x:Int) (hn:n≤990000):Calls Tryz.prog 23 #[.pointer (some ⟨k,0,none⟩),.int .i64 x] w (zhf w0 M S k bt m1 m2 n t rf wf w):=by
 refine ((show Lc w0 w M S k E n from ⟨h.lw,h.ec⟩).tick x hn).mono ?_
 rintro en w2 ⟨M',S',rfl,l,al⟩
 exact ⟨_,M',S',_,rfl,h.step al l.lw l.ec (h.told.gro (z2x E x).2.2.2 l.lw.law.e1.ok (z9C h.lw.law.e1 l.lw.law.e1)),al⟩
end
end Go.Proofs.YtniknicnnaiilaaGreat
end
section
namespace Go.Proofs.YtniknicnnaiilaaGreat
set_option maxRecDepth 100000
open Go.RowKit Go.Ext Go.BigFrame Go.Maps Go.MapKept
attribute [local go_sem] Ext.cell Ext.frozen Ext.lt Ext.le s1 s2 s3 s4 s5 s6 t1 t2 t3 t4 t5 t6
attribute [local go_sem ↓] Go.wp_at_zero Go.wp_at_succ
open Go.Proofs
def z5G:Go.Shelf.Ren:=⟨fun | 7=>58 | 10=>94 | n=>n,fun | 23=>76 | 26=>3 | 3=>109 | 28=>119 | 0=>0 | 27=>118 | 33=>148 | 4=>4 | n=>n,fun | n=>n⟩
theorem zco:Go.Proofs.SlLaysZI.n7 Tryz.prog z5G:={
 mixed:=by kernel_rfl
 f7:=⟨Tryz.f58.name,by decide,Tryz.func58.trans (congrArg some (by kernel_rfl))⟩
 f10:=⟨Tryz.f94.name,by decide,Tryz.func94.trans (congrArg some (by kernel_rfl))⟩
 t0:=Tryz.underlying0
 a0:=Tryz.isAgg0
 z0:=Tryz.sizeOf0
 v0:=Tryz.zeroValue0
 t4:=Tryz.underlying4
 a4:=Tryz.isAgg4
 z4:=Tryz.sizeOf4
 v4:=Tryz.zeroValue4
 t23:=Tryz.underlying76
 a23:=Tryz.isAgg76
 z23:=Tryz.sizeOf76
 v23:=Tryz.zeroValue76
 t26:=Tryz.underlying3
 a26:=Tryz.isAgg3
 z26:=Tryz.sizeOf3
 v26:=Tryz.zeroValue3
 t27:=Tryz.underlying118
 a27:=Tryz.isAgg118
 z27:=Tryz.sizeOf118
 v27:=Tryz.zeroValue118
 t28:=Tryz.underlying119
 a28:=Tryz.isAgg119
 z28:=Tryz.sizeOf119
 v28:=Tryz.zeroValue119
 t33:=Tryz.underlying148
 a33:=Tryz.isAgg148
 z33:=Tryz.sizeOf148
 v33:=Tryz.zeroValue148 }
def z5U:Go.Shelf.Ren:=⟨fun | 6=>57 | 8=>92 | 9=>93 | 11=>131 | 13=>133 | 12=>132 | 23=>176 | 24=>177 | 14=>167 | 15=>168 | 16=>169 | 17=>170 | 18=>171 | 19=>172 | 20=>173 | 21=>174 | 22=>175 | 25=>196 | 26=>197 | 27=>198 | 28=>199 | 29=>200 | 30=>193 | 31=>205 | n=>n,fun | 26=>3 | 28=>119 | 24=>56 | 0=>0 | 3=>3 | 37=>181 | 48=>229 | 50=>86 | 4=>4 | 40=>223 | 39=>222 | 45=>141 | 5=>5 | 9=>9 | 51=>240 | 55=>244 | 57=>250 | 58=>251 | 33=>148 | n=>n,fun | n=>n⟩
theorem z7j:Go.Proofs.SlLaysZI.n6 Tryz.prog z5U:={
 mixed:=by kernel_rfl
 f6:=⟨Tryz.f57.name,by decide,Tryz.func57.trans (congrArg some (by kernel_rfl))⟩
 f8:=⟨Tryz.f92.name,by decide,Tryz.func92.trans (congrArg some (by kernel_rfl))⟩
 f11:=⟨Tryz.f131.name,by decide,Tryz.func131.trans (congrArg some (by kernel_rfl))⟩
 t0:=Tryz.underlying0
 a0:=Tryz.isAgg0
 z0:=Tryz.sizeOf0
 v0:=Tryz.zeroValue0
 t24:=Tryz.underlying56
 a24:=Tryz.isAgg56
 z24:=Tryz.sizeOf56
 v24:=Tryz.zeroValue56
 t26:=Tryz.underlying3
 a26:=Tryz.isAgg3
 z26:=Tryz.sizeOf3
 v26:=Tryz.zeroValue3
 t28:=Tryz.underlying119
 a28:=Tryz.isAgg119
 z28:=Tryz.sizeOf119
 v28:=Tryz.zeroValue119
 i26:=by kernel_rfl }
def zcV:Go.Shelf.Ren:=⟨fun | 5=>93 | 8=>133 | 7=>132 | 19=>176 | 20=>177 | 10=>167 | 11=>168 | 12=>169 | 13=>170 | 14=>171 | 15=>172 | 16=>173 | 17=>174 | 18=>175 | 30=>196 | 31=>197 | 32=>198 | 33=>199 | 34=>200 | 35=>193 | 40=>205 | n=>n,fun | 23=>56 | 25=>3 | 3=>3 | 32=>181 | 22=>56 | 0=>0 | 44=>229 | 46=>86 | 4=>4 | 36=>223 | 35=>222 | 41=>141 | 5=>5 | 9=>9 | 53=>240 | 57=>244 | 63=>250 | 64=>251 | n=>n,fun | n=>n⟩
theorem zfF:Go.Proofs.SlLaysM.n5 Tryz.prog zcV:={
 mixed:=by kernel_rfl
 f5:=⟨Tryz.f93.name,by decide,Tryz.func93.trans (congrArg some (by kernel_rfl))⟩
 f7:=⟨Tryz.f132.name,by decide,Tryz.func132.trans (congrArg some (by kernel_rfl))⟩
 f8:=Tryz.func133.trans (congrArg some (by kernel_rfl))
 f10:=⟨Tryz.f167.name,by decide,Tryz.func167.trans (congrArg some (by kernel_rfl))⟩
 f11:=⟨Tryz.f168.name,by decide,Tryz.func168.trans (congrArg some (by kernel_rfl))⟩
 f12:=⟨Tryz.f169.name,by decide,Tryz.func169.trans (congrArg some (by kernel_rfl))⟩
 f13:=⟨Tryz.f170.name,by decide,Tryz.func170.trans (congrArg some (by kernel_rfl))⟩
 f14:=⟨Tryz.f171.name,by decide,Tryz.func171.trans (congrArg some (by kernel_rfl))⟩
 f15:=⟨Tryz.f172.name,by decide,Tryz.func172.trans (congrArg some (by kernel_rfl))⟩
 f16:=⟨Tryz.f173.name,by decide,Tryz.func173.trans (congrArg some (by kernel_rfl))⟩
 f17:=⟨Tryz.f174.name,by decide,Tryz.func174.trans (congrArg some (by kernel_rfl))⟩
 f18:=⟨Tryz.f175.name,by decide,Tryz.func175.trans (congrArg some (by kernel_rfl))⟩
 f19:=Tryz.func176.trans (congrArg some (by kernel_rfl))
 f20:=Tryz.func177.trans (congrArg some (by kernel_rfl))
 f30:=⟨Tryz.f196.name,by decide,Tryz.func196.trans (congrArg some (by kernel_rfl))⟩
 f31:=Tryz.func197.trans (congrArg some (by kernel_rfl))
 f32:=Tryz.func198.trans (congrArg some (by kernel_rfl))
 f33:=⟨Tryz.f199.name,by decide,Tryz.func199.trans (congrArg some (by kernel_rfl))⟩
 f34:=⟨Tryz.f200.name,by decide,Tryz.func200.trans (congrArg some (by kernel_rfl))⟩
 f35:=⟨Tryz.f193.name,by decide,Tryz.func193.trans (congrArg some (by kernel_rfl))⟩
 f40:=⟨Tryz.f205.name,by decide,Tryz.func205.trans (congrArg some (by kernel_rfl))⟩
 t0:=Tryz.underlying0
 a0:=Tryz.isAgg0
 z0:=Tryz.sizeOf0
 v0:=Tryz.zeroValue0
 t3:=Tryz.underlying3
 a3:=Tryz.isAgg3
 z3:=Tryz.sizeOf3
 v3:=Tryz.zeroValue3
 t4:=Tryz.underlying4
 a4:=Tryz.isAgg4
 z4:=Tryz.sizeOf4
 v4:=Tryz.zeroValue4
 t5:=Tryz.underlying5
 a5:=Tryz.isAgg5
 z5:=Tryz.sizeOf5
 v5:=Tryz.zeroValue5
 t9:=Tryz.underlying9
 a9:=Tryz.isAgg9
 z9:=Tryz.sizeOf9
 v9:=Tryz.zeroValue9
 t22:=Tryz.underlying56
 a22:=Tryz.isAgg56
 z22:=Tryz.sizeOf56
 v22:=Tryz.zeroValue56
 t23:=Tryz.underlying56
 a23:=Tryz.isAgg56
 z23:=Tryz.sizeOf56
 v23:=Tryz.zeroValue56
 t25:=Tryz.underlying3
 a25:=Tryz.isAgg3
 z25:=Tryz.sizeOf3
 v25:=Tryz.zeroValue3
 t32:=Tryz.underlying181
 a32:=Tryz.isAgg181
 z32:=Tryz.sizeOf181
 v32:=Tryz.zeroValue181
 t35:=Tryz.underlying222
 a35:=Tryz.isAgg222
 z35:=Tryz.sizeOf222
 v35:=Tryz.zeroValue222
 t36:=Tryz.underlying223
 a36:=Tryz.isAgg223
 z36:=Tryz.sizeOf223
 v36:=Tryz.zeroValue223
 t41:=Tryz.underlying141
 a41:=Tryz.isAgg141
 z41:=Tryz.sizeOf141
 v41:=Tryz.zeroValue141
 t44:=Tryz.underlying229
 a44:=Tryz.isAgg229
 z44:=Tryz.sizeOf229
 v44:=Tryz.zeroValue229
 t46:=Tryz.underlying86
 a46:=Tryz.isAgg86
 z46:=Tryz.sizeOf86
 v46:=Tryz.zeroValue86
 t53:=Tryz.underlying240
 a53:=Tryz.isAgg240
 z53:=Tryz.sizeOf240
 v53:=Tryz.zeroValue240
 t57:=Tryz.underlying244
 a57:=Tryz.isAgg244
 z57:=Tryz.sizeOf244
 v57:=Tryz.zeroValue244
 t63:=Tryz.underlying250
 a63:=Tryz.isAgg250
 z63:=Tryz.sizeOf250
 v63:=Tryz.zeroValue250
 t64:=Tryz.underlying251
 a64:=Tryz.isAgg251
 z64:=Tryz.sizeOf251
 v64:=Tryz.zeroValue251 }
section
open Go.Sort Go.Shelf
theorem zcW (m:Nat):AnyZI.SortsIn Tryz.prog z5U Fence.wide m :=
 ⟨fun blk off cap ss W hH hblk hsz=>callsIn_wide.2 (AnyM.slices_Sort_int zfF blk off cap ss W hH hblk hsz),fun p cap W=>callsIn_wide.2 (AnyM.slices_Sort_int_none zfF p cap W)⟩
theorem Rel.keys {α:Type} {R:α→Value→Prop}:∀ {m:List (Int × α)} {kv:List (Int × Value)},Rel R m kv→kv.map (·.1)=m.map (·.1)
 | [],[],_=>rfl
 | x::m,y::kv,h=>by
  rw [List.map_cons,List.map_cons,Rel.keys h.2.2,h.1]
 | [],_::_,h=>h.elim
 | _::_,[],h=>h.elim
def z4E:Value→Option (DataW Unit × List MemPlace):=fun _=>some (.lit (.bool true),[])
theorem zcx {w:World} {b:Nat} {kv:List (Int × Value)} (h:MI w b kv) (hk:∀ x∈kv,-9223372036854775808≤x.1∧x.1≤9223372036854775807) (hn:kv.length≤2000000):∃ D,w.ownsMap Tryz.prog 3 z4E b kv.length D∧Maps.size D=kv.length:=by
 obtain ⟨es,clock,h0,h1,h2⟩:=h
 have hl:es.size=kv.length:=by
  have:=congrArg List.length h1
  simpa [kvs] using this
 refine ⟨_,⟨es,clock,h0,⟨?_,h2,fun x hx=>?_⟩,Nat.le_of_eq hl,rfl⟩,?_⟩
 ·have:maxLen=2 ^ 63-1:=rfl
  omega
 ·have hm:(x.key,x.val)∈kvs kv:=h1▸List.mem_map.2 ⟨x,hx,rfl⟩
  obtain ⟨y,hy,e⟩:=List.mem_map.1 hm
  injection e with e1 e2
  have hb:=hk y hy
  have hkey:keyOf Tryz.prog 3 x.key=some (.int .i64 y.1):=by
   rw [← e1]
   have q1:IntKind.i64.min=-9223372036854775808:=by decide
   have q2:IntKind.i64.max=9223372036854775807:=by decide
   have hw:(Lit.int .i64 y.1).wf=true:=by
    simp only [Lit.wf,q1,q2,Bool.and_eq_true,decide_eq_true_eq]
    exact hb
   simp [keyOf,Tryz.underlying3,mapKey,hw]
  exact ⟨(.int .i64 y.1,.lit (.bool true)),by simp [WideElems.rd,hkey,z4E]⟩
 ·simp [Maps.size,length_sorted,hl]
set_option maxHeartbeats 1000000 in
theorem zbP (k:Nat) (E:ES) (M S:Bl) (w:World) (h:EngR w M S k E) (hE:EOk E) :
  Calls Tryz.prog 29 #[.pointer (some ⟨k,0,none⟩)] w (fun en w'=>∃ (A:Option Addr) (c:Nat) (L:List Int),en=.returned (.slice A L.length c)∧RdM w' M A (L.map (.int .i64))∧L.length≤1048577∧Gr w w'):=by
 obtain ⟨kd,ka,md,ma,mr,kh,hv,P⟩:=h
 obtain ⟨kv,hmi,hrel⟩:=P.r
 have hkv:=hrel.keys
 have hkl:kv.length=E.runs.length:=hrel.len
 have hrl:=z7e hE
 obtain ⟨D0,hown,hsz⟩:=zcx hmi (fun x hx=>by
  have:x.1∈E.runs.map (·.1):=hkv▸List.mem_map.2 ⟨x,hx,rfl⟩
  obtain ⟨y,hy,hyx⟩:=List.mem_map.1 this
  obtain ⟨h1,h2⟩:=hE.run y hy
  have:=h1.idn
  omega) (by omega)
 have hbl:=hown.lt
 have hmx:Maps.size D0≤maxLen:=by
  have:maxLen=2 ^ 63-1:=rfl
  omega
 have hseq:SeqGives Fence.wide 2 Tryz.prog 94 #[.pointer (some ⟨w.heap.size,0,none⟩)] encZ (fun ss=>ss.Perm (intKeys D0)) (Maps.size D0) (w.alloc (.cells #[.map (some mr)] 76)) :=
  AnyZI.keys_gives (ρ:=z5G) { zco with } Fence.wide _ trivial rfl (by omega) w.heap.size mr _ D0 _ (by simp) (by simp) (by
   obtain ⟨es,clock,hb,Ft,hs,hD⟩:=hown
   exact ⟨es,clock,(RowKit.Below.heap_alloc _ _ mr hbl).trans hb,Ft,hs,hD⟩)
 have cK:Calls Tryz.prog 58 #[.map (some mr)] w fun e w'=>e=.returned (.func (.func 94) #[] #[.pointer (some ⟨w.heap.size,0,none⟩)])∧w'=w.alloc (.cells #[.map (some mr)] 76):=(callsIn_wide (n:=5)).1 (AnyZI.keys_in zco Fence.wide 5 trivial rfl (some mr) w)
 have cS:=AnyZI.sorted_in z7j Fence.wide 5 trivial trivial trivial trivial rfl (by omega) (zcW _) (enters_of Tryz.func93 (by kernel_rfl) rfl) 94 #[.pointer (some ⟨w.heap.size,0,none⟩)] trivial (enters_of Tryz.func94 (by kernel_rfl) rfl) _ _ hmx (by omega) _ hseq
 change CallsIn _ _ Tryz.prog 57 _ _ _ at cS
 have HK:=hid cK
 have HS:=hid (callsIn_wide.1 cS)
 have hlt:=P.lt
 have HM:=hid (show ∀ b,w.heap.size≤b→¬ M b from fun b hb e=>by have:=hlt b e;omega)
 have HSZ:=hid (And.intro hsz (And.intro hkl hrl))
 obtain ⟨b0,b1,b2,b3,b4,b5,b6⟩:=z0p P.cell
 have hkb:=block_lt P.cell
 clear cK cS hseq hown hmi hrel hlt P
 go_enter Tryz.func29,Tryz.ntmps29
 go_wp2_with (first
  | (go_at_call 58;refine HK.o.mono ?_;rintro en _ ⟨rfl,rfl⟩)
  | (go_at_call 57;refine HS.o.mono ?_;rintro en w2 ⟨v,ss,rfl,hS,hrow,hnil,hb⟩))
 go_ret
 have hs:ss.length≤1048577:=by
  have h1:=hS.length_eq
  have h2:(intKeys D0).length=Maps.size D0:=by cases D0<;>simp [intKeys,Maps.size]
  have:=HSZ.o
  omega
 have hlen:(ss.mergeSort fun x y=>decide (x≤y)).length=ss.length:=List.length_mergeSort ss
 have hg:Gr w w2:=by
  have h1:Below w.heap.size w (w.alloc (.cells #[.map (some mr)] 76)):=(Below.refl _ w).alloc (Nat.le_refl _) _
  exact h1.trans (hb.mono (by simp))
 rcases hrow.2 with ⟨rfl,hz⟩ | ⟨g,cap,cur,rfl,hbase,hgb,r1,r2,r3,r4⟩
 ·have:ss=[]:=List.eq_nil_of_length_eq_zero hz
  subst this
  exact ⟨none,0,[],rfl,RdM.nil _ _ _,by simp,hg⟩
 ·refine ⟨some ⟨g,0,none⟩,cap,ss.mergeSort fun x y=>decide (x≤y),(by rw [hlen];rfl),?_,by rw [hlen];exact hs,hg⟩
  refine Rd.m (Rd.of_own (ownsRow_base_a hrow (Nat.le_refl _))) ?_
  rintro b off e _
  injection e with e
  injection e with e1
  subst e1
  have hz:=hbase
  simp only [World.alloc,Array.size_push] at hz
  exact HM.o _ (by omega)
end
end Go.Proofs.YtniknicnnaiilaaGreat
end
section
namespace Go.Proofs.YtniknicnnaiilaaGreat
set_option maxRecDepth 100000
open Go.RowKit Go.Ext Go.BigFrame Go.Maps Go.MapKept
attribute [local go_sem] Ext.cell Ext.frozen Ext.lt Ext.le s1 s2 s3 s4 s5 s6 t1 t2 t3 t4 t5 t6
attribute [local go_sem ↓] Go.wp_at_zero Go.wp_at_succ
theorem DatM.pre {w:World} {M:Bl}:∀ {xs ys:List (List Int × List UInt8)} {ds:List Value},DatM w M (xs++ys) ds→DatM w M xs (ds.take xs.length)
 | [],_,_,_=>by simp [DatM]
 | _::_,_,_::_,h=>⟨h.1,DatM.pre h.2⟩
 | _::_,_,[],h=>h.elim
theorem z08.pre {α:Type} {r:α→List Int × List UInt8} {w:World} {M:Bl} {A:Option Addr} {n c:Nat} {xs ys:List α} (h:z08 r w M (.slice A n c) (xs++ys)):z08 r w M (.slice A xs.length c) xs:=by
 obtain ⟨A',c',ds,e,hc,h1,h2,h3⟩:=h
 injection e with e1 e2 e3
 subst e1 e3
 rw [List.map_append] at h1 h2
 have hd:=h1.pre
 refine ⟨A,c,ds.take (xs.map r).length,rfl,?_,hd,?_,h3⟩
 ·rw [List.length_append] at hc;omega
 ·have hl:=h1.len
  rw [List.length_append] at hl
  have e:rowC (xs.map r++ys.map r) ds=rowC (xs.map r) (ds.take (xs.map r).length)++rowC (ys.map r) (ds.drop (xs.map r).length):=by
   rw [← z4y _ _ _ _ hd.len,List.take_append_drop]
  rw [e] at h2
  intro hne
  obtain ⟨b,off,q1,q2,q3⟩:=h2 (fun e=>hne (List.append_eq_nil_iff.1 e).1)
  exact ⟨b,off,q1,q2,fun i u hu=>q3 i u (by rw [List.getElem?_append_left (List.getElem?_eq_some_iff.1 hu).1];exact hu)⟩
set_option maxHeartbeats 4000000 in
theorem zaQ (l r:List Ev) (v u:Value) (M:Bl) (w:World) (h1:z08 evR w M v l) (h2:z08 evR w M u (l++r)) (hl:l.length≤1000000):Calls Tryz.prog 30 #[v,u] w (RetE (.bool true) w):=by
 obtain ⟨A,c,rfl,hc⟩:=h1.shape
 obtain ⟨B,d,rfl,hd⟩:=h2.shape
 have HEV:=hid (fun W (g:Gr w W)=>z6u l l _ _ M W (h1.up (Gr.up g M)) (h2.pre.up (Gr.up g M)) hl hl)
 rw [z4h] at HEV
 rw [List.length_append] at hd ⊢
 clear h1 h2
 generalize l.length=n at *
 generalize r.length=m at *
 have k1:(n:Int)≤((n+m:Nat):Int):=by omega
 have k2:n≤d:=by omega
 refine retE ?_
 go_enter Tryz.func30,Tryz.ntmps30
 go_wp2_with (go_at_call 40;refine (HEV.o _ (Gr.refl w)).mono ?_;rintro en _ ⟨rfl,y2,rfl⟩)
 go_ret
 exact ⟨rfl,y2.gr⟩
end Go.Proofs.YtniknicnnaiilaaGreat
end
