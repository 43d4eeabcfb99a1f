/- Lemmas of the engine. -/
import Derived.Laws.StructEq
import Derived.Maps.RangeRun
import Derived.Shelf.Abstract
import Derived.Test.YtniknicnnaiilaaGreatX02
section
namespace Go.Proofs.YtniknicnnaiilaaGreat
set_option maxRecDepth 100000
open Go.RowKit Go.Ext Go.BigFrame Go.Maps Go.MapKept
attribute [local go_sem] Ext.cell Ext.frozen Ext.lt Ext.le s1 s2 s3 s4 s5 s6 t1 t2 t3 t4 t5 t6
attribute [local go_sem ↓] Go.wp_at_zero Go.wp_at_succ
theorem z5C {a w:World} (h:Gr a w) {r:Nat} (hr:a.heap.size≤r) (o:Obj):Gr a (ChangeMaps.setBlock w r o) :=
 ⟨h.os,h.tape,h.output,by simp [ChangeMaps.setBlock];exact h.size,fun k hk=>by
  have:(ChangeMaps.setBlock w r o).heap[k]?=w.heap[k]?:=by
   simp only [ChangeMaps.setBlock]
   rw [Array.getElem?_setIfInBounds_ne (by omega)]
  rw [this]
  exact h.block k hk⟩
theorem z3z {w:World} {r:Nat} {x:Obj} (h:w.heap[r]?=some x) (o:Obj):(ChangeMaps.setBlock w r o).heap[r]?=some o:=by
 have:=(Array.getElem?_eq_some_iff.1 h).1
 simp [ChangeMaps.setBlock,this]
theorem z5F {P:Program} {w wr:World} {r mb clock:Nat} {es:Array MapEntry} {seen:Array Nat} (hit:wr.heap[r]?=some (.mapIter (some mb) clock seen clock)) (hm:w.heap[mb]?=some (.map es clock)) (hst:Stamped es clock) (hr:w.heap.size≤r) (hg:Gr w wr) :
  ((leftOf es seen).size=0∧(∀ ty,(Instr.next (.pointer (some ⟨r,0,none⟩)) false ty).run P wr=.ok (.tuple #[.bool false]) wr)) ∨
  ∃ e∈(leftOf es seen).toList,∃ W2,Gr w W2∧W2.heap[r]?=some (.mapIter (some mb) clock (seen.push e.born) clock)∧(∀ ty,(Instr.next (.pointer (some ⟨r,0,none⟩)) false ty).run P wr=.ok (.tuple #[.bool true,e.key,e.val]) W2) ∧
   (Instr.entry (.pointer (some ⟨r,0,none⟩))).run P W2=.ok (.tuple #[e.key,e.val]) W2:=by
 have hlt:mb<w.heap.size:=(Array.getElem?_eq_some_iff.1 hm).1
 have hb:wr.heap[mb]?=some (.map es clock):=(hg.block mb hlt).trans hm
 rcases run_next_at (P:=P) wr 0 r mb clock clock seen es clock hit hb hst.1 (Nat.le_refl _) with ⟨h0,hrun⟩ | ⟨e,he,w1,hal,hrun⟩
 ·exact .inl ⟨h0,fun _=>hrun⟩
 ·refine .inr ⟨e,he,_,?_,?_,fun _=>hrun,?_⟩
  ·refine z5C ?_ hr _
   rcases hal with rfl | rfl
   ·exact hg
   ·exact hg.drew
  ·refine z3z (x:=.mapIter (some mb) clock seen clock) ?_ _
   rcases hal with rfl | rfl<;>exact hit
  ·refine run_entry_at _ r mb clock seen es clock e (z3z (x:=.mapIter (some mb) clock seen clock) ?_ _) ?_ (mem_left he).1 hst.2.1
   ·rcases hal with rfl | rfl<;>exact hit
   ·have:(ChangeMaps.setBlock w1 r (.mapIter (some mb) clock (seen.push e.born) clock)).heap[mb]?=w1.heap[mb]?:=by
     simp only [ChangeMaps.setBlock]
     rw [Array.getElem?_setIfInBounds_ne (by omega)]
    rw [this]
    rcases hal with rfl | rfl<;>exact hb
theorem z0Z {w:World} {r:Nat} {m:Option Nat} {s c:Nat} {seen:Array Nat} (h:w.heap[r]?=some (.mapIter m s seen c)):w.iterSeen r=seen:=by
 unfold World.iterSeen
 rw [h]
theorem MI.entries {α:Type} {f:α→Value} {w:World} {mb:Nat} {op:List (Int × α)} (h:MI w mb (mp f op)):∃ es clock,w.heap[mb]?=some (.map es clock)∧Stamped es clock ∧
  (∀ e∈es.toList,∃ x∈op,e.key=.int .i64 x.1∧e.val=f x.2)∧(∀ x∈op,∃ e∈es.toList,e.key=.int .i64 x.1∧e.val=f x.2):=by
 obtain ⟨es,clock,h0,h1,h2⟩:=h
 refine ⟨es,clock,h0,h2,fun e he=>?_,fun x hx=>?_⟩
 ·have:(e.key,e.val)∈kvs (mp f op):=by rw [← h1];exact List.mem_map.2 ⟨e,he,rfl⟩
  simp only [kvs,mp,List.mem_map] at this
  obtain ⟨y,⟨x,hx,rfl⟩,hy⟩:=this
  injection hy with h3 h4
  exact ⟨x,hx,h3.symm,h4.symm⟩
 ·have:(Value.int .i64 x.1,f x.2)∈es.toList.map (fun e=>(e.key,e.val)):=by
   rw [h1]
   simp only [kvs,mp,List.mem_map]
   exact ⟨(x.1,f x.2),⟨x,hx,rfl⟩,rfl⟩
  obtain ⟨e,he,hy⟩:=List.mem_map.1 this
  injection hy with h3 h4
  exact ⟨e,he,h3,h4⟩
theorem z9L {op:List (Int × Opn)} {p:Opn→Bool} (hu:∀ x∈op,∀ y∈op,p x.2=true→p y.2=true→x=y) {x:Int × Opn} (hx:x∈op) (hp:p x.2=true):((op.find? fun y=>p y.2).map (·.1)).getD 0=x.1:=by
 cases hf:op.find? fun y=>p y.2 with
 | none=>exact absurd hp (by simpa using List.find?_eq_none.1 hf x hx)
 | some y =>
  have:=hu y (List.mem_of_find?_eq_some hf) x hx (List.find?_some (p:=fun y:Int × Opn=>p y.2) hf) hp
  rw [← this];rfl
theorem zbI {op:List (Int × Opn)} {p:Opn→Bool} (h:∀ x∈op,p x.2=false):((op.find? fun y=>p y.2).map (·.1)).getD 0=0:=by
 have:op.find? (fun y=>p y.2)=none:=List.find?_eq_none.2 fun x hx=>by simp [h x hx]
 rw [this];rfl
set_option maxHeartbeats 1000000 in
theorem z7R (k mb:Nat) (F:FS) (M:Bl) (kind id:Int) (w:World) (h:z0H w M k mb F) (hu:∀ x∈F.op,∀ y∈F.op,x.2.kind=y.2.kind→x.2.id=y.2.id→x=y) :
  Calls Tryz.prog 187 #[.pointer (some ⟨k,0,none⟩),.int .i64 kind,.int .i64 id] w (RetE (.int .i64 (z2r F.op kind id)) w):=by
 obtain ⟨A,c,hc,hf,hr,hk⟩:=h.parts
 obtain ⟨_,_,_,_,_,_,_,_,_,_,_,c11⟩:=hf
 obtain ⟨es,clock,hm,hst,he1,he2⟩:=MI.entries h.map
 have hrg:=fun W (y:Gr w W)=>run_range_map (P:=Tryz.prog) W 155 3 185 mb es clock Tryz.underlying155 ((y.block mb (Array.getElem?_eq_some_iff.1 hm).1).trans hm)
 have hrg0:=hrg w (Gr.refl w)
 have hu':∀ x∈F.op,∀ y∈F.op,(x.2.kind==kind && x.2.id==id)=true→(y.2.kind==kind && y.2.id==id)=true→x=y:=fun x hx y hy e1 e2=>by
  simp only [Bool.and_eq_true,beq_iff_eq] at e1 e2
  exact hu x hx y hy (e1.1.trans e2.1.symm) (e1.2.trans e2.2.symm)
 have HU:=hid hu'
 clear h hr hu hu' hrg
 refine retE ?_
 go_enter Tryz.func187,Tryz.ntmps187
 go_wp2_with fail
 go_loopw [] (fun wr=>∃ seen:Array Nat,Gr w wr∧wr.heap[w.heap.size]?=some (.mapIter (some mb) clock seen clock)∧∀ x∈F.op,∀ e∈es.toList,e.key=.int .i64 x.1→e.val=opV x.2→seen.contains e.born=true→(x.2.kind==kind && x.2.id==id)=false) (fun wr=>(leftOf es (wr.iterSeen w.heap.size)).size)
 case atStart=>exact ⟨#[],(Gr.refl w).alloc _,heap_alloc_new w _,fun _ _ _ _ _ _ hc=>by simp at hc⟩
 case round =>
  obtain ⟨seen,hg,hit,hno⟩:=hrel
  have HSN:=hid (z0Z hit)
  rcases z5F (P:=Tryz.prog) hit hm hst (Nat.le_refl _) hg with ⟨h0,hnx⟩ | ⟨e,he,W2,hg2,hit2,hnx,hen⟩
  ·have HF:=hid (show z2r F.op kind id=0 from zbI (p:=fun o=>o.kind==kind && o.id==id) fun x hx=>by
    obtain ⟨e,he,e1,e2⟩:=he2 x hx
    exact hno x hx e he e1 e2 (all_seen es seen h0 e he))
   clear hno
   go_wp2_with fail
   go_ret
   exact ⟨by rw [HF.o];rfl,hg⟩
  ·obtain ⟨x,hx,ek,ev⟩:=he1 e (mem_left he).1
   have HNO:=hid hno
   have HIT:=hid hit2
   have HE:=hid he
   have HEK:=hid (show e.key=.int .i64 x.1∧e.val=opV x.2 from ⟨ek,ev⟩)
   rw [ek,ev] at hnx hen
   clear hno hit hit2 he ek ev
   rcases x with ⟨q,o⟩
   rcases o with ⟨xk,xi,xw⟩
   simp only [opV] at hnx hen
   have hlt2:w.heap.size<W2.heap.size:=(Array.getElem?_eq_some_iff.1 HIT.o).1
   have last:(xk==kind && xi==id)=false→∃ seen':Array Nat,seen'=seen.push e.born∧∀ x∈F.op,∀ e∈es.toList,e.key=.int .i64 x.1→e.val=opV x.2→seen'.contains e.born=true→(x.2.kind==kind && x.2.id==id)=false:=fun hne=>by
    refine ⟨_,rfl,fun y hy e' he' e1 e2 hc=>?_⟩
    rw [contains_push] at hc
    rcases Bool.or_eq_true _ _▸hc with h1 | h1
    ·exact HNO.o y hy e' he' e1 e2 h1
    ·have:e'=e:=born_inj hst.2.1 he' (mem_left HE.o).1 (beq_iff_eq.1 h1)
     subst this
     rw [HEK.o.2] at e2
     unfold opV at e2
     injection e2 with e2
     injection e2 with e2
     injection e2 with e3 e2
     injection e2 with e4 e2
     injection e3 with _ e3
     injection e4 with _ e4
     rw [← e3,← e4];exact hne
   have LAST:=hid last
   clear last
   by_cases hk1:xk=kind
   ·by_cases hi1:xi=id
    ·subst hk1 hi1
     have HF:=hid (show z2r F.op xk xi=q from z9L (p:=fun o=>o.kind==xk && o.id==xi) HU.o hx (by simp))
     go_wp2_with fail
     go_ret
     exact ⟨by rw [HF.o];rfl,hg2.alloc _⟩
    ·subst hk1
     go_wp2_with fail
     go_roundw
     case rel =>
      obtain ⟨_,rfl,hl⟩:=LAST.o (by simp [hi1])
      refine ⟨_,?_,?_,hl⟩
      ·exact hg2.alloc _
      ·exact (((Gr.refl _).alloc _).block _ hlt2).trans HIT.o
     case measure =>
      rw [HSN.o,z0Z (show (W2.alloc _).heap[w.heap.size]?=_ from (((Gr.refl _).alloc _).block _ hlt2).trans HIT.o)]
      exact left_shrinks es seen e HE.o
   ·go_wp2_with fail
    go_roundw
    case rel =>
     obtain ⟨_,rfl,hl⟩:=LAST.o (by simp [hk1])
     refine ⟨_,?_,?_,hl⟩
     ·exact hg2.alloc _
     ·exact (((Gr.refl _).alloc _).block _ hlt2).trans HIT.o
    case measure =>
     rw [HSN.o,z0Z (show (W2.alloc _).heap[w.heap.size]?=_ from (((Gr.refl _).alloc _).block _ hlt2).trans HIT.o)]
     exact left_shrinks es seen e HE.o
set_option maxHeartbeats 1000000 in
theorem zfy (k mb:Nat) (F:FS) (M:Bl) (works:Int) (w:World) (h:z0H w M k mb F) (hu:∀ x∈F.op,∀ y∈F.op,x.2.works≠0→x.2.works=y.2.works→x=y) (hw:works≠0) :
  Calls Tryz.prog 184 #[.pointer (some ⟨k,0,none⟩),.int .i64 works] w (RetE (.int .i64 (ofF F.op works)) w):=by
 obtain ⟨A,c,hc,hf,hr,hk⟩:=h.parts
 obtain ⟨_,_,_,_,_,_,_,_,_,_,_,c11⟩:=hf
 obtain ⟨es,clock,hm,hst,he1,he2⟩:=MI.entries h.map
 have hrg:=fun W (y:Gr w W)=>run_range_map (P:=Tryz.prog) W 155 3 185 mb es clock Tryz.underlying155 ((y.block mb (Array.getElem?_eq_some_iff.1 hm).1).trans hm)
 have hrg0:=hrg w (Gr.refl w)
 have hu':∀ x∈F.op,∀ y∈F.op,(x.2.kind==7 && x.2.works==works)=true→(y.2.kind==7 && y.2.works==works)=true→x=y:=fun x hx y hy e1 e2=>by
  simp only [Bool.and_eq_true,beq_iff_eq] at e1 e2
  exact hu x hx y hy (by rw [e1.2];exact hw) (e1.2.trans e2.2.symm)
 have HU:=hid hu'
 clear h hr hu hu' hrg
 refine retE ?_
 go_enter Tryz.func184,Tryz.ntmps184
 go_wp2_with fail
 go_loopw [] (fun wr=>∃ seen:Array Nat,Gr w wr∧wr.heap[w.heap.size]?=some (.mapIter (some mb) clock seen clock)∧∀ x∈F.op,∀ e∈es.toList,e.key=.int .i64 x.1→e.val=opV x.2→seen.contains e.born=true→(x.2.kind==7 && x.2.works==works)=false) (fun wr=>(leftOf es (wr.iterSeen w.heap.size)).size)
 case atStart=>exact ⟨#[],(Gr.refl w).alloc _,heap_alloc_new w _,fun _ _ _ _ _ _ hc=>by simp at hc⟩
 case round =>
  obtain ⟨seen,hg,hit,hno⟩:=hrel
  have HSN:=hid (z0Z hit)
  rcases z5F (P:=Tryz.prog) hit hm hst (Nat.le_refl _) hg with ⟨h0,hnx⟩ | ⟨e,he,W2,hg2,hit2,hnx,hen⟩
  ·have HF:=hid (show ofF F.op works=0 from zbI (p:=fun o=>o.kind==7 && o.works==works) fun x hx=>by
    obtain ⟨e,he,e1,e2⟩:=he2 x hx
    exact hno x hx e he e1 e2 (all_seen es seen h0 e he))
   clear hno
   go_wp2_with fail
   go_ret
   exact ⟨by rw [HF.o];rfl,hg⟩
  ·obtain ⟨x,hx,ek,ev⟩:=he1 e (mem_left he).1
   have HNO:=hid hno
   have HIT:=hid hit2
   have HE:=hid he
   have HEK:=hid (show e.key=.int .i64 x.1∧e.val=opV x.2 from ⟨ek,ev⟩)
   rw [ek,ev] at hnx hen
   clear hno hit hit2 he ek ev
   rcases x with ⟨q,o⟩
   rcases o with ⟨xk,xi,xw⟩
   simp only [opV] at hnx hen
   have hlt2:w.heap.size<W2.heap.size:=(Array.getElem?_eq_some_iff.1 HIT.o).1
   have last:(xk==7 && xw==works)=false→∃ seen':Array Nat,seen'=seen.push e.born∧∀ x∈F.op,∀ e∈es.toList,e.key=.int .i64 x.1→e.val=opV x.2→seen'.contains e.born=true→(x.2.kind==7 && x.2.works==works)=false:=fun hne=>by
    refine ⟨_,rfl,fun y hy e' he' e1 e2 hc=>?_⟩
    rw [contains_push] at hc
    rcases Bool.or_eq_true _ _▸hc with h1 | h1
    ·exact HNO.o y hy e' he' e1 e2 h1
    ·have:e'=e:=born_inj hst.2.1 he' (mem_left HE.o).1 (beq_iff_eq.1 h1)
     subst this
     rw [HEK.o.2] at e2
     unfold opV at e2
     injection e2 with e2
     injection e2 with e2
     injection e2 with e3 e2
     injection e2 with e5 e2
     injection e2 with e4 e2
     injection e3 with _ e3
     injection e4 with _ e4
     rw [← e3,← e4];exact hne
   have LAST:=hid last
   clear last
   by_cases hk1:xk=7
   ·by_cases hi1:xw=works
    ·subst hk1 hi1
     have HF:=hid (show ofF F.op xw=q from z9L (p:=fun o=>o.kind==7 && o.works==xw) HU.o hx (by simp))
     go_wp2_with fail
     go_ret
     exact ⟨by rw [HF.o];rfl,hg2.alloc _⟩
    ·subst hk1
     go_wp2_with fail
     go_roundw
     case rel =>
      obtain ⟨_,rfl,hl⟩:=LAST.o (by simp [hi1])
      refine ⟨_,?_,?_,hl⟩
      ·exact hg2.alloc _
      ·exact (((Gr.refl _).alloc _).block _ hlt2).trans HIT.o
     case measure =>
      rw [HSN.o,z0Z (show (W2.alloc _).heap[w.heap.size]?=_ from (((Gr.refl _).alloc _).block _ hlt2).trans HIT.o)]
      exact left_shrinks es seen e HE.o
   ·go_wp2_with fail
    go_roundw
    case rel =>
     obtain ⟨_,rfl,hl⟩:=LAST.o (by simp [hk1])
     refine ⟨_,?_,?_,hl⟩
     ·exact hg2.alloc _
     ·exact (((Gr.refl _).alloc _).block _ hlt2).trans HIT.o
    case measure =>
     rw [HSN.o,z0Z (show (W2.alloc _).heap[w.heap.size]?=_ from (((Gr.refl _).alloc _).block _ hlt2).trans HIT.o)]
     exact left_shrinks es seen e HE.o
theorem zfT (w:World):(zeroValue 185).run Tryz.prog w=.ok (.agg #[.int .i64 0,.int .i64 0,.int .i64 0]) w:=by kernel_rfl
theorem z4f {w:World} {mb:Nat} {op:List (Int × Opn)} (h:MI w mb (mp opV op)) (k:Int):(Instr.lookup 155 (.map (some mb)) (.int .i64 k) true).run Tryz.prog w=.ok (.tuple #[opV ((lk op k).getD ⟨0,0,0⟩),.bool (lk op k).isSome]) w:=by
 have:=h.lookup (P:=Tryz.prog) Tryz.underlying155 Tryz.underlying3 (zfT w) k true
 rw [this]
 simp only [if_true,z45]
 cases lk op k<;>rfl
set_option maxHeartbeats 2000000 in
theorem z4P (k mb:Nat) (F:FS) (M:Bl) (ref turn:Int) (w:World) (h:z0H w M k mb F) :
  Calls Tryz.prog 136 #[.pointer (some ⟨k,0,none⟩),.int .i64 ref,.int .i64 turn] w (RetE (.bool (z1n F ref turn)) w):=by
 obtain ⟨A,c,hc,hf,hr,hk⟩:=h.parts
 obtain ⟨c0,c1,c2,c3,c4,c5,c6,c7,c8,c9,c10,c11⟩:=hf
 have hlk:=z4f h.map ref
 clear h hr
 refine retE ?_
 unfold z1n
 by_cases ht:turn=-1
 ·subst ht
  rw [if_pos rfl]
  cases hx:lk F.op ref with
  | none =>
   rw [hx] at hlk
   simp only [Option.getD_none,Option.isSome_none,opV] at hlk
   go_enter Tryz.func136,Tryz.ntmps136
   go_wp2_with fail
   go_ret
   exact ⟨rfl,(Gr.refl w).alloc _⟩
  | some x =>
   rw [hx] at hlk
   rcases x with ⟨xk,xi,xw⟩
   simp only [Option.getD_some,Option.isSome_some,opV] at hlk
   by_cases h1:xk=7
   ·by_cases h2:xw=0
    ·subst h1 h2
     go_enter Tryz.func136,Tryz.ntmps136
     go_wp2_with fail
     go_ret
     exact ⟨rfl,(Gr.refl w).alloc _⟩
    ·subst h1
     go_enter Tryz.func136,Tryz.ntmps136
     go_wp2_with fail
     go_ret
     exact ⟨by simp,(Gr.refl w).alloc _⟩
   ·go_enter Tryz.func136,Tryz.ntmps136
    go_wp2_with fail
    go_ret
    exact ⟨by simp [h1],(Gr.refl w).alloc _⟩
 ·rw [if_neg ht]
  clear hlk
  by_cases h1:F.task=1<;>by_cases h2:F.place=ref<;>by_cases h3:F.turn=turn
  all_goals
   go_enter Tryz.func136,Tryz.ntmps136
   go_wp2_with fail
   go_ret
   exact ⟨by simp_all,Gr.refl w⟩
set_option maxHeartbeats 2000000 in
theorem z6s (k mb:Nat) (F:FS) (M:Bl) (d:Value) (data:List UInt8) (now:Int) (w:World) (h:z0H w M k mb F) (hd:Bys w d data) (hl:F.l.length≤1000000) :
  Calls Tryz.prog 180 #[.pointer (some ⟨k,0,none⟩),d,.int .i64 now] w (RetE (.bool (z1L F data now)) w):=by
 obtain ⟨A,c,hc,hf,hr,hk⟩:=h.parts
 obtain ⟨c0,c1,c2,c3,c4,c5,c6,c7,c8,c9,c10,c11⟩:=hf
 obtain ⟨Ad,cd,rfl,_,_,_⟩:=hd
 clear h
 refine retE ?_
 have HR:=hid (show z1L F data now=(decide ((data.length:Int)≤4096) && (decide (0≤now) && (decide (now≤1099511627776) && (match F.l.getLast? with | none=>true | some e=>decide (e.tick≤now))))) by
  unfold z1L
  rw [Bool.and_assoc,Bool.and_assoc]
  congr 1
  refine decide_eq_decide.2 ?_
  omega)
 rw [HR.o]
 clear HR
 have go:∀ b:Bool,(match F.l.getLast? with | none=>true | some e=>decide (e.tick≤now))=b→Calls Tryz.prog 180 #[.pointer (some ⟨k,0,none⟩),.slice Ad data.length cd,.int .i64 now] w (fun e w'=>e=.returned (.bool (decide ((data.length:Int)≤4096) && (decide (0≤now) && (decide (now≤1099511627776) && b))))∧Gr w w'):=by
  intro bb hbb
  by_cases h1:(data.length:Int)≤4096
  ·by_cases h2:0≤now
   ·by_cases h3:now≤1099511627776
    ·cases he:F.l.getLast? with
     | none =>
      rw [he] at hbb
      simp only at hbb
      subst hbb
      have hl0:F.l.length=0:=by rw [List.getLast?_eq_none_iff.1 he];rfl
      have hz:((F.l.length:Int)==0)=true:=by rw [hl0];rfl
      rw [hl0] at c4
      simp only [h1,h2,h3,decide_true,Bool.and_true]
      clear hr
      go_enter Tryz.func180,Tryz.ntmps180
      go_wp2_with fail
      refine z0a (by kernel_rfl) (by kernel_rfl) ?_
      repeat (go_big_quiet_step (fail))
      refine wpQuiet_nil ?_
      rintro _ ⟨x,rfl⟩
      go_wp2_with fail
      go_ret
      exact ⟨rfl,x.gr⟩
     | some e =>
      rw [he] at hbb
      simp only at hbb
      obtain ⟨b,off,d',rfl,hb,hM,hd',h0,hn,hnc,hcell⟩:=hr.last he
      have e1:=hcell 1 (.int .i64 e.tick) rfl
      clear hcell hr hd' he
      generalize F.l.length=n at *
      have hz:((n:Int)==0)=false:=by
       have:(n:Int)≠0:=by omega
       simpa using this
      have k0:(0:Int)≤(n:Int)-1:=by omega
      have k1:(n:Int)-1<(n:Int):=by omega
      by_cases h4:e.tick≤now
      ·have hbb':bb=true:=by rw [← hbb];simp [h4]
       subst hbb'
       simp only [h1,h2,h3,decide_true,Bool.and_true]
       clear hbb
       go_enter Tryz.func180,Tryz.ntmps180
       go_wp2_with fail
       refine z0a (by kernel_rfl) (by kernel_rfl) ?_
       repeat (go_big_quiet_step (fail))
       refine wpQuiet_nil ?_
       rintro _ ⟨x,rfl⟩
       go_wp2_with fail
       go_ret
       exact ⟨rfl,x.gr⟩
      ·have hbb':bb=false:=by rw [← hbb];simp [h4]
       subst hbb'
       simp only [h1,h2,h3,decide_true,Bool.and_false]
       clear hbb
       have h4:decide (e.tick≤now)=false:=by simpa using h4
       go_enter Tryz.func180,Tryz.ntmps180
       go_wp2_with fail
       refine z0a (by kernel_rfl) (by kernel_rfl) ?_
       repeat (go_big_quiet_step (fail))
       refine wpQuiet_nil ?_
       rintro _ ⟨x,rfl⟩
       go_wp2_with fail
       go_ret
       exact ⟨rfl,x.gr⟩
    ·simp only [h1,h2,h3,decide_true,decide_false,Bool.false_and,Bool.and_false]
     clear hbb hr
     have h3:decide (now≤1099511627776)=false:=by simpa using h3
     go_enter Tryz.func180,Tryz.ntmps180
     go_wp2_with fail
     refine z0a (by kernel_rfl) (by kernel_rfl) ?_
     repeat (go_big_quiet_step (fail))
     refine wpQuiet_nil ?_
     rintro _ ⟨x,rfl⟩
     go_wp2_with fail
     go_ret
     exact ⟨rfl,x.gr⟩
   ·simp only [h1,h2,decide_true,decide_false,Bool.false_and,Bool.and_false]
    clear hbb hr
    have h2:decide (0≤now)=false:=by simpa using h2
    go_enter Tryz.func180,Tryz.ntmps180
    go_wp2_with fail
    refine z0a (by kernel_rfl) (by kernel_rfl) ?_
    repeat (go_big_quiet_step (fail))
    refine wpQuiet_nil ?_
    rintro _ ⟨x,rfl⟩
    go_wp2_with fail
    go_ret
    exact ⟨rfl,x.gr⟩
  ·simp only [h1,decide_false,Bool.false_and]
   clear hbb hr
   have h1:decide ((data.length:Int)≤4096)=false:=by simpa using h1
   go_enter Tryz.func180,Tryz.ntmps180
   go_wp2_with fail
   refine z0a (by kernel_rfl) (by kernel_rfl) ?_
   repeat (go_big_quiet_step (fail))
   refine wpQuiet_nil ?_
   rintro _ ⟨x,rfl⟩
   go_wp2_with fail
   go_ret
   exact ⟨rfl,x.gr⟩
 exact go _ rfl
end Go.Proofs.YtniknicnnaiilaaGreat
end
section
namespace Go.Proofs.YtniknicnnaiilaaGreat
set_option maxRecDepth 100000
open Go.RowKit Go.Ext
theorem z7G:∀ xs:List Int,cmpL xs xs=0
 | []=>rfl
 | x::r=>by simp [cmpL,z7G r]
theorem cmpL_eq:∀ xs ys:List Int,cmpL xs ys=0→xs=ys
 | [],[],_=>rfl
 | [],_::_,h=>by simp [cmpL] at h
 | _::_,[],h=>by simp [cmpL] at h
 | x::r,y::s,h=>by
  simp only [cmpL] at h
  split at h
  ·omega
  ·split at h
   ·omega
   ·rw [show x=y by omega,cmpL_eq r s h]
theorem z9t:∀ xs ys:List Int,cmpL ys xs=- cmpL xs ys
 | [],[]=>rfl
 | [],_::_=>rfl
 | _::_,[]=>rfl
 | x::r,y::s=>by
  simp only [cmpL]
  rcases Int.lt_trichotomy x y with h | h | h
  ·rw [if_neg (by omega),if_pos h,if_pos h];rfl
  ·rw [if_neg (by omega),if_neg (by omega),if_neg (by omega),if_neg (by omega),z9t r s]
  ·rw [if_pos h,if_neg (by omega),if_pos h]
theorem z6f:∀ xs ys zs:List Int,cmpL xs ys<0→cmpL ys zs<0→cmpL xs zs<0
 | [],[],_,h,_=>by simp [cmpL] at h
 | [],_::_,[],_,h=>by simp [cmpL] at h
 | [],_::_,_::_,_,_=>by simp [cmpL]
 | _::_,[],_,h,_=>by simp [cmpL] at h
 | _::_,_::_,[],_,h=>by simp [cmpL] at h
 | x::r,y::s,z::t,h,k=>by
  simp only [cmpL] at h k ⊢
  rcases Int.lt_trichotomy x y with e | e | e
  ·rcases Int.lt_trichotomy y z with f | f | f
   ·rw [if_pos (by omega)];omega
   ·rw [if_pos (by omega)];omega
   ·rw [if_neg (by omega),if_pos f] at k;omega
  ·subst e
   rw [if_neg (by omega),if_neg (by omega)] at h
   rcases Int.lt_trichotomy x z with f | f | f
   ·rw [if_pos f];omega
   ·subst f
    rw [if_neg (by omega),if_neg (by omega)] at k ⊢
    exact z6f r s t h k
   ·rw [if_neg (by omega),if_pos f] at k;omega
  ·rw [if_neg (by omega),if_pos e] at h;omega
def cmpI (x y:It):Int:=cmpL (il x) (il y)
theorem z7F (x:It):cmpI x x=0:=z7G _
theorem zeR {x y:It} (h:cmpI x y=0):x=y:=by
 have:=cmpL_eq _ _ h
 obtain ⟨a,b,c,d,e,f⟩:=x
 obtain ⟨a',b',c',d',e',f'⟩:=y
 simp only [il,List.cons.injEq] at this
 obtain ⟨rfl,rfl,rfl,rfl,rfl,rfl,_⟩:=this
 rfl
theorem zdq (x y:It):cmpI y x=- cmpI x y:=z9t _ _
theorem z6e {x y z:It} (h:cmpI x y<0) (k:cmpI y z<0):cmpI x z<0:=z6f _ _ _ h k
abbrev z0:It:=(0,0,0,0,0,0)
def Srt (L:List It):Prop:=L.Pairwise fun a b=>cmpI a b<0
theorem Srt.lt {L:List It} (h:Srt L) {i j:Nat} (hij:i<j) (hj:j<L.length):cmpI (L.getD i z0) (L.getD j z0)<0:=by
 have:=List.pairwise_iff_getElem.1 h i j (by omega) hj hij
 simpa [List.getD,hj,show i<L.length by omega] using this
theorem Srt.mono {L:List It} (h:Srt L) {x:It} {i j:Nat} (hij:i≤j) (hj:j<L.length) (hx:cmpI (L.getD j z0) x<0):cmpI (L.getD i z0) x<0:=by
 rcases Nat.lt_or_ge i j with h1 | h1
 ·exact z6e (h.lt h1 hj) hx
 ·rwa [show i=j by omega]
def pos (L:List It) (x:It):Nat:=(L.takeWhile fun y=>decide (cmpI y x<0)).length
theorem za2 (L:List It) (x:It):pos L x≤L.length:=(List.takeWhile_sublist _).length_le
theorem za1:∀ (L:List It) (x:It) (i:Nat),i≤L.length→(∀ t,t<i→cmpI (L.getD t z0) x<0)→(i<L.length→¬ cmpI (L.getD i z0) x<0)→pos L x=i
 | [],x,i,h,_,_=>by simp at h;simp [pos,h]
 | y::r,x,0,_,_,h=>by
  have:=h (by simp)
  simp only [List.getD_cons_zero] at this
  simp [pos,this]
 | y::r,x,i+1,h,h1,h2=>by
  have e:=h1 0 (by omega)
  simp only [List.getD_cons_zero] at e
  have:=za1 r x i (by simpa using h) (fun t ht=>by simpa using h1 (t+1) (by omega)) (fun hi=>by simpa using h2 (by simpa using hi))
  unfold pos at this ⊢
  rw [List.takeWhile_cons,if_pos (by simpa using e)]
  simp [this]
theorem zex:∀ (L:List It) (x:It) (t:Nat),t<pos L x→cmpI (L.getD t z0) x<0
 | [],x,t,h=>by simp [pos] at h
 | y::r,x,t,h=>by
  unfold pos at h
  rw [List.takeWhile_cons] at h
  split at h
  ·rename_i e
   cases t with
   | zero=>simpa using e
   | succ t=>simpa using zex r x t (by simpa [pos] using h)
  ·simp at h
theorem zev:∀ (L:List It) (x:It),pos L x<L.length→¬ cmpI (L.getD (pos L x) z0) x<0
 | [],x,h=>by simp at h
 | y::r,x,h=>by
  by_cases e:cmpI y x<0
  ·have:pos (y::r) x=pos r x+1:=by simp [pos,e]
   rw [this] at h ⊢
   simpa using zev r x (by simpa using h)
  ·have:pos (y::r) x=0:=by simp [pos,e]
   rw [this]
   simpa using e
def has (L:List It) (x:It):Bool:=decide (pos L x<L.length) && decide (L.getD (pos L x) z0=x)
theorem zfg {L:List It} (h:Srt L) (x:It):has L x=true↔x∈L:=by
 unfold has
 constructor
 ·intro e
  simp only [Bool.and_eq_true,decide_eq_true_eq] at e
  rw [← e.2]
  simp [List.getD,e.1]
 ·intro e
  obtain ⟨i,hi,rfl⟩:=List.getElem_of_mem e
  have hg:L.getD i z0=L[i]:=by simp [List.getD,hi]
  have:pos L L[i]=i:=za1 _ _ _ (by omega) (fun t ht=>by rw [← hg];exact h.lt ht hi) (fun _=>by rw [hg,z7F];omega)
  rw [this]
  simp [hi]
def ins (L:List It) (x:It):List It:=L.take (pos L x)++x::L.drop (pos L x)
theorem zfm {L:List It} (h:Srt L) {x:It} (hx:has L x=false):Srt (ins L x):=by
 have hp:=za2 L x
 unfold ins Srt
 rw [List.pairwise_append,List.pairwise_cons]
 have hgt:∀ y∈L.drop (pos L x),cmpI x y<0:=by
  intro y hy
  obtain ⟨j,hj,rfl⟩:=List.getElem_of_mem hy
  simp only [List.length_drop] at hj
  rw [List.getElem_drop]
  have h1:=zev L x (by omega)
  have h2:cmpI (L.getD (pos L x+j) z0) x ≥ 0:=by
   by_cases e:cmpI (L.getD (pos L x+j) z0) x<0
   ·exact absurd (h.mono (Nat.le_add_right _ _) (by omega) e) h1
   ·omega
  have h3:L.getD (pos L x+j) z0=L[pos L x+j]:=by simp [List.getD,show pos L x+j<L.length by omega]
  rw [h3] at h2
  have h4:cmpI L[pos L x+j] x≠0:=fun e=>by
   have:=zeR e
   have hm:x∈L:=by rw [← this];exact List.getElem_mem _
   rw [(zfg h x).2 hm] at hx
   cases hx
  have:=zdq x L[pos L x+j]
  omega
 refine ⟨List.Pairwise.sublist (List.take_sublist _ _) h,⟨hgt,List.Pairwise.sublist (List.drop_sublist _ _) h⟩,?_⟩
 intro a ha b hb
 have hax:cmpI a x<0:=by
  obtain ⟨i,hi,rfl⟩:=List.getElem_of_mem ha
  simp only [List.length_take] at hi
  have:=zex L x i (by omega)
  rw [List.getElem_take]
  simpa [List.getD,show i<L.length by omega] using this
 rcases List.mem_cons.1 hb with rfl | hb
 ·exact hax
 ·exact z6e hax (hgt b hb)
theorem zaF (L:List It) (x:It):(ins L x).length=L.length+1:=by
 have:=za2 L x
 simp [ins]
 omega
def cs6 (L:List It):List Value:=L.flatMap ic
theorem z0t (x:It):(ic x).length=6:=rfl
theorem z0l:∀ L:List It,(cs6 L).length=L.length * 6
 | []=>rfl
 | x::r=>by
  have:=z0l r
  unfold cs6 at this ⊢
  simp only [List.flatMap_cons,List.length_append,z0t,List.length_cons,this]
  omega
theorem z4G (L:List It):∀ u∈cs6 L,u.oneCell'=true:=by
 intro u hu
 obtain ⟨x,_,h⟩:=List.mem_flatMap.1 hu
 simp only [ic,List.mem_cons,List.not_mem_nil,or_false] at h
 rcases h with rfl | rfl | rfl | rfl | rfl | rfl<;>rfl
theorem z4d:∀ (L:List It) (i j:Nat),i<L.length→j<6→(cs6 L)[i * 6+j]?=(ic (L.getD i z0))[j]?
 | [],i,_,h,_=>by simp at h
 | x::r,0,j,_,hj=>by
  simp only [cs6,List.flatMap_cons,List.getD_cons_zero,Nat.zero_mul,Nat.zero_add]
  rw [List.getElem?_append_left (by rw [z0t];exact hj)]
 | x::r,i+1,j,h,hj=>by
  have:=z4d r i j (by simpa using h) hj
  simp only [cs6,List.flatMap_cons,List.getD_cons_succ] at this ⊢
  rw [List.getElem?_append_right (by rw [z0t];omega),z0t,show (i+1) * 6+j-6=i * 6+j by omega]
  exact this
theorem z5j (L M:List It):cs6 (L++M)=cs6 L++cs6 M:=by simp [cs6]
theorem z4p:∀ (L:List It) (k:Nat),cs6 (L.take k)=(cs6 L).take (k * 6)
 | [],k=>by simp [cs6]
 | x::r,0=>by simp [cs6]
 | x::r,k+1=>by
  have:=z4p r k
  simp only [cs6,List.take_succ_cons,List.flatMap_cons] at this ⊢
  rw [List.take_append,z0t,this,show (k+1) * 6-6=k * 6 by omega,List.take_of_length_le (l:=ic x) (by rw [z0t];omega)]
theorem z3X:∀ (L:List It) (k:Nat),cs6 (L.drop k)=(cs6 L).drop (k * 6)
 | [],k=>by simp [cs6]
 | x::r,0=>by simp [cs6]
 | x::r,k+1=>by
  have:=z3X r k
  simp only [cs6,List.drop_succ_cons,List.flatMap_cons] at this ⊢
  rw [List.drop_append,z0t,this,show (k+1) * 6-6=k * 6 by omega,(List.drop_eq_nil_of_le (by rw [z0t];omega):(ic x).drop ((k+1) * 6)=[]),List.nil_append]
def Row (w:World) (A:Option Addr) (L:List It):Prop :=
 L≠[]→∃ b off,A=some ⟨b,off,none⟩∧∀ i,i<L.length→∀ j u,(ic (L.getD i z0))[j]?=some u→w.cell? ⟨b,off+i * 6+j,none⟩=some u
theorem Row.keep {w w':World} {A:Option Addr} {L:List It} (h:Row w A L) (hk:∀ b,(∃ off,A=some ⟨b,off,none⟩)→b<w.heap.size→w'.heap[b]?=w.heap[b]?):Row w' A L:=fun hn=>by
 obtain ⟨b,off,rfl,hc⟩:=h hn
 refine ⟨b,off,rfl,fun i hi j u hu=>?_⟩
 have h1:=hc i hi j u hu
 exact (World.cell?_of_block (hk b ⟨off,rfl⟩ (World.block_lt_of_cell? w _ h1))).trans h1
theorem Row.gr {w w':World} {A:Option Addr} {L:List It} (h:Row w A L) (g:Gr w w'):Row w' A L:=h.keep fun b _ hb=>g.block b hb
theorem Row.at_ {w:World} {A:Option Addr} {L:List It} (h:Row w A L) {i:Nat} (hi:i<L.length):∃ b off,A=some ⟨b,off,none⟩∧b<w.heap.size ∧
  w.cell? ⟨b,off+i * 6,none⟩=some (.int .i64 (L.getD i z0).1)∧w.cell? ⟨b,off+i * 6+1,none⟩=some (.int .i64 (L.getD i z0).2.1)∧w.cell? ⟨b,off+i * 6+2,none⟩=some (.int .i64 (L.getD i z0).2.2.1) ∧
  w.cell? ⟨b,off+i * 6+3,none⟩=some (.int .i64 (L.getD i z0).2.2.2.1)∧w.cell? ⟨b,off+i * 6+4,none⟩=some (.int .i64 (L.getD i z0).2.2.2.2.1)∧w.cell? ⟨b,off+i * 6+5,none⟩=some (.int .i64 (L.getD i z0).2.2.2.2.2):=by
 obtain ⟨b,off,rfl,hc⟩:=h (by rintro rfl;simp at hi)
 refine ⟨b,off,rfl,World.block_lt_of_cell? w _ (hc i hi 0 _ rfl),hc i hi 0 _ rfl,hc i hi 1 _ rfl,hc i hi 2 _ rfl,hc i hi 3 _ rfl,hc i hi 4 _ rfl,hc i hi 5 _ rfl⟩
theorem Row.of_own {w:World} {A:Option Addr} {L:List It} {B c:Nat} (h:w.ownsRow B 92 6 (.slice A L.length c) L.length (cs6 L)):Row w A L:=fun hn=>by
 obtain ⟨b,off,rfl,hc⟩:=Rd.of_own h (by intro e;have:=z0l L;rw [show cs6 L=[] from e] at this;exact hn (List.eq_nil_of_length_eq_zero (by simp at this;omega)))
 refine ⟨b,off,rfl,fun i hi j u hu=>?_⟩
 rw [Nat.add_assoc]
 refine hc _ _ ?_
 rw [z4d L i j hi (by have:=(List.getElem?_eq_some_iff.1 hu).1;rwa [z0t] at this)]
 exact hu
end Go.Proofs.YtniknicnnaiilaaGreat
end
section
namespace Go.Proofs.YtniknicnnaiilaaGreat
set_option maxRecDepth 100000
open Go.RowKit Go.Ext Go.BigFrame
attribute [local go_sem] Ext.cell Ext.frozen Ext.lt Ext.le s1 s2 s3 s4 s5 s6 t1 t2 t3 t4 t5 t6
attribute [local go_sem ↓] Go.wp_at_zero Go.wp_at_succ
theorem zdY (a b c d e f:Int) (w:World):Calls Tryz.prog 121 #[.agg #[.int .i64 a,.int .i64 b,.int .i64 c,.int .i64 d,.int .i64 e,.int .i64 f]] w (RetP (fun w' v=>Ints w' v [a,b,c,d,e,f]) w):=z91 (a,b,c,d,e,f) w
set_option maxHeartbeats 1000000 in
theorem z9s (a b c d e f a' b' c' d' e' f':Int) (w:World):Calls Tryz.prog 119 #[.agg #[.int .i64 a,.int .i64 b,.int .i64 c,.int .i64 d,.int .i64 e,.int .i64 f],.agg #[.int .i64 a',.int .i64 b',.int .i64 c',.int .i64 d',.int .i64 e',.int .i64 f']] w
    (RetE (.int .i64 (cmpI (a,b,c,d,e,f) (a',b',c',d',e',f'))) w):=by
  refine retE ?_
  have HC:=hid (show cmpL [a,b,c,d,e,f] [a',b',c',d',e',f']=cmpI (a,b,c,d,e,f) (a',b',c',d',e',f') from rfl)
  obtain ⟨r,hr⟩:∃ r,cmpI (a,b,c,d,e,f) (a',b',c',d',e',f')=r:=⟨_,rfl⟩
  rw [hr] at HC ⊢
  clear hr
  go_enter Tryz.func119,Tryz.ntmps119
  go_wp2_with fail
  have G0:=hid (((Gr.refl w).alloc (.cells #[.int .i64 a,.int .i64 b,.int .i64 c,.int .i64 d,.int .i64 e,.int .i64 f] 92)).alloc (.cells #[.int .i64 a',.int .i64 b',.int .i64 c',.int .i64 d',.int .i64 e',.int .i64 f'] 92))
  go_region_held3 (fun w'=>(w'.cell? ⟨w.heap.size,0,none⟩=some (.int .i64 a)∧w'.cell? ⟨w.heap.size,1,none⟩=some (.int .i64 b)∧w'.cell? ⟨w.heap.size,2,none⟩=some (.int .i64 c)∧w'.cell? ⟨w.heap.size,3,none⟩=some (.int .i64 d)∧w'.cell? ⟨w.heap.size,4,none⟩=some (.int .i64 e)∧w'.cell? ⟨w.heap.size,5,none⟩=some (.int .i64 f))∧w'.cell? ⟨w.heap.size+1,0,none⟩=some (.int .i64 a')∧w'.cell? ⟨w.heap.size+1,1,none⟩=some (.int .i64 b')∧w'.cell? ⟨w.heap.size+1,2,none⟩=some (.int .i64 c')∧w'.cell? ⟨w.heap.size+1,3,none⟩=some (.int .i64 d')∧w'.cell? ⟨w.heap.size+1,4,none⟩=some (.int .i64 e')∧w'.cell? ⟨w.heap.size+1,5,none⟩=some (.int .i64 f'))
    (first | go_keep | (refine ⟨⟨?_,?_,?_,?_,?_,?_⟩,?_,?_,?_,?_,?_,?_⟩<;>go_simp;done))
    (first
      | (go_at_call 121
         refine (zdY _ _ _ _ _ _ _).mono ?_
         rintro e _ ⟨v1,y1,rfl,rfl,h1⟩
         have H1:=hid h1
         clear h1)
      | (go_at_call 120
         refine (z8F [a,b,c,d,e,f] [a',b',c',d',e',f'] _ _ _ (Ints.gr (Hid.o (by assumption)) (Ext.gr _)) (Hid.o (by assumption))).mono ?_
         rintro e _ ⟨rfl,rfl⟩))
  go_wp2_with fail
  go_ret
  exact ⟨by rw [← HC.o];rfl,(G0.o.drew.ext _).ext _⟩
end Go.Proofs.YtniknicnnaiilaaGreat
end
section
namespace Go.Proofs.YtniknicnnaiilaaGreat
set_option maxRecDepth 100000
open Go.RowKit Go.Ext Go.BigFrame
theorem zfe:Tryz.prog.eqGuardType Tryz.prog.depth 92=false:=by kernel_rfl
theorem zfH:Tryz.prog.stoodInHeld 92=false:=by kernel_rfl
theorem zhD:Tryz.prog.underlying 92=some (.struct (Tryz.prog.fieldsOf 92)):=by kernel_rfl
theorem eqI (a b c d e f a' b' c' d' e' f':Int):decide (((a',b',c',d',e',f'):It)=(a,b,c,d,e,f))=(((((((a'==a) && (b'==b)) && (c'==c)) && (d'==d)) && (e'==e)) && (f'==f))):=by
 rw [Bool.eq_iff_iff]
 simp only [decide_eq_true_eq,Prod.mk.injEq,Bool.and_eq_true,beq_iff_eq,and_assoc]
theorem zbE (a b c d e f a' b' c' d' e' f':Int) (w:World):(Op.equalIn 10000 92 (.agg #[.int .i64 a',.int .i64 b',.int .i64 c',.int .i64 d',.int .i64 e',.int .i64 f']) (.agg #[.int .i64 a,.int .i64 b,.int .i64 c,.int .i64 d,.int .i64 e,.int .i64 f])).run Tryz.prog w=.ok (decide (((a',b',c',d',e',f'):It)=(a,b,c,d,e,f))) w:=by
 rw [eqI]
 have u3:=Tryz.underlying3
 have a3:=Tryz.isAgg3
 have z3:=Tryz.sizeOf3
 rw [show (10000:Nat)=9999+1 from rfl,run_equalIn_agg w 9999 92 _ _ zhD zfH]
 simp only [Program.fieldsOf,Tryz.underlying92]
 go_simp
 cases h1:a'==a<;>cases h2:b'==b<;>cases h3:c'==c<;>cases h4:d'==d<;>cases h5:e'==e<;>cases h6:f'==f<;>simp_all
section
variable (a b c d e f a' b' c' d' e' f':Int) (w:World)
theorem eq92:(binOp .eql 92 (.agg #[.int .i64 a',.int .i64 b',.int .i64 c',.int .i64 d',.int .i64 e',.int .i64 f']) (.agg #[.int .i64 a,.int .i64 b,.int .i64 c,.int .i64 d,.int .i64 e,.int .i64 f])).run Tryz.prog w=.ok (.bool (decide (((a',b',c',d',e',f'):It)=(a,b,c,d,e,f)))) w:=by
 rw [run_eql_struct,zbE];rfl
end
end Go.Proofs.YtniknicnnaiilaaGreat
end
section
namespace Go.Proofs.YtniknicnnaiilaaGreat
set_option maxRecDepth 100000
open Go.RowKit Go.Ext Go.BigFrame
attribute [local go_sem] Ext.cell Ext.frozen Ext.lt Ext.le s1 s2 s3 s4 s5 s6 t1 t2 t3 t4 t5 t6
attribute [local go_sem ↓] Go.wp_at_zero Go.wp_at_succ
theorem box6 {a b c d e f:Int} {w W:World} (g:Gr (w.alloc (.cells #[.int .i64 a,.int .i64 b,.int .i64 c,.int .i64 d,.int .i64 e,.int .i64 f] 92)) W) :
  W.cell? ⟨w.heap.size,0,none⟩=some (.int .i64 a)∧W.cell? ⟨w.heap.size,1,none⟩=some (.int .i64 b)∧W.cell? ⟨w.heap.size,2,none⟩=some (.int .i64 c)∧W.cell? ⟨w.heap.size,3,none⟩=some (.int .i64 d)∧W.cell? ⟨w.heap.size,4,none⟩=some (.int .i64 e)∧W.cell? ⟨w.heap.size,5,none⟩=some (.int .i64 f)∧w.heap.size<W.heap.size:=by
 refine ⟨?_,?_,?_,?_,?_,?_,?_⟩
 iterate 6 (rw [g.cell (by simp)];go_simp)
 have:=g.size
 simp at this
 omega
set_option maxHeartbeats 2000000 in
theorem zaW (A:Option Addr) (cp:Nat) (L:List It) (x:It) (w:World) (hr:Row w A L) (hs:Srt L) (hl:L.length≤4398046511103) :
  Calls Tryz.prog 118 #[.slice A L.length cp,iv x,.func (.func 119) #[] #[]] w (RetP (fun _ v=>∃ r,v=.tuple #[.int .i64 (pos L x),.bool r]) w):=by
 have HR:=hid hr
 have HS:=hid hs
 clear hr hs
 have HP:=hid (fun i h1 h2 (h3:i<L.length→0≤cmpI (L.getD i z0) x)=>za1 L x i h1 h2 (fun h=>Int.not_lt.2 (h3 h)))
 obtain ⟨p,hp⟩:∃ p,pos L x=p:=⟨_,rfl⟩
 rw [hp] at HP ⊢
 clear hp
 obtain ⟨a,b,c,d,e,f⟩:=x
 simp only [iv]
 go_enter Tryz.func118,Tryz.ntmps118
 go_wp2_with fail
 have HG0:=hid (Gr.refl (w.alloc (.cells #[.int .i64 a,.int .i64 b,.int .i64 c,.int .i64 d,.int .i64 e,.int .i64 f] 92)))
 go_loopw [9,10,11] (fun i j _ wr=>∃ lo hi:Nat,lo≤hi∧hi≤L.length∧i=.int .i64 lo∧j=.int .i64 hi∧(∀ t,t<lo→cmpI (L.getD t z0) (a,b,c,d,e,f)<0)∧(hi<L.length→0≤cmpI (L.getD hi z0) (a,b,c,d,e,f))∧Gr (w.alloc (.cells #[.int .i64 a,.int .i64 b,.int .i64 c,.int .i64 d,.int .i64 e,.int .i64 f] 92)) wr) (fun i j _ _=>(intOf j).toNat-(intOf i).toNat)
 case atStart=>exact ⟨0,L.length,Nat.zero_le _,Nat.le_refl _,rfl,rfl,fun t ht=>absurd ht (by omega),fun h=>absurd h (by omega),HG0.o⟩
 case round =>
  obtain ⟨lo,hi,hlh,hhl,rfl,rfl,hlo,hhi,hg⟩:=hrel
  have HG:=hid hg
  have HLO:=hid hlo
  have HHI:=hid hhi
  clear hlo hhi hg
  obtain ⟨b0,b1,b2,b3,b4,b5,hbl⟩:=box6 HG.o
  by_cases hlt:lo<hi
  ·obtain ⟨m,hm⟩:∃ m:Nat,(lo+hi) / 2=m:=⟨_,rfl⟩
   have hm1:lo≤m:=by omega
   have hm2:m<hi:=by omega
   obtain ⟨bb,off,rfl,hbb,c0,c1,c2,c3,c4,c5⟩:=(HR.o.gr (((Gr.refl w).alloc _).trans HG.o)).at_ (i:=m) (by omega)
   obtain ⟨⟨a',b',c',d',e',f'⟩,hy⟩:∃ y,L.getD m z0=y:=⟨_,rfl⟩
   rw [hy] at c0 c1 c2 c3 c4 c5
   simp only at c0 c1 c2 c3 c4 c5
   have HY:=hid hy
   clear hy
   have hmi:((lo:Int)+(hi:Int)) / 2=(m:Int):=by omega
   have HM:=hid hm
   clear hm
   have HC:=fun W=>z9s a' b' c' d' e' f' a b c d e f W
   obtain ⟨r,hrr⟩:∃ r,cmpI (a',b',c',d',e',f') (a,b,c,d,e,f)=r:=⟨_,rfl⟩
   rw [hrr] at HC
   have HRR:=hid hrr
   clear hrr
   go_wp2_with fail
   refine z0a (by kernel_rfl) (by kernel_rfl) ?_
   repeat (go_big_quiet_step (first | (go_at_fn 40;rename_i x;exact z1u _ (HC _)) | (go_at_call 119;rename_i x;exact z1u _ (HC _))))
   refine wpQuiet_nil ?_
   rintro _ ⟨x,rfl⟩
   by_cases hr0:r<0
   ·go_wp2_with fail
    go_roundw
    case rel=>exact ⟨m+1,hi,by omega,hhl,by go_num,rfl,fun t ht=>HS.o.mono (j:=m) (by omega) (by omega) (by rw [HY.o,HRR.o];exact hr0),HHI.o,HG.o.ext _⟩
    case measure=>simp [intOf];omega
   ·go_wp2_with fail
    go_roundw
    case rel=>exact ⟨lo,m,by omega,by omega,rfl,by go_num,HLO.o,fun _=>by rw [HY.o,HRR.o];exact Int.not_lt.1 hr0,HG.o.ext _⟩
    case measure=>simp [intOf];omega
  ·have hle:lo=hi:=by omega
   subst hle
   have hpe:p=lo:=HP.o lo (by omega) HLO.o HHI.o
   subst hpe
   clear HP
   by_cases hn:p<L.length
   ·obtain ⟨bb,off,rfl,hbb,c0,c1,c2,c3,c4,c5⟩:=(HR.o.gr (((Gr.refl w).alloc _).trans HG.o)).at_ (i:=p) (by omega)
    obtain ⟨⟨a',b',c',d',e',f'⟩,hy⟩:∃ y,L.getD p z0=y:=⟨_,rfl⟩
    rw [hy] at c0 c1 c2 c3 c4 c5
    simp only at c0 c1 c2 c3 c4 c5
    clear hy
    have HC:=fun W=>z9s a' b' c' d' e' f' a b c d e f W
    generalize cmpI (a',b',c',d',e',f') (a,b,c,d,e,f)=r at HC
    have hpn:(p:Int)<(L.length:Int):=by omega
    go_wp2_with fail
    refine z0a (by kernel_rfl) (by kernel_rfl) ?_
    repeat (go_big_quiet_step (first | (go_at_fn 40;rename_i x;exact z1u _ (HC _)) | (go_at_call 119;rename_i x;exact z1u _ (HC _))))
    refine wpQuiet_nil ?_
    rintro _ ⟨x,rfl⟩
    go_wp2_with fail
    go_ret2
    exact ⟨_,⟨x.val,(((Gr.refl w).alloc _).trans HG.o).ext x⟩,rfl,rfl,_,rfl⟩
   ·have hpn:¬ (p:Int)<(L.length:Int):=by omega
    go_wp2_with fail
    refine z0a (by kernel_rfl) (by kernel_rfl) ?_
    repeat (go_big_quiet_step (fail))
    refine wpQuiet_nil ?_
    rintro _ ⟨x,rfl⟩
    go_wp2_with fail
    go_ret2
    exact ⟨_,⟨x.val,(((Gr.refl w).alloc _).trans HG.o).ext x⟩,rfl,rfl,_,rfl⟩
structure HB (base:Nat) (w:World) (g:Nat) (v:Value) (L:List It):Prop where
 lo:base≤g
 cell:w.heap[g]?=some (.cells #[v] 132 (0,0))
 row:w.ownsRow base 92 6 v L.length (cs6 L)
theorem HB.shape {base:Nat} {w:World} {g:Nat} {v:Value} {L:List It} (h:HB base w g v L):∃ A c,v=.slice A L.length c:=by
 rcases h.row.2 with ⟨rfl,h0⟩ | ⟨g,cap,cur,rfl,_⟩
 ·exact ⟨none,0,by rw [h0]⟩
 ·exact ⟨_,_,rfl⟩
theorem HB.lt {base:Nat} {w:World} {g:Nat} {v:Value} {L:List It} (h:HB base w g v L):g<w.heap.size:=(Array.getElem?_eq_some_iff.1 h.cell).1
theorem HB.c0 {base:Nat} {w:World} {g:Nat} {v:Value} {L:List It} (h:HB base w g v L):w.cell? ⟨g,0,none⟩=some v:=by simp [World.cell?,h.cell]
theorem HB.ne {base:Nat} {w:World} {g:Nat} {v:Value} {L:List It} (h:HB base w g v L):some g≠v.ownBlock:=fun e=>by
 rcases h.row.2 with ⟨rfl,_⟩ | ⟨g',cap,cur,rfl,_,hh,_⟩
 ·simp [Value.ownBlock] at e
 ·simp [Value.ownBlock] at e;subst e;rw [h.cell] at hh;injection hh with hh;injection hh with _ ht _;cases ht
theorem HB.mod {base:Nat} {S:Nat→Prop} {w w':World} {g:Nat} {v:Value} {L:List It} (h:HB base w g v L) (m:Mod S w w') (h1:¬ S g) (h2:∀ k,v.ownBlock=some k→¬ S k):HB base w' g v L:=by
 refine ⟨h.lo,(m.block g h.lt h1).trans h.cell,h.row.1,?_⟩
 rcases h.row.2 with h3 | ⟨g',cap,cur,hv,hb,hh,r⟩
 ·exact .inl h3
 ·exact .inr ⟨g',cap,cur,hv,hb,(m.block g' (Array.getElem?_eq_some_iff.1 hh).1 (h2 g' (by rw [hv];rfl))).trans hh,r⟩
theorem HB.gr {base:Nat} {w w':World} {g:Nat} {v:Value} {L:List It} (h:HB base w g v L) (g1:Gr w w'):HB base w' g v L:=h.mod (g1.mod fun _=>False) (fun e=>e) (fun _ _ e=>e)
theorem HB.arow {base:Nat} {w:World} {g n c:Nat} {A:Option Addr} {L:List It} (h:HB base w g (.slice A n c) L) (hn:n=L.length):Row w A L:=by subst hn;exact Row.of_own h.row
set_option maxHeartbeats 2000000 in
theorem z9K (base g:Nat) (v:Value) (L:List It) (x:It) (w:World) (h:HB base w g v L) (hs:Srt L) (hl:L.length≤4398046511103) :
    Calls Tryz.prog 78 #[.pointer (some ⟨g,0,none⟩),iv x] w (RetE (.tuple #[.int .i64 (pos L x),.bool (has L x)]) w):=by
  refine retE ?_
  obtain ⟨A,cp,rfl⟩:=h.shape
  have HS:=hid hs
  clear hs
  have c0:=h.c0
  have hgl:=h.lt
  have HR:=hid (h.arow rfl)
  have hpl:=za2 L x
  have HH:=hid (show has L x=(decide (pos L x<L.length) && decide (L.getD (pos L x) z0=x)) from rfl)
  have HSR:=hid (fun W (g:Gr w W)=>zaW A cp L x W (HR.o.gr g) HS.o hl)
  generalize pos L x=p at *
  generalize has L x=res at *
  obtain ⟨a,b,c,d,e,f⟩:=x
  simp only [iv] at HSR ⊢
  clear h
  go_enter Tryz.func78,Tryz.ntmps78
  go_wp2_with fail
  have G0:=hid ((Gr.refl w).alloc (.cells #[.int .i64 a,.int .i64 b,.int .i64 c,.int .i64 d,.int .i64 e,.int .i64 f] 92))
  go_region_held3 (fun w'=>(w'.cell? ⟨w.heap.size,0,none⟩=some (.int .i64 a)∧w'.cell? ⟨w.heap.size,1,none⟩=some (.int .i64 b)∧w'.cell? ⟨w.heap.size,2,none⟩=some (.int .i64 c)∧w'.cell? ⟨w.heap.size,3,none⟩=some (.int .i64 d)∧w'.cell? ⟨w.heap.size,4,none⟩=some (.int .i64 e)∧w'.cell? ⟨w.heap.size,5,none⟩=some (.int .i64 f))∧w'.cell? ⟨g,0,none⟩=some (.slice A L.length cp))
    (first | go_keep | (refine ⟨⟨?_,?_,?_,?_,?_,?_⟩,?_⟩<;>go_simp;done))
    (first
      | (go_at_call 118
         refine (HSR.o _ G0.o.drew).mono ?_
         rintro e _ ⟨_,y1,rfl,rfl,r,rfl⟩))
  have G1:=hid (show Gr w y1.val from G0.o.drew.ext y1)
  have HG:=hid (show Gr (w.alloc (.cells #[.int .i64 a,.int .i64 b,.int .i64 c,.int .i64 d,.int .i64 e,.int .i64 f] 92)) y1.val from (Gr.refl _).drew.ext y1)
  obtain ⟨b0,b1,b2,b3,b4,b5,hbl⟩:=box6 HG.o
  have k0:y1.val.cell? ⟨g,0,none⟩=some (.slice A L.length cp):=(G1.o.cell hgl).trans c0
  have hgl1:g<y1.val.heap.size:=Nat.lt_of_lt_of_le hgl G1.o.size
  by_cases hn:p<L.length
  · obtain ⟨bb,off,rfl,hbb,d0,d1,d2,d3,d4,d5⟩:=(HR.o.gr G1.o).at_ (i:=p) hn
    obtain ⟨⟨a',b',c',d',e',f'⟩,hy⟩:∃ y,L.getD p z0=y:=⟨_,rfl⟩
    rw [hy] at d0 d1 d2 d3 d4 d5 HH
    simp only at d0 d1 d2 d3 d4 d5
    rw [decide_eq_true hn,Bool.true_and] at HH
    have heq:=fun (W:World)=>eq92 a b c d e f a' b' c' d' e' f' W
    have hgd:=zfe
    generalize decide (((a',b',c',d',e',f'):It)=(a,b,c,d,e,f))=q at heq HH
    clear hy
    have hpn:(p:Int)<(L.length:Int):=by omega
    go_wp2_with fail
    refine z0a (by kernel_rfl) (by kernel_rfl) ?_
    repeat (go_big_quiet_step (fail))
    refine wpQuiet_nil ?_
    rintro _ ⟨x,rfl⟩
    go_wp2_with fail
    go_ret2
    exact ⟨by rw [HH.o];rfl,G1.o.ext x⟩
  · have hpn:¬ (p:Int)<(L.length:Int):=by omega
    rw [decide_eq_false hn,Bool.false_and] at HH
    go_wp2_with fail
    refine z0a (by kernel_rfl) (by kernel_rfl) ?_
    repeat (go_big_quiet_step (fail))
    refine wpQuiet_nil ?_
    rintro _ ⟨x,rfl⟩
    go_wp2_with fail
    go_ret2
    exact ⟨by rw [HH.o];rfl,G1.o.ext x⟩
end Go.Proofs.YtniknicnnaiilaaGreat
end
