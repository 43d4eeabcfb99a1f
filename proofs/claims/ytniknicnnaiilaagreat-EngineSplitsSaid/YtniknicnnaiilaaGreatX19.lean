/- Lemmas of the engine. -/
import Derived.Deep.AppendLies
import Derived.Test.YtniknicnnaiilaaGreatX06
import Derived.Test.YtniknicnnaiilaaGreatX12
import Derived.Test.YtniknicnnaiilaaGreatX13
import Derived.Test.YtniknicnnaiilaaGreatX14
import Derived.Test.YtniknicnnaiilaaGreatX18
section
namespace Go.Proofs.YtniknicnnaiilaaGreat
set_option maxRecDepth 100000
open Go.RowKit Go.Ext Go.BigFrame Go.Maps Go.MapKept
attribute [local go_sem] Ext.cell Ext.frozen Ext.lt Ext.le s1 s2 s3 s4 s5 s6 t1 t2 t3 t4 t5 t6
attribute [local go_sem ↓] Go.wp_at_zero Go.wp_at_succ
def z6M (l:List Dec) (now:Int) (F:FS):FR :=
 if F.late=true∧z6R l=true then ((z0y F 2 now).1,(z0y F 2 now).2,23) else
 if F.late=true∧z0B (z0n now (putF F ⟨4,now,F.begun,0,0,0,[]⟩,[]) l).1.l=1 then
  ok ((z07 (z0n now (putF F ⟨4,now,F.begun,0,0,0,[]⟩,[]) l).1 now).1,(z0n now (putF F ⟨4,now,F.begun,0,0,0,[]⟩,[]) l).2++(z07 (z0n now (putF F ⟨4,now,F.begun,0,0,0,[]⟩,[]) l).1 now).2)
 else ok (z0n now (putF F ⟨4,now,F.begun,0,0,0,[]⟩,[]) l)
theorem zdx {l:List Dec} {d:Dec} (h:l.getLast?=some d):z6R l=decide (5≤d.kind):=by unfold z6R;rw [h]
theorem z61 (A:Option Addr) (n c:Nat) (ty:TypeId) (W:World) (h:n≤c):(Builtin.append_ #[127,127] ty #[.slice A n c,.slice none 0 0]).run Tryz.prog W=.ok (.slice A n c) W:=by
 have u:=Tryz.underlying127
 cases A<;>go_simp
theorem FW.swap {w:World} {M M':Bl} {k mb:Nat} {F:FS} (h:FW w M k mb F) (hM:∀ b,b<w.heap.size→M' b→M b) (hk:M' k) (hmb:M' mb) (hlt:∀ b,M' b→b<w.heap.size):FW w M' k mb F :=
 ⟨h.r.up ⟨(Gr.refl w).mod M,hM⟩ rfl rfl,hk,hmb,h.ne,hlt,h.l,h.i⟩
structure DL (w w':World) (M:Bl) (k mb B4:Nat) (now:Int) (l:List Dec) (X0:FS × List Out) (i:Nat) (v:Value) (x:FS × List Out):Prop where
 fold:z0n now x (l.drop i)=X0
 fw:FW w' (ownB M v) k mb x.1
 outs:z1T w' M w.heap.size v x.2
 mod:Mod (fun b=>b=k∨b=mb) w w'
 bad:badL x.1.id x.1.asked (isOf x.1.op) (l.drop i)=false
 ne:x.1.l≠[]
 len:x.1.l.length≤5000+i
 n:x.2.length≤i
 box:w'.heap[B4]?=some (.cells #[.int .i64 now] 3 (0,0))
section
variable {w w' w2 w3:World} {M:Bl} {k mb B4:Nat} {now:Int} {l:List Dec} {X0:FS × List Out} {i:Nat} {v v':Value} {x:FS × List Out}
theorem DL.own (h:DL w w' M k mb B4 now l X0 i v x):∀ b,v.ownBlock=some b→w.heap.size≤b∧b<w'.heap.size:=fun b e=>by
 obtain ⟨ds,_,ho⟩:=h.outs
 exact ho.lt b e
theorem DL.none {d:Dec} (h:DL w w' M k mb B4 now l X0 i v x) (hM:∀ b,M b→b<w.heap.size) (hk:M k) (hmb:M mb) (hd:l.drop i=d::l.drop (i+1)) (ho:(z0d x.1 d now).2=[])
  (hfw:FW w2 (ownB M v) k mb (z0d x.1 d now).1) (hm:Mod (fun b=>b=k∨b=mb) w' w2) (hi:FI x.1):DL w w2 M k mb B4 now l X0 (i+1) v ((z0d x.1 d now).1,x.2):=by
 have hb:=h.bad
 have hf:=h.fold
 rw [hd] at hb hf
 obtain ⟨h1,h2,h3,h4⟩:=z6H (now:=now) hi hb
 have e1:=(z3r x.1 d now).1
 refine ⟨?_,hfw,h.outs.mod hm (fun b e=>by rcases e with rfl | rfl<;>assumption) (fun b e e2=>?_),h.mod.trans hm (fun _ _ e=>e),h4,(z3r x.1 d now).2.1,?_,by have:=h.n;dsimp only;omega,z1o h.fw.r h.box (by decide) hm⟩
 ·simpa only [z0n,ho,List.append_nil] using hf
 ·have:=(h.own b e).1
  have:=hM k hk
  have:=hM mb hmb
  rcases e2 with rfl | rfl<;>omega
 ·dsimp only;rw [e1];have:=h.len;omega
theorem DL.one {d:Dec} {o:Out} {dv:Value} {ds:List Value} (h:DL w w' M k mb B4 now l X0 i v x) (hM:∀ b,M b→b<w.heap.size) (hk:M k) (hmb:M mb) (hd:l.drop i=d::l.drop (i+1)) (ho:(z0d x.1 d now).2=[o])
  (hfw:FW w2 (ownB M v) k mb (z0d x.1 d now).1) (hm:Mod (fun b=>b=k∨b=mb) w' w2) (hi:FI x.1) (hds:DatM w2 (ownB M v) (x.2.map outR) ds) (hdv:BysM w2 (ownB M v) dv o.data)
  (hown:w3.ownsRow w.heap.size 188 8 v' (x.2.length+1) (rowC (x.2.map outR) ds++recC (outR o) dv)) (hg:Mod (fun b=>some b=v.ownBlock) w2 w3) (hv:v'.ownBlock=v.ownBlock∨∃ b,v'.ownBlock=some b∧w2.heap.size≤b) :
  DL w w3 M k mb B4 now l X0 (i+1) v' ((z0d x.1 d now).1,x.2++[o]):=by
 have hb:=h.bad
 have hf:=h.fold
 rw [hd] at hb hf
 obtain ⟨h1,h2,h3,h4⟩:=z6H (now:=now) hi hb
 have e1:=(z3r x.1 d now).1
 have u:=zcC (M:=M) hg hv
 have hkk:=hM k hk
 have hmm:=hM mb hmb
 have nk:¬ some k=v.ownBlock:=fun e=>by have:=(h.own k e.symm).1;omega
 have nmb:¬ some mb=v.ownBlock:=fun e=>by have:=(h.own mb e.symm).1;omega
 have n4:¬ some B4=v.ownBlock:=fun e=>by
  obtain ⟨ds',_,ho'⟩:=h.outs
  rcases ho'.2 with ⟨e',_⟩ | ⟨g,cap,cur,e',_,hh,_⟩
  ·rw [e'] at e;cases e
  ·rw [e'] at e
   injection e with e
   subst e
   rw [h.box] at hh
   injection hh with hh
   injection hh with _ hh _
   cases hh
 have hs2:=hm.size
 have hbox2:=z1o h.fw.r h.box (by decide) hm
 refine ⟨?_,⟨hfw.r.up u (hg.block k hfw.r.lt.1 nk) (hg.block mb hfw.r.lt.2 nmb),.inl hk,.inl hmb,hfw.ne,fun b e=>?_,hfw.l,hfw.i⟩,z1T.app hds hdv hown u,(h.mod.trans hm (fun _ _ e=>e)).trans hg (fun b hb e=>?_),h4,(z3r x.1 d now).2.1,?_,by have:=h.n;simp only [List.length_append,List.length_cons,List.length_nil];omega,(hg.block B4 (block_lt hbox2) n4).trans hbox2⟩
 ·simpa only [z0n,ho] using hf
 ·rcases e with e | e
  ·have:=hM b e;have:=h.mod.size;have:=hg.size;omega
  ·exact (hown.lt b e).2
 ·have:=(h.own b e.symm).1;omega
 ·dsimp only;rw [e1];have:=h.len;omega
end
theorem zcO {w:World} {M:Bl} (o:Out) {dv:Value} (h:BysM w M dv o.data):∀ u∈recC (outR o) dv,u.oneCell'=true:=fun u hu=>by
 simp only [recC,List.mem_append,List.mem_map,List.mem_singleton] at hu
 rcases hu with ⟨n,_,rfl⟩ | rfl
 ·rfl
 ·obtain ⟨_,_,rfl⟩:=h.shape;rfl
set_option maxHeartbeats 8000000 in
theorem zbf (PUT:z0e) (k mb B1 B2 B3 B4:Nat) (F:FS) (ref turn now:Int) (l:List Dec) (vl:Value) (M:Bl) (w:World) (h:FW w M k mb F) (hF:FOk F) (h1:w.heap[B1]?=some (.cells #[.int .i64 ref] 3 (0,0))) (h2:w.heap[B2]?=some (.cells #[.int .i64 turn] 3 (0,0)))
    (h3:w.heap[B3]?=some (.cells #[vl] 33 (0,0))) (h4:w.heap[B4]?=some (.cells #[.int .i64 now] 3 (0,0))) (hl:z08 decR w M vl l) (hnow:0≤now∧now≤1099511627776) :
    Calls Tryz.prog 148 #[.pointer (some ⟨k,0,none⟩),.pointer (some ⟨B1,0,none⟩),.pointer (some ⟨B2,0,none⟩),.pointer (some ⟨B3,0,none⟩),.pointer (some ⟨B4,0,none⟩)] w (RetA M k mb (z1p ref turn l now F) w):=by
  have q1:=z1b h1
  have q2:=z1b h2
  have q3:=z1b h3
  have q4:=z1b h4
  have l1:=block_lt h1
  have l2:=block_lt h2
  have l3:=block_lt h3
  have l4:=block_lt h4
  have H3:=hid h3
  have H4:=hid h4
  have H:=hid h
  have HL:=hid hl
  obtain ⟨Al,cl_,rfl,hlc⟩:=hl.shape
  obtain ⟨A,c,hc,⟨c0,c1,c2,c3,c4,c5,c6,c7,c8,c9,c10,c11⟩,hr,hk⟩:=h.r.parts
  have HBAD:=hid (fun (W:World) (g:Gr w W)=>zeM k mb F M M l _ W (h.r.gr g) h.i h.l (hl.up (Gr.up g M)))
  have HFA:=hid (fun (n:Int) (hn:0≤n∧n≤1048576) (W:World) (g:Gr w W)=>zav PUT k mb F n now M W (h.gr g) hF hn)
  clear h h1 h2 h3 h4 hl hr hc
  unfold z1p
  have stale:∀ W,Gr w W→RetA M k mb (F,[],21) w (.returned (.tuple #[.slice none 0 0,.int .i64 21])) W:=fun W g=>⟨none,0,rfl,H.o.r.gr g,z08.none _ _ _,g.mod _⟩
  have ST:=hid stale
  clear stale
  by_cases e1:F.task=2
  rotate_left
  · rw [if_pos (.inl e1)]
    have e1b:(F.task != 2)=true:=by simpa using e1
    go_enter Tryz.func148,Tryz.ntmps148
    go_wp2_with fail
    refine z0a (by kernel_rfl) (by kernel_rfl) ?_
    repeat (go_big_quiet_step (fail))
    refine wpQuiet_nil ?_
    rintro _ ⟨x,rfl⟩
    go_wp2_with fail
    go_ret2
    exact ST.o _ x.gr
  by_cases e2:F.place=ref
  rotate_left
  · rw [if_pos (.inr (.inl e2))]
    have e2b:(F.place != ref)=true:=by simpa using e2
    rw [e1] at c5
    go_enter Tryz.func148,Tryz.ntmps148
    go_wp2_with fail
    refine z0a (by kernel_rfl) (by kernel_rfl) ?_
    repeat (go_big_quiet_step (fail))
    refine wpQuiet_nil ?_
    rintro _ ⟨x,rfl⟩
    go_wp2_with fail
    go_ret2
    exact ST.o _ x.gr
  by_cases e3:F.turn=turn
  rotate_left
  · rw [if_pos (.inr (.inr e3))]
    have e3b:(F.turn != turn)=true:=by simpa using e3
    rw [e1] at c5
    rw [e2] at c6
    go_enter Tryz.func148,Tryz.ntmps148
    go_wp2_with fail
    refine z0a (by kernel_rfl) (by kernel_rfl) ?_
    repeat (go_big_quiet_step (fail))
    refine wpQuiet_nil ?_
    rintro _ ⟨x,rfl⟩
    go_wp2_with fail
    go_ret2
    exact ST.o _ x.gr
  rw [if_neg (by rintro (e | e | e);exact e e1;exact e e2;exact e e3)]
  rw [e1] at c5
  rw [e2] at c6
  rw [e3] at c8
  clear e1 e2 e3
  cases hbad:badF F l
  rotate_left
  · rw [if_pos rfl]
    rw [hbad] at HBAD
    clear hbad
    go_enter Tryz.func148,Tryz.ntmps148
    go_wp2_with fail
    refine z0a (by kernel_rfl) (by kernel_rfl) ?_
    repeat (go_big_quiet_step (fail))
    refine wpQuiet_nil ?_
    rintro _ ⟨x,rfl⟩
    go_wp2_with (first
      | (go_at_call 149;(with_reducible refine (HBAD.o _ x.gr).mono ?_);rintro en _ ⟨rfl,y1,rfl⟩;have d4:y1.val.cell? ⟨B4,0,none⟩=some (.int .i64 now):=((x.gr.ext y1).cell (p:=⟨B4,0,none⟩) l4).trans q4;have d5:=Nat.lt_of_lt_of_le l4 (x.gr.ext y1).size)
      | (go_at_call 150;refine (HFA.o 1 (by omega) _ (x.gr.ext y1)).mono ?_;rintro en w3 ⟨A3,c3_,rfl,hr3,ho3,hm3⟩;have HM3:=hid (((x.gr.ext y1).mod (fun b=>b=k∨b=mb)).trans hm3 (fun _ _ e=>e))))
    go_ret2
    exact ⟨A3,c3_,rfl,hr3,ho3,HM3.o⟩
  rw [if_neg (by simp)]
  rw [hbad] at HBAD
  refine (fun (hgoal:Calls Tryz.prog 148 #[.pointer (some ⟨k,0,none⟩),.pointer (some ⟨B1,0,none⟩),.pointer (some ⟨B2,0,none⟩),.pointer (some ⟨B3,0,none⟩),.pointer (some ⟨B4,0,none⟩)] w (RetA M k mb (z6M l now F) w))=>hgoal) ?_
  obtain ⟨X,hX⟩:∃ X,z6M l now F=X:=⟨_,rfl⟩
  rw [hX]
  have HX:=hid hX
  clear hX
  have hbd:badL F.id F.asked (isOf F.op) l=false∧l.length≤32:=by
    unfold badF at hbad
    simp only [Bool.or_eq_false_iff,decide_eq_false_iff_not] at hbad
    exact ⟨hbad.2,by omega⟩
  obtain ⟨hbl,hl32⟩:=hbd
  have HBL:=hid hbl
  clear hbad hbl
  go_enter Tryz.func148,Tryz.ntmps148
  go_wp2_with fail
  refine z0a (by kernel_rfl) (by kernel_rfl) ?_
  repeat (go_big_quiet_step (fail))
  refine wpQuiet_nil ?_
  rintro _ ⟨x,rfl⟩
  go_upto_region 5 with (go_at_call 149;(with_reducible refine (HBAD.o _ x.gr).mono ?_);rintro en _ ⟨rfl,y1,rfl⟩)
  have G1:=hid (x.gr.ext y1)
  obtain ⟨w1,hw1⟩:∃ w1,y1.val=w1:=⟨_,rfl⟩
  rw [hw1] at G1 ⊢
  clear hw1
  have d3:w1.cell? ⟨B3,0,none⟩=some (.slice Al l.length cl_):=(G1.o.cell (p:=⟨B3,0,none⟩) l3).trans q3
  have d4:w1.cell? ⟨B4,0,none⟩=some (.int .i64 now):=(G1.o.cell (p:=⟨B4,0,none⟩) l4).trans q4
  have d9:w1.cell? ⟨k,9,none⟩=some (.bool F.late):=(G1.o.cell (p:=⟨k,9,none⟩) hk).trans c9
  have d7:w1.cell? ⟨k,7,none⟩=some (.int .i64 F.begun):=(G1.o.cell (p:=⟨k,7,none⟩) hk).trans c7
  have m3:=Nat.lt_of_lt_of_le l3 G1.o.size
  have m4:=Nat.lt_of_lt_of_le l4 G1.o.size
  have mk:=Nat.lt_of_lt_of_le hk G1.o.size
  go_cut [41] from 42 (fun v wx=>v=.bool (F.late && z6R l)∧Gr w wx)
  case first =>
    cases hlate:F.late
    · rw [hlate] at d9
      have HLT:=hid hlate
      clear hlate
      go_wp2_with fail
      go_meet
      exact ⟨by rw [HLT.o];rfl,G1.o⟩
    · rw [hlate] at d9
      have HLT:=hid hlate
      clear hlate
      rcases hll:l.getLast? with _ | dl
      · have:l=[]:=List.getLast?_eq_none_iff.1 hll
        subst this
        have hz:¬ (0:Int)<((0:Nat):Int):=by omega
        simp only [List.length_nil] at d3
        clear hll
        go_wp2_with fail
        go_meet
        exact ⟨by rw [HLT.o];rfl,G1.o⟩
      · have hlen:0<l.length:=by
          rcases l with _ | ⟨x,r⟩
          · simp at hll
          · simp
        have hget:l[l.length-1]?=some dl:=by rw [← List.getLast?_eq_getElem?];exact hll
        obtain ⟨b,off,Ad',cd',rfl,hb,_,_,g0,_,_,_,_⟩:=z6g (HL.o.up (Gr.up G1.o M)) hget
        have HE:=hid (zdx hll)
        clear hll hget
        generalize l.length=n at *
        have hz:(0:Int)<(n:Int):=by omega
        have k0:(0:Int)≤(n:Int)-1:=by omega
        have k1:(n:Int)-1<(n:Int):=by omega
        have kw:IntKind.i64.wrap ((n:Int)-1)=(n:Int)-1:=IntWalk.i64_in _ (by omega)
        have kt:((n:Int)-1).toNat=n-1:=by omega
        go_wp2_with fail
        go_meet
        exact ⟨by rw [HE.o,HLT.o];simp,G1.o⟩
  case rest =>
    obtain ⟨rfl,hgc⟩:=hcut
    have GC:=hid hgc
    clear hgc
    have d3:wc.cell? ⟨B3,0,none⟩=some (.slice Al l.length cl_):=(GC.o.cell (p:=⟨B3,0,none⟩) l3).trans q3
    have d4:wc.cell? ⟨B4,0,none⟩=some (.int .i64 now):=(GC.o.cell (p:=⟨B4,0,none⟩) l4).trans q4
    have d9:wc.cell? ⟨k,9,none⟩=some (.bool F.late):=(GC.o.cell (p:=⟨k,9,none⟩) hk).trans c9
    have d7:wc.cell? ⟨k,7,none⟩=some (.int .i64 F.begun):=(GC.o.cell (p:=⟨k,7,none⟩) hk).trans c7
    have m3:=Nat.lt_of_lt_of_le l3 GC.o.size
    have m4:=Nat.lt_of_lt_of_le l4 GC.o.size
    have mk:=Nat.lt_of_lt_of_le hk GC.o.size
    cases hle:(F.late && z6R l)
    rotate_left
    · have HX1:=hid (show X=((z0y F 2 now).1,(z0y F 2 now).2,23) by
        rw [← HX.o]
        unfold z6M
        rw [if_pos (by simpa using hle)])
      go_wp2_with (go_at_call 150;refine (HFA.o 2 (by omega) _ GC.o).mono ?_;rintro en w3 ⟨A3,c3_,rfl,hr3,ho3,hm3⟩;have HM3:=hid ((GC.o.mod (fun b=>b=k∨b=mb)).trans hm3 (fun _ _ e=>e)))
      go_ret2
      rw [HX1.o]
      exact ⟨A3,c3_,rfl,hr3,ho3,HM3.o⟩
    have HX1:=hid (show (if F.late=true∧z0B (z0n now (putF F ⟨4,now,F.begun,0,0,0,[]⟩,[]) l).1.l=1 then
        ok ((z07 (z0n now (putF F ⟨4,now,F.begun,0,0,0,[]⟩,[]) l).1 now).1,(z0n now (putF F ⟨4,now,F.begun,0,0,0,[]⟩,[]) l).2++(z07 (z0n now (putF F ⟨4,now,F.begun,0,0,0,[]⟩,[]) l).1 now).2)
        else ok (z0n now (putF F ⟨4,now,F.begun,0,0,0,[]⟩,[]) l))=X by
      rw [← HX.o]
      unfold z6M
      exact (if_neg (by intro e;rw [e.1,e.2] at hle;cases hle)).symm)
    clear hle HX
    have HPO:=hid (okP hF (e:=⟨4,now,F.begun,0,0,0,[]⟩) (by unfold z0V;dsimp only;omega) (by dsimp only;omega) (by simp))
    have HP:=hid (fun (W:World) (g:Gr w W)=>(show Calls Tryz.prog 143 #[.pointer (some ⟨k,0,none⟩),.agg #[.int .i64 4,.int .i64 now,.int .i64 F.begun,.int .i64 0,.int .i64 0,.int .i64 0,.slice none 0 0]] W _ from
      fput PUT ⟨4,now,F.begun,0,0,0,[]⟩ (.slice none 0 0) (H.o.gr g) (BysM.none W M).bys HPO.o hF.l9 (by dsimp only;omega) (by dsimp only;omega)))
    go_upto_region 8 with fail
    refine z01 [(0,false),(1,false),(2,false),(3,false),(4,false),(5,false),(6,false),(7,true)] (fun W=>Gr wc W) (by kernel_rfl) (by kernel_rfl) (fun _ _ d _ _ h=>by cases d<;>exact h) (Gr.refl wc).drew (fun _=>?_)
    iterate 7 (refine z03 (v:=?_) rfl (by rfl) ?_ ?_;rotate_left;(focus (intro W9 hW9;obtain ⟨x9,rfl⟩:∃ x:Ext wc,W9=x.val:=⟨⟨W9,hW9⟩,rfl⟩;go_simp;(try with_reducible rfl);done));(try simp only [AP]))
    refine z06 rfl (by rfl) (fun K hK=>?_)
    go_simp
    go_at_call 143
    refine (HP.o _ GC.o.drew).mono ?_
    rintro en w5 ⟨rfl,hw5,hm5⟩
    have HW5:=hid hw5
    have HM5:=hid ((GC.o.drew.mod (fun b=>b=k∨b=mb)).trans hm5 (fun _ _ e=>e))
    have HB3:=hid (z1o (H.o.gr GC.o.drew).r ((GC.o.drew.block B3 l3).trans H3.o) (by decide) hm5)
    have HB4:=hid (z1o (H.o.gr GC.o.drew).r ((GC.o.drew.block B4 l4).trans H4.o) (by decide) hm5)
    clear hw5 hm5
    refine hK.o _ _ ?_
    clear hK K
    have p3:=z1b HB3.o
    have p4:=z1b HB4.o
    go_wp2_with fail
    have HFI4:=hid (H.o.i.put HPO.o)
    have HN4:=hid (z1W F ⟨4,now,F.begun,0,0,0,[]⟩)
    have HL4:=hid (show (putF F ⟨4,now,F.begun,0,0,0,[]⟩).l.length≤5000 by rw [z0r];have:=hF.len;omega)
    have HB5:=hid (show badL (putF F ⟨4,now,F.begun,0,0,0,[]⟩).id (putF F ⟨4,now,F.begun,0,0,0,[]⟩).asked (isOf (putF F ⟨4,now,F.begun,0,0,0,[]⟩).op) l=false from HBL.o)
    obtain ⟨F4,hF4⟩:∃ F4,putF F ⟨4,now,F.begun,0,0,0,[]⟩=F4:=⟨_,rfl⟩
    rw [hF4] at HX1 HW5 HFI4 HN4 HL4 HB5
    clear hF4 HP HPO HBL HFA HBAD ST
    obtain ⟨X0,hX0⟩:∃ X0,z0n now (F4,[]) l=X0:=⟨_,rfl⟩
    rw [hX0] at HX1
    have HX0:=hid hX0
    clear hX0
    have HMM:=hid H.o.hM
    have HKK:=hid H.o.hk
    have HMB:=hid H.o.hmb
    go_loopw [9,78] (fun ov iv wr=>∃ (i:Nat) (x:FS × List Out),iv=.int .i64 i∧i≤l.length∧FI x.1∧DL w wr M k mb B4 now l X0 i ov x) (fun _ iv _=>l.length-(intOf iv).toNat)
    case atStart =>
      refine ⟨0,(F4,[]),rfl,Nat.zero_le _,HFI4.o,⟨by rw [List.drop_zero];exact HX0.o,HW5.o.swap (fun b _ e=>by rcases e with e | e;exact e;cases e) (.inl HKK.o) (.inl HMB.o) (fun b e=>by rcases e with e | e;exact HW5.o.hM b e;cases e),z1T.nil _ _ _,HM5.o,by rw [List.drop_zero];exact HB5.o,HN4.o,by have:=HL4.o;dsimp only;omega,Nat.zero_le _,HB4.o⟩⟩
    case round =>
      obtain ⟨i,x,rfl,hi,hfi,hdl⟩:=hrel
      have HDL:=hid hdl
      have HFI:=hid hfi
      obtain ⟨Ao,co,rfl,hco,hcn⟩:=hdl.outs.shape
      have b4:=z1b hdl.box
      have bl4:=block_lt hdl.box
      have hup:=hid (show Up M w (ownB M (.slice Ao x.2.length co)) wr from ⟨hdl.mod.mono fun b _ e=>(by rcases e with rfl | rfl;exact HKK.o;exact HMB.o),fun b hb e=>by
        rcases e with e | e
        · exact e
        · have:=(HDL.o.own b e).1;omega⟩)
      clear hdl hfi
      by_cases hlt:i<l.length
      · have hget:l[i]?=some l[i]:=List.getElem?_eq_getElem hlt
        have hdrop:l.drop i=l[i]::l.drop (i+1):=List.drop_eq_getElem_cons hlt
        obtain ⟨d,hd⟩:∃ d,l[i]=d:=⟨_,rfl⟩
        rw [hd] at hget hdrop
        obtain ⟨b,off,Ad,cd,rfl,hb,hMb,hdat,g0,g1,g2,g3,g4⟩:=z6g (HL.o.up hup.o) hget
        have hbb:=HDL.o.bad
        rw [hdrop] at hbb
        obtain ⟨hmay,htk,_,_⟩:=z6H (now:=now) HFI.o hbb
        have HFN:=hid (HFI.o.done HDL.o.ne hmay htk (now:=now))
        have HCALL:=hid (fun (W:World) (g:Gr wr W)=>zdt PUT k mb x.1 d now (.slice Ad d.data.length cd) _ W (HDL.o.fw.gr g) (by have:=HDL.o.len;omega) HDL.o.ne hmay htk (hdat.bys.gr g) hnow)
        have HDROP:=hid hdrop
        have hlz:(i:Int)<(l.length:Int):=by omega
        have hos:(z0d x.1 d now).2.length≤1:=by
          unfold z0d z0J
          repeat' split
          all_goals simp
        obtain ⟨y,hy⟩:∃ y,z0d x.1 d now=y:=⟨_,rfl⟩
        rw [hy] at HCALL hos
        have HY:=hid hy
        clear hdat hd hget hdrop hbb hmay htk hy
        rcases d with ⟨dk,di,dl_,dn,dd⟩
        simp only at g0 g1 g2 g3 g4 HCALL
        generalize dd.length=dlen at *
        rcases y with ⟨F1,os⟩
        rcases os with _ | ⟨o,_ | ⟨o2,r⟩⟩
        · go_wp2_with (first
            | (go_at_call 151
               go_loud ((refine (HCALL.o _ ((Gr.refl wr).alloc _)).mono ?_;intro en w6 hret;obtain ⟨hfw6,hm6,hcase⟩:=hret;rcases hcase with ⟨_,hen⟩ | ⟨_,_,_,_,_,e2,_⟩;rotate_left;(cases e2);subst hen;have HFW6:=hid hfw6;have HM6:=hid ((((Gr.refl wr).alloc _).mod (fun b=>b=k∨b=mb)).trans hm6 (fun _ _ e=>e));clear hfw6 hm6)))
            | (at_builtin;refine z2O _ rfl _ _ 127 127 rfl (.slice Ao x.2.length co) (.slice none 0 0) rfl rfl (z61 _ _ _ _ _ hco) ?_))
          go_roundw
          case rel =>
            have hdn:=DL.none (w2:=w6) HDL.o HMM.o HKK.o HMB.o HDROP.o (by rw [HY.o]) (by rw [HY.o];exact HFW6.o) HM6.o HFI.o
            rw [HY.o] at hdn
            exact ⟨i+1,_,by go_num,by omega,by have:=HFN.o;rw [HY.o] at this;exact this,hdn⟩
          case measure=>simp [intOf];omega
        · have hxn:x.2.length≤100:=by have:=HDL.o.n;omega
          obtain ⟨i0,hi0,hz0,hz1,hz2⟩:=info_parts zch
          have HKL:=hid (show ∀ b,(Value.slice Ao x.2.length co).ownBlock=some b→¬ (b=k∨b=mb) from fun b e e2=>by
            have:=(HDL.o.own b e).1
            have:=HMM.o k HKK.o
            have:=HMM.o mb HMB.o
            rcases e2 with rfl | rfl<;>omega)
          have HSM:=hid (show ∀ b,(b=k∨b=mb)→M b from fun b e=>by
            rcases e with rfl | rfl
            · exact HKK.o
            · exact HMB.o)
          go_wp2_with (first
            | (go_at_call 151
               go_loud ((refine (HCALL.o _ ((Gr.refl wr).alloc _)).mono ?_;intro en w6 hret;obtain ⟨hfw6,hm6,hcase⟩:=hret;rcases hcase with ⟨e2,_⟩ | ⟨o2,b2,off2,cc2,dv,e2,hen,hbys,hrd⟩;(cases e2);injection e2 with e2;subst e2;subst hen;have HFW6:=hid hfw6;have HM6:=hid ((((Gr.refl wr).alloc _).mod (fun b=>b=k∨b=mb)).trans hm6 (fun _ _ e=>e));obtain ⟨ds,hds,hown⟩:=HDL.o.outs.mod HM6.o HSM.o HKL.o;have HDS:=hid hds;have HOWN:=hid hown;have HDV:=hid hbys;have HNW:=hid hrd.rd.add;have HONE:=hid (zcO o hbys);clear hfw6 hm6 hds hown hbys hrd)))
            | (at_builtin;go_loud ((refine wpList_append_lies _ rfl _ _ 127 rfl w.heap.size 188 i0 _ 8 80 Tryz.underlying127 hi0 hz0 hz1 hz2 rfl (by omega) (.slice Ao x.2.length co) x.2.length (rowC (x.2.map outR) ds) rfl HOWN.o ⟨b2,off2,none⟩ 1 cc2 (recC (outR o) dv) rfl rfl HNW.o HONE.o (by omega) (by unfold maxLen;omega) (by omega) (by have:=HM6.o.size;have:=HDL.o.mod.size;omega) _ rfl ?_;intro gg cap w7 hown7 hgrow hat hlt7))))
          go_roundw
          case rel =>
            have hdn:=DL.one (w2:=w6) (w3:=w7) (v':=.slice (some ⟨gg,0,none⟩) (x.2.length+1) cap) HDL.o HMM.o HKK.o HMB.o HDROP.o (by rw [HY.o]) (by rw [HY.o];exact HFW6.o) HM6.o HFI.o HDS.o HDV.o hown7 (z2f hgrow) (by
              rcases hat with h | h
              · exact .inl h.symm
              · exact .inr ⟨gg,rfl,by omega⟩)
            rw [HY.o] at hdn
            exact ⟨i+1,_,by go_num,by omega,by have:=HFN.o;rw [HY.o] at this;exact this,hdn⟩
          case measure=>simp [intOf];omega
        · simp at hos
      · have hnil:l.drop i=[]:=List.drop_eq_nil_of_le (by omega)
        have hfold:=HDL.o.fold
        rw [hnil] at hfold
        obtain rfl:x=X0:=hfold
        have HST:=hid (z2w k mb x.1 _ wr HDL.o.fw.r (by have:=HDL.o.len;omega))
        have HRES:=hid (show ∀ (W:World),Gr wr W→RetA M k mb (x.1,x.2,0) w (.returned (.tuple #[.slice Ao x.2.length co,.int .i64 0])) W from fun W g =>
          ⟨Ao,co,rfl,(HDL.o.fw.r.up (z7m wr (fun b e=>.inl e)) rfl rfl).gr g,(HDL.o.outs.recs HMM.o).up (Gr.up g M),HDL.o.mod.gr g⟩)
        have hlz:¬ (i:Int)<(l.length:Int):=by omega
        cases hlate:F.late
        · have HX2:=hid (show X=(x.1,x.2,0) by rw [← HX1.o,if_neg (by rw [hlate];simp)];rfl)
          clear hlate
          go_wp2_with fail
          go_ret2
          rw [HX2.o]
          exact HRES.o wr (Gr.refl wr)
        · by_cases hst:z0B x.1.l=1
          · rw [hst] at HST
            have HX2:=hid (show X=((z07 x.1 now).1,x.2++(z07 x.1 now).2,0) by rw [← HX1.o,if_pos ⟨hlate,hst⟩];rfl)
            have HFS:=hid (HFI.o.schedule (now:=now) HDL.o.ne (by have:=HDL.o.len;omega))
            have HSC:=hid (fun (W:World) (g:Gr wr W)=>(z0W PUT k mb x.1 now _ W (HDL.o.fw.gr g)).mono fun e w' hr=>RetO.retD (HDL.o.fw.gr g) HFS.o (by have:=HDL.o.len;simp only [z07,z0r];omega) hr)
            have hxn:x.2.length≤100:=by have:=HDL.o.n;omega
            obtain ⟨i0,hi0,hz0,hz1,hz2⟩:=info_parts zch
            have HKL:=hid (show ∀ b,(Value.slice Ao x.2.length co).ownBlock=some b→¬ (b=k∨b=mb) from fun b e e2=>by
              have:=(HDL.o.own b e).1
              have:=HMM.o k HKK.o
              have:=HMM.o mb HMB.o
              rcases e2 with rfl | rfl<;>omega)
            have HSM:=hid (show ∀ b,(b=k∨b=mb)→M b from fun b e=>by
              rcases e with rfl | rfl
              · exact HKK.o
              · exact HMB.o)
            clear hst hlate
            go_wp2_with (first
              | (go_at_call 65;(with_reducible refine HST.o.mono ?_);rintro en _ ⟨rfl,y8,rfl⟩;have dd4:y8.val.cell? ⟨B4,0,none⟩=some (.int .i64 now):=(y8.gr.cell (p:=⟨B4,0,none⟩) bl4).trans b4;have bb4:=Nat.lt_of_lt_of_le bl4 y8.gr.size)
              | (go_at_call 152
                 go_loud ((refine (HSC.o _ y8.gr).mono ?_;intro en w6 hret;obtain ⟨hfw6,hm6,hcase⟩:=hret;rcases hcase with ⟨e2,_⟩ | ⟨o,b2,off2,cc2,dv,e2,hen,hbys,hrd⟩;(cases e2);subst hen;have E2:=hid e2;have HFW6:=hid hfw6;have HM6:=hid ((y8.gr.mod (fun b=>b=k∨b=mb)).trans hm6 (fun _ _ e=>e));obtain ⟨ds,hds,hown⟩:=HDL.o.outs.mod HM6.o HSM.o HKL.o;have HDS:=hid hds;have HOWN:=hid hown;have HDV:=hid hbys;have HNW:=hid hrd.rd.add;have HONE:=hid (zcO o hbys);clear hfw6 hm6 hds hown hbys hrd e2)))
              | (at_builtin;go_loud ((refine wpList_append_lies _ rfl _ _ 127 rfl w.heap.size 188 i0 _ 8 80 Tryz.underlying127 hi0 hz0 hz1 hz2 rfl (by omega) (.slice Ao x.2.length co) x.2.length (rowC (x.2.map outR) ds) rfl HOWN.o ⟨b2,off2,none⟩ 1 cc2 (recC (outR o) dv) rfl rfl HNW.o HONE.o (by omega) (by unfold maxLen;omega) (by omega) (by have:=HM6.o.size;have:=HDL.o.mod.size;omega) _ rfl ?_;intro gg cap w7 hown7 hgrow hat hlt7))))
            go_ret2
            rw [HX2.o]
            have u7:=zcC (M:=M) (v:=.slice Ao x.2.length co) (v':=.slice (some ⟨gg,0,none⟩) (x.2.length+1) cap) (z2f hgrow) (by
              rcases hat with h | h
              · exact .inl h.symm
              · exact .inr ⟨gg,rfl,by omega⟩)
            have ho7:=z1T.app HDS.o HDV.o hown7 u7
            have hr7:=ho7.recs HMM.o
            have E3:(z07 x.1 now).2=[o]:=E2.o
            rw [← E3] at hr7
            have nk:¬ some k=(Value.slice Ao x.2.length co).ownBlock:=fun e=>HKL.o k e.symm (.inl rfl)
            have nm:¬ some mb=(Value.slice Ao x.2.length co).ownBlock:=fun e=>HKL.o mb e.symm (.inr rfl)
            refine ⟨some ⟨gg,0,none⟩,cap,by simp only [E3];simp,(HFW6.o.r.up u7 ((z2f hgrow).block k HFW6.o.r.lt.1 nk) ((z2f hgrow).block mb HFW6.o.r.lt.2 nm)).up (z7m w7 (fun b e=>.inl e)) rfl rfl,?_,((HDL.o.mod.trans HM6.o (fun _ _ e=>e)).trans (z2f hgrow) (fun b hb e=>by have:=(HDL.o.own b e.symm).1;omega))⟩
            have e8:(x.2++(z07 x.1 now).2).length=x.2.length+1:=by rw [E3];simp
            simp only [e8]
            exact hr7
          · have HX2:=hid (show X=(x.1,x.2,0) by rw [← HX1.o,if_neg (by intro e;exact hst e.2)];rfl)
            obtain ⟨st,hstt⟩:∃ st,z0B x.1.l=st:=⟨_,rfl⟩
            rw [hstt] at HST hst
            have hstb:(st==1)=false:=by simpa using hst
            clear hst hstt hlate
            go_wp2_with (go_at_call 65;(with_reducible refine HST.o.mono ?_);rintro en _ ⟨rfl,y8,rfl⟩)
            go_ret2
            rw [HX2.o]
            exact HRES.o _ y8.gr
set_option maxHeartbeats 2000000 in
theorem z8H (PUT:z0e) (k:Nat) (F:FS) (ref:Int) (turn:Int) (now:Int) (M:Bl) (w:World) (h:z0O w M k F) (hM:∀ b,M b→b<w.heap.size) (hk:M k) (hF:FOk F) :
  Calls Tryz.prog 138 #[.pointer (some ⟨k,0,none⟩),.int .i64 ref,.int .i64 turn,.int .i64 now] w (RetT M k (z1z F ref turn now) w):=by
 have b0:=heap_alloc_new w (.cells #[.int .i64 ref] 3)
 have HB0:=hid (((((Gr.refl _).alloc (.cells #[.int .i64 turn] 3)).alloc (.cells #[.int .i64 now] 3)).block _ (block_lt b0)).trans b0)
 clear b0
 have b1:=heap_alloc_new (w.alloc (.cells #[.int .i64 ref] 3)) (.cells #[.int .i64 turn] 3)
 rw [show (w.alloc (.cells #[.int .i64 ref] 3)).heap.size=w.heap.size+1 by simp] at b1
 have HB1:=hid ((((Gr.refl _).alloc (.cells #[.int .i64 now] 3)).block _ (block_lt b1)).trans b1)
 clear b1
 have b2:=heap_alloc_new ((w.alloc (.cells #[.int .i64 ref] 3)).alloc (.cells #[.int .i64 turn] 3)) (.cells #[.int .i64 now] 3)
 rw [show ((w.alloc (.cells #[.int .i64 ref] 3)).alloc (.cells #[.int .i64 turn] 3)).heap.size=w.heap.size+1+1 by simp] at b2
 have HB2:=hid (((Gr.refl _).block _ (block_lt b2)).trans b2)
 clear b2
 have G1:=hid (show Gr w (((w.alloc (.cells #[.int .i64 ref] 3)).alloc (.cells #[.int .i64 turn] 3)).alloc (.cells #[.int .i64 now] 3)) from ((((Gr.refl w).alloc _).alloc _).alloc _))
 have HT:=hid (show ∀ _:Unit,Calls Tryz.prog 141 _ (((w.alloc (.cells #[.int .i64 ref] 3)).alloc (.cells #[.int .i64 turn] 3)).alloc (.cells #[.int .i64 now] 3)) _ from fun _ =>
  z2M 181 #[.pointer (some ⟨w.heap.size+1,0,none⟩),.pointer (some ⟨w.heap.size,0,none⟩),.pointer (some ⟨w.heap.size+1+1,0,none⟩)] k F (.slice none 0 0) [] now (z0Q ref turn now) M (((w.alloc (.cells #[.int .i64 ref] 3)).alloc (.cells #[.int .i64 turn] 3)).alloc (.cells #[.int .i64 now] 3)) (h.gr G1.o) (fun b e=>Nat.lt_of_lt_of_le (hM b e) G1.o.size) hk ((BysM.none _ M).bys) hF.i hF.len (fun _ _=>rfl) fun hr W k' mb' g n1 n2 hfw=>by
   obtain ⟨r1,r2,r3⟩:=z0X hr
   exact zan PUT k' mb' (w.heap.size+1) (w.heap.size) (w.heap.size+1+1) F turn ref now (plus M k' mb') W hfw hF ((g.block _ (block_lt HB1.o)).trans HB1.o) ((g.block _ (block_lt HB0.o)).trans HB0.o) ((g.block _ (block_lt HB2.o)).trans HB2.o) ⟨r2,r3⟩)
 have H:=hid h
 clear h hk
 go_enter Tryz.func138,Tryz.ntmps138
 go_wp2_with (first
  | (go_at_call 141;refine (HT.o ()).mono ?_;rintro en w3 ⟨A3,c3,rfl,hf3,ho3,hm3⟩))
 go_ret2
 exact ⟨A3,c3,rfl,hf3,ho3,(G1.o.mod _).trans hm3 (fun _ _ e=>e)⟩
set_option maxHeartbeats 2000000 in
theorem zd6 (PUT:z0e) (k:Nat) (F:FS) (ref:Int) (now:Int) (M:Bl) (w:World) (h:z0O w M k F) (hM:∀ b,M b→b<w.heap.size) (hk:M k) (hF:FOk F) :
  Calls Tryz.prog 139 #[.pointer (some ⟨k,0,none⟩),.int .i64 ref,.int .i64 now] w (RetT M k (z3F F ref now) w):=by
 have b0:=heap_alloc_new w (.cells #[.int .i64 ref] 3)
 have HB0:=hid ((((Gr.refl _).alloc (.cells #[.int .i64 now] 3)).block _ (block_lt b0)).trans b0)
 clear b0
 have b1:=heap_alloc_new (w.alloc (.cells #[.int .i64 ref] 3)) (.cells #[.int .i64 now] 3)
 rw [show (w.alloc (.cells #[.int .i64 ref] 3)).heap.size=w.heap.size+1 by simp] at b1
 have HB1:=hid (((Gr.refl _).block _ (block_lt b1)).trans b1)
 clear b1
 have G1:=hid (show Gr w ((w.alloc (.cells #[.int .i64 ref] 3)).alloc (.cells #[.int .i64 now] 3)) from (((Gr.refl w).alloc _).alloc _))
 have HT:=hid (show ∀ _:Unit,Calls Tryz.prog 141 _ ((w.alloc (.cells #[.int .i64 ref] 3)).alloc (.cells #[.int .i64 now] 3)) _ from fun _ =>
  z2M 182 #[.pointer (some ⟨w.heap.size,0,none⟩),.pointer (some ⟨w.heap.size+1,0,none⟩)] k F (.slice none 0 0) [] now (z2H ref now) M ((w.alloc (.cells #[.int .i64 ref] 3)).alloc (.cells #[.int .i64 now] 3)) (h.gr G1.o) (fun b e=>Nat.lt_of_lt_of_le (hM b e) G1.o.size) hk ((BysM.none _ M).bys) hF.i hF.len (fun _ _=>rfl) fun hr W k' mb' g n1 n2 hfw=>by
   obtain ⟨r1,r2,r3⟩:=z0X hr
   exact zdp PUT k' mb' (w.heap.size) (w.heap.size+1) F ref now (plus M k' mb') W hfw hF ((g.block _ (block_lt HB0.o)).trans HB0.o) ((g.block _ (block_lt HB1.o)).trans HB1.o) ⟨r2,r3⟩)
 have H:=hid h
 clear h hk
 go_enter Tryz.func139,Tryz.ntmps139
 go_wp2_with (first
  | (go_at_call 141;refine (HT.o ()).mono ?_;rintro en w3 ⟨A3,c3,rfl,hf3,ho3,hm3⟩))
 go_ret2
 exact ⟨A3,c3,rfl,hf3,ho3,(G1.o.mod _).trans hm3 (fun _ _ e=>e)⟩
set_option maxHeartbeats 2000000 in
theorem zat (PUT:z0e) (k:Nat) (F:FS) (ref:Int) (turn:Int) (v:Value) (l:List Dec) (now:Int) (M:Bl) (w:World) (h:z0O w M k F) (hM:∀ b,M b→b<w.heap.size) (hk:M k) (hF:FOk F) (hl:z08 decR w M v l) :
  Calls Tryz.prog 109 #[.pointer (some ⟨k,0,none⟩),.int .i64 ref,.int .i64 turn,v,.int .i64 now] w (RetT M k (z2p F ref turn l now) w):=by
 obtain ⟨Al,cl,rfl,_⟩:=hl.shape
 have b0:=heap_alloc_new w (.cells #[.int .i64 ref] 3)
 have HB0:=hid ((((((Gr.refl _).alloc (.cells #[.int .i64 turn] 3)).alloc (.cells #[.slice Al l.length cl] 33)).alloc (.cells #[.int .i64 now] 3)).block _ (block_lt b0)).trans b0)
 clear b0
 have b1:=heap_alloc_new (w.alloc (.cells #[.int .i64 ref] 3)) (.cells #[.int .i64 turn] 3)
 rw [show (w.alloc (.cells #[.int .i64 ref] 3)).heap.size=w.heap.size+1 by simp] at b1
 have HB1:=hid (((((Gr.refl _).alloc (.cells #[.slice Al l.length cl] 33)).alloc (.cells #[.int .i64 now] 3)).block _ (block_lt b1)).trans b1)
 clear b1
 have b2:=heap_alloc_new ((w.alloc (.cells #[.int .i64 ref] 3)).alloc (.cells #[.int .i64 turn] 3)) (.cells #[.slice Al l.length cl] 33)
 rw [show ((w.alloc (.cells #[.int .i64 ref] 3)).alloc (.cells #[.int .i64 turn] 3)).heap.size=w.heap.size+1+1 by simp] at b2
 have HB2:=hid ((((Gr.refl _).alloc (.cells #[.int .i64 now] 3)).block _ (block_lt b2)).trans b2)
 clear b2
 have b3:=heap_alloc_new (((w.alloc (.cells #[.int .i64 ref] 3)).alloc (.cells #[.int .i64 turn] 3)).alloc (.cells #[.slice Al l.length cl] 33)) (.cells #[.int .i64 now] 3)
 rw [show (((w.alloc (.cells #[.int .i64 ref] 3)).alloc (.cells #[.int .i64 turn] 3)).alloc (.cells #[.slice Al l.length cl] 33)).heap.size=w.heap.size+1+1+1 by simp] at b3
 have HB3:=hid (((Gr.refl _).block _ (block_lt b3)).trans b3)
 clear b3
 have G1:=hid (show Gr w ((((w.alloc (.cells #[.int .i64 ref] 3)).alloc (.cells #[.int .i64 turn] 3)).alloc (.cells #[.slice Al l.length cl] 33)).alloc (.cells #[.int .i64 now] 3)) from (((((Gr.refl w).alloc _).alloc _).alloc _).alloc _))
 have HT:=hid (show ∀ _:Unit,Calls Tryz.prog 141 _ ((((w.alloc (.cells #[.int .i64 ref] 3)).alloc (.cells #[.int .i64 turn] 3)).alloc (.cells #[.slice Al l.length cl] 33)).alloc (.cells #[.int .i64 now] 3)) _ from fun _ =>
  z2M 148 #[.pointer (some ⟨w.heap.size,0,none⟩),.pointer (some ⟨w.heap.size+1,0,none⟩),.pointer (some ⟨w.heap.size+1+1,0,none⟩),.pointer (some ⟨w.heap.size+1+1+1,0,none⟩)] k F (.slice none 0 0) [] now (z1p ref turn l now) M ((((w.alloc (.cells #[.int .i64 ref] 3)).alloc (.cells #[.int .i64 turn] 3)).alloc (.cells #[.slice Al l.length cl] 33)).alloc (.cells #[.int .i64 now] 3)) (h.gr G1.o) (fun b e=>Nat.lt_of_lt_of_le (hM b e) G1.o.size) hk ((BysM.none _ M).bys) hF.i hF.len (fun _ _=>rfl) fun hr W k' mb' g n1 n2 hfw=>by
   obtain ⟨r1,r2,r3⟩:=z0X hr
   exact zbf PUT k' mb' (w.heap.size) (w.heap.size+1) (w.heap.size+1+1) (w.heap.size+1+1+1) F ref turn now l (.slice Al l.length cl) (plus M k' mb') W hfw hF ((g.block _ (block_lt HB0.o)).trans HB0.o) ((g.block _ (block_lt HB1.o)).trans HB1.o) ((g.block _ (block_lt HB2.o)).trans HB2.o) ((g.block _ (block_lt HB3.o)).trans HB3.o) (hl.up ((Gr.up G1.o M).trans (Gr.plus g n1 n2))) ⟨r2,r3⟩)
 have H:=hid h
 clear h hk
 go_enter Tryz.func109,Tryz.ntmps109
 go_wp2_with (first
  | (go_at_call 141;refine (HT.o ()).mono ?_;rintro en w3 ⟨A3,c3,rfl,hf3,ho3,hm3⟩))
 go_ret2
 exact ⟨A3,c3,rfl,hf3,ho3,(G1.o.mod _).trans hm3 (fun _ _ e=>e)⟩
end Go.Proofs.YtniknicnnaiilaaGreat
end
