/- Lemmas of the engine. -/
import Derived.OwnWalk
import Derived.Test.YtniknicnnaiilaaGreatX07
import Derived.Test.YtniknicnnaiilaaGreatX12
section
namespace Go.Proofs.YtniknicnnaiilaaGreat
set_option maxRecDepth 100000
open Go.RowKit Go.Ext Go.BigFrame Go.Maps Go.MapKept
attribute [local go_sem] Ext.cell Ext.frozen Ext.lt Ext.le s1 s2 s3 s4 s5 s6 t1 t2 t3 t4 t5 t6
attribute [local go_sem ↓] Go.wp_at_zero Go.wp_at_succ
theorem z1S {M M':Bl} (w:World) (h:∀ b,M b→M' b):Up M' w M w:=⟨(Gr.refl w).mod _,fun b _ e=>h b e⟩
theorem z5B {w w1 w2:World} {k mb:Nat} (g:Gr w w1) (m:Mod (fun b=>b=k∨b=mb) w1 w2) (hk:w.heap.size≤k:=by omega) (hmb:w.heap.size≤mb:=by omega):Gr w w2 :=
 ⟨m.os.trans g.os,m.tape.trans g.tape,m.output.trans g.output,Nat.le_trans g.size m.size,fun b hb=>(m.block b (Nat.lt_of_lt_of_le hb g.size) (by omega)).trans (g.block b hb)⟩
theorem zhk (id run:Int):FI (f0 id run):=⟨fun x hx=>(by cases hx),List.nodup_nil,fun x hx=>(by cases hx),fun x hx=>(by cases hx),by simp [f0],fun x hx=>(by cases hx),fun h=>absurd rfl h,by simp [f0],fun x hx=>(by cases hx)⟩
def z5e (M:Bl) (x:Option (FS × List Out)) (w:World) (e:Ending) (w':World):Prop :=
 match x with
 | none=>e=.returned (.tuple #[.pointer none,.slice none 0 0,.int .i64 1])∧Gr w w'
 | some (F,os)=>∃ k A c,e=.returned (.tuple #[.pointer (some ⟨k,0,none⟩),.slice A os.length c,.int .i64 0])∧Gr w w'∧w.heap.size≤k∧z7s w' M k F∧z08 outR w' M (.slice A os.length c) os
set_option maxHeartbeats 4000000 in
theorem z9V (PUT:z0e) (id run list n:Int) (d:Value) (data:List UInt8) (now:Int) (M:Bl) (w:World) (hM:∀ b,M b→b<w.heap.size) (hd:BysM w M d data) :
  Calls Tryz.prog 135 #[.int .i64 id,.int .i64 run,.int .i64 list,.int .i64 n,d,.int .i64 now] w (z5e M (newF id run list n data now) w):=by
 obtain ⟨Ad,cd,rfl⟩:∃ A c,d=.slice A data.length c:=by
  obtain ⟨A,c,e,_⟩:=hd
  exact ⟨A,c,e⟩
 have hmm:=@run_makeMap Tryz.prog
 have G1:=hid (show Gr w ((w.alloc (.map #[] 0)).alloc (.cells #[.int .i64 id,.int .i64 run,.int .i64 0,.int .i64 0,.slice none 0 0,.int .i64 0,.int .i64 0,.int .i64 0,.int .i64 0,.bool false,.bool false,.map (some w.heap.size)] 157)) from ((Gr.refl w).alloc _).alloc _)
 have HFR:=hid (show FW ((w.alloc (.map #[] 0)).alloc (.cells #[.int .i64 id,.int .i64 run,.int .i64 0,.int .i64 0,.slice none 0 0,.int .i64 0,.int .i64 0,.int .i64 0,.int .i64 0,.bool false,.bool false,.map (some w.heap.size)] 157)) (plus M (w.heap.size+1) w.heap.size) (w.heap.size+1) w.heap.size (f0 id run) from by
  have e1:=heap_alloc_new (w.alloc (.map #[] 0)) (.cells #[.int .i64 id,.int .i64 run,.int .i64 0,.int .i64 0,.slice none 0 0,.int .i64 0,.int .i64 0,.int .i64 0,.int .i64 0,.bool false,.bool false,.map (some w.heap.size)] 157)
  rw [show (w.alloc (.map #[] 0)).heap.size=w.heap.size+1 by simp] at e1
  refine ⟨⟨⟨_,e1,z08.none _ _ _⟩,(MI.made w).gr ((Gr.refl _).alloc _)⟩,.inr (.inl rfl),.inr (.inr rfl),by omega,fun b hb=>?_,by simp [f0],zhk id run⟩
  have:=G1.o.size
  have e2:=block_lt e1
  rcases hb with hb | hb | hb
  ·have:=hM b hb;omega
  ·omega
  ·omega)
 have HDB:=hid (fun (W:World) (g:Gr ((w.alloc (.map #[] 0)).alloc (.cells #[.int .i64 id,.int .i64 run,.int .i64 0,.int .i64 0,.slice none 0 0,.int .i64 0,.int .i64 0,.int .i64 0,.int .i64 0,.bool false,.bool false,.map (some w.heap.size)] 157)) W)=>(hd.up (Gr.up (G1.o.trans g) M)).bys)
 have HN1:=hid (fun W=>z0v id W)
 have HN2:=hid (fun W=>z1I run W)
 have HN3:=hid (fun W=>z0v list W)
 have HN4:=hid (fun W=>z1I n W)
 have HRT:=hid (fun (W:World) (g:Gr ((w.alloc (.map #[] 0)).alloc (.cells #[.int .i64 id,.int .i64 run,.int .i64 0,.int .i64 0,.slice none 0 0,.int .i64 0,.int .i64 0,.int .i64 0,.int .i64 0,.bool false,.bool false,.map (some w.heap.size)] 157)) W)=>z6s (w.heap.size+1) w.heap.size (f0 id run) _ (.slice Ad data.length cd) data now W ((HFR.o.gr g).r) (HDB.o W g) (by simp [f0]))
 have HMM:=hid hM
 unfold newF
 cases h1:numB id
 ·simp only [Bool.false_and,Bool.false_eq_true,if_false]
  rw [h1] at HN1
  clear h1
  go_enter Tryz.func135,Tryz.ntmps135
  go_wp2_with (first
   | (go_at_call 178;(with_reducible refine (HN1.o _).mono ?_);rintro en _ ⟨rfl,y1,rfl⟩;have GA:=hid (G1.o.ext y1);have HA:=hid y1.gr)
   | (go_at_call 179;(with_reducible refine (HN2.o _).mono ?_);rintro en _ ⟨rfl,y2,rfl⟩;have GB:=hid (GA.o.ext y2);have HB:=hid (HA.o.ext y2))
   | (go_at_call 178;(with_reducible refine (HN3.o _).mono ?_);rintro en _ ⟨rfl,y3,rfl⟩;have GC:=hid (GB.o.ext y3);have HC:=hid (HB.o.ext y3))
   | (go_at_call 179;(with_reducible refine (HN4.o _).mono ?_);rintro en _ ⟨rfl,y4,rfl⟩;have GD:=hid (GC.o.ext y4);have HD4:=hid (HC.o.ext y4))
   | (go_at_call 180;refine (HRT.o _ HD4.o).mono ?_;rintro en _ ⟨rfl,y5,rfl⟩;have GE:=hid (GD.o.ext y5);have HE:=hid (HD4.o.ext y5))
   | (go_at_call 143;refine (HP.o _ HE.o).mono ?_;rintro en w6 ⟨rfl,hw6,hm6⟩;have HW6:=hid hw6;have HM6:=hid (z5B GE.o hm6);have HSC:=hid (z0W PUT (w.heap.size+1) w.heap.size _ now _ w6 hw6);clear hw6 hm6)
   | (go_at_call 152;refine HSC.o.mono ?_;rintro en w7 ⟨A7,c7,rfl,hr7,ho7,hm7⟩))
  go_ret3
  exact ⟨rfl,GA.o⟩
 rw [h1] at HN1
 clear h1
 cases h2:z2o run
 ·simp only [Bool.true_and,Bool.false_and,Bool.false_eq_true,if_false]
  rw [h2] at HN2
  clear h2
  go_enter Tryz.func135,Tryz.ntmps135
  go_wp2_with (first
   | (go_at_call 178;(with_reducible refine (HN1.o _).mono ?_);rintro en _ ⟨rfl,y1,rfl⟩;have GA:=hid (G1.o.ext y1);have HA:=hid y1.gr)
   | (go_at_call 179;(with_reducible refine (HN2.o _).mono ?_);rintro en _ ⟨rfl,y2,rfl⟩;have GB:=hid (GA.o.ext y2);have HB:=hid (HA.o.ext y2))
   | (go_at_call 178;(with_reducible refine (HN3.o _).mono ?_);rintro en _ ⟨rfl,y3,rfl⟩;have GC:=hid (GB.o.ext y3);have HC:=hid (HB.o.ext y3))
   | (go_at_call 179;(with_reducible refine (HN4.o _).mono ?_);rintro en _ ⟨rfl,y4,rfl⟩;have GD:=hid (GC.o.ext y4);have HD4:=hid (HC.o.ext y4))
   | (go_at_call 180;refine (HRT.o _ HD4.o).mono ?_;rintro en _ ⟨rfl,y5,rfl⟩;have GE:=hid (GD.o.ext y5);have HE:=hid (HD4.o.ext y5))
   | (go_at_call 143;refine (HP.o _ HE.o).mono ?_;rintro en w6 ⟨rfl,hw6,hm6⟩;have HW6:=hid hw6;have HM6:=hid (z5B GE.o hm6);have HSC:=hid (z0W PUT (w.heap.size+1) w.heap.size _ now _ w6 hw6);clear hw6 hm6)
   | (go_at_call 152;refine HSC.o.mono ?_;rintro en w7 ⟨A7,c7,rfl,hr7,ho7,hm7⟩))
  go_ret3
  exact ⟨rfl,GB.o⟩
 rw [h2] at HN2
 clear h2
 cases h3:numB list
 ·simp only [Bool.true_and,Bool.false_and,Bool.false_eq_true,if_false]
  rw [h3] at HN3
  clear h3
  go_enter Tryz.func135,Tryz.ntmps135
  go_wp2_with (first
   | (go_at_call 178;(with_reducible refine (HN1.o _).mono ?_);rintro en _ ⟨rfl,y1,rfl⟩;have GA:=hid (G1.o.ext y1);have HA:=hid y1.gr)
   | (go_at_call 179;(with_reducible refine (HN2.o _).mono ?_);rintro en _ ⟨rfl,y2,rfl⟩;have GB:=hid (GA.o.ext y2);have HB:=hid (HA.o.ext y2))
   | (go_at_call 178;(with_reducible refine (HN3.o _).mono ?_);rintro en _ ⟨rfl,y3,rfl⟩;have GC:=hid (GB.o.ext y3);have HC:=hid (HB.o.ext y3))
   | (go_at_call 179;(with_reducible refine (HN4.o _).mono ?_);rintro en _ ⟨rfl,y4,rfl⟩;have GD:=hid (GC.o.ext y4);have HD4:=hid (HC.o.ext y4))
   | (go_at_call 180;refine (HRT.o _ HD4.o).mono ?_;rintro en _ ⟨rfl,y5,rfl⟩;have GE:=hid (GD.o.ext y5);have HE:=hid (HD4.o.ext y5))
   | (go_at_call 143;refine (HP.o _ HE.o).mono ?_;rintro en w6 ⟨rfl,hw6,hm6⟩;have HW6:=hid hw6;have HM6:=hid (z5B GE.o hm6);have HSC:=hid (z0W PUT (w.heap.size+1) w.heap.size _ now _ w6 hw6);clear hw6 hm6)
   | (go_at_call 152;refine HSC.o.mono ?_;rintro en w7 ⟨A7,c7,rfl,hr7,ho7,hm7⟩))
  go_ret3
  exact ⟨rfl,GC.o⟩
 rw [h3] at HN3
 clear h3
 cases h4:z2o n
 ·simp only [Bool.true_and,Bool.false_and,Bool.false_eq_true,if_false]
  rw [h4] at HN4
  clear h4
  go_enter Tryz.func135,Tryz.ntmps135
  go_wp2_with (first
   | (go_at_call 178;(with_reducible refine (HN1.o _).mono ?_);rintro en _ ⟨rfl,y1,rfl⟩;have GA:=hid (G1.o.ext y1);have HA:=hid y1.gr)
   | (go_at_call 179;(with_reducible refine (HN2.o _).mono ?_);rintro en _ ⟨rfl,y2,rfl⟩;have GB:=hid (GA.o.ext y2);have HB:=hid (HA.o.ext y2))
   | (go_at_call 178;(with_reducible refine (HN3.o _).mono ?_);rintro en _ ⟨rfl,y3,rfl⟩;have GC:=hid (GB.o.ext y3);have HC:=hid (HB.o.ext y3))
   | (go_at_call 179;(with_reducible refine (HN4.o _).mono ?_);rintro en _ ⟨rfl,y4,rfl⟩;have GD:=hid (GC.o.ext y4);have HD4:=hid (HC.o.ext y4))
   | (go_at_call 180;refine (HRT.o _ HD4.o).mono ?_;rintro en _ ⟨rfl,y5,rfl⟩;have GE:=hid (GD.o.ext y5);have HE:=hid (HD4.o.ext y5))
   | (go_at_call 143;refine (HP.o _ HE.o).mono ?_;rintro en w6 ⟨rfl,hw6,hm6⟩;have HW6:=hid hw6;have HM6:=hid (z5B GE.o hm6);have HSC:=hid (z0W PUT (w.heap.size+1) w.heap.size _ now _ w6 hw6);clear hw6 hm6)
   | (go_at_call 152;refine HSC.o.mono ?_;rintro en w7 ⟨A7,c7,rfl,hr7,ho7,hm7⟩))
  go_ret3
  exact ⟨rfl,GD.o⟩
 rw [h4] at HN4
 cases h5:z1L (f0 id run) data now
 ·simp only [Bool.true_and,Bool.false_eq_true,if_false]
  rw [h5] at HRT
  clear h5 h4
  go_enter Tryz.func135,Tryz.ntmps135
  go_wp2_with (first
   | (go_at_call 178;(with_reducible refine (HN1.o _).mono ?_);rintro en _ ⟨rfl,y1,rfl⟩;have GA:=hid (G1.o.ext y1);have HA:=hid y1.gr)
   | (go_at_call 179;(with_reducible refine (HN2.o _).mono ?_);rintro en _ ⟨rfl,y2,rfl⟩;have GB:=hid (GA.o.ext y2);have HB:=hid (HA.o.ext y2))
   | (go_at_call 178;(with_reducible refine (HN3.o _).mono ?_);rintro en _ ⟨rfl,y3,rfl⟩;have GC:=hid (GB.o.ext y3);have HC:=hid (HB.o.ext y3))
   | (go_at_call 179;(with_reducible refine (HN4.o _).mono ?_);rintro en _ ⟨rfl,y4,rfl⟩;have GD:=hid (GC.o.ext y4);have HD4:=hid (HC.o.ext y4))
   | (go_at_call 180;refine (HRT.o _ HD4.o).mono ?_;rintro en _ ⟨rfl,y5,rfl⟩;have GE:=hid (GD.o.ext y5);have HE:=hid (HD4.o.ext y5))
   | (go_at_call 143;refine (HP.o _ HE.o).mono ?_;rintro en w6 ⟨rfl,hw6,hm6⟩;have HW6:=hid hw6;have HM6:=hid (z5B GE.o hm6);have HSC:=hid (z0W PUT (w.heap.size+1) w.heap.size _ now _ w6 hw6);clear hw6 hm6)
   | (go_at_call 152;refine HSC.o.mono ?_;rintro en w7 ⟨A7,c7,rfl,hr7,ho7,hm7⟩))
  go_ret3
  exact ⟨rfl,GE.o⟩
 rw [h5] at HRT
 obtain ⟨r1,r2,r3⟩:=z0X h5
 have hn4:1≤n∧n≤1048576:=by simpa [z2o] using h4
 have HPO:=hid (show z3p (f0 id run) ⟨1,now,0,0,list,n,data⟩ from ⟨by dsimp only;omega,r1,fun _=>rfl,fun _=>hn4.1,fun e=>by simp at e,fun e=>by simp at e,fun e=>by simp at e,fun e=>by simp at e⟩)
 have HP:=hid (fun (W:World) (g:Gr ((w.alloc (.map #[] 0)).alloc (.cells #[.int .i64 id,.int .i64 run,.int .i64 0,.int .i64 0,.slice none 0 0,.int .i64 0,.int .i64 0,.int .i64 0,.int .i64 0,.bool false,.bool false,.map (some w.heap.size)] 157)) W)=>(show Calls Tryz.prog 143 #[.pointer (some ⟨w.heap.size+1,0,none⟩),.agg #[.int .i64 1,.int .i64 now,.int .i64 0,.int .i64 0,.int .i64 list,.int .i64 n,.slice Ad data.length cd]] W _ from
  fput PUT ⟨1,now,0,0,list,n,data⟩ (.slice Ad data.length cd) (HFR.o.gr g) (HDB.o W g) HPO.o (by simp [f0]) (by dsimp only;omega) (by dsimp only;omega)))
 clear h4 h5 r1 r2 r3 hn4
 simp only [Bool.and_self,if_true]
 go_enter Tryz.func135,Tryz.ntmps135
 go_wp2_with (first
   | (go_at_call 178;(with_reducible refine (HN1.o _).mono ?_);rintro en _ ⟨rfl,y1,rfl⟩;have GA:=hid (G1.o.ext y1);have HA:=hid y1.gr)
   | (go_at_call 179;(with_reducible refine (HN2.o _).mono ?_);rintro en _ ⟨rfl,y2,rfl⟩;have GB:=hid (GA.o.ext y2);have HB:=hid (HA.o.ext y2))
   | (go_at_call 178;(with_reducible refine (HN3.o _).mono ?_);rintro en _ ⟨rfl,y3,rfl⟩;have GC:=hid (GB.o.ext y3);have HC:=hid (HB.o.ext y3))
   | (go_at_call 179;(with_reducible refine (HN4.o _).mono ?_);rintro en _ ⟨rfl,y4,rfl⟩;have GD:=hid (GC.o.ext y4);have HD4:=hid (HC.o.ext y4))
   | (go_at_call 180;refine (HRT.o _ HD4.o).mono ?_;rintro en _ ⟨rfl,y5,rfl⟩;have GE:=hid (GD.o.ext y5);have HE:=hid (HD4.o.ext y5))
   | (go_at_call 143;refine (HP.o _ HE.o).mono ?_;rintro en w6 ⟨rfl,hw6,hm6⟩;have HW6:=hid hw6;have HM6:=hid (z5B GE.o hm6);have HSC:=hid (z0W PUT (w.heap.size+1) w.heap.size _ now _ w6 hw6);clear hw6 hm6)
   | (go_at_call 152;refine HSC.o.mono ?_;rintro en w7 ⟨A7,c7,rfl,hr7,ho7,hm7⟩))
 go_ret3
 have g7:Gr w w7:=z5B HM6.o hm7
 refine ⟨w.heap.size+1,A7,c7,rfl,g7,by omega,⟨fun e=>?_,w.heap.size,fun e=>?_,hr7.up (z1S w7 (fun b e=>.inl e)) rfl rfl⟩,ho7.up (z1S w7 (fun b e=>.inl e))⟩
 ·have:=HMM.o _ e;omega
 ·have:=HMM.o _ e;omega
section
variable {w w':World} {M S:Bl} {k kd ka md ma mr kh:Nat} {hv:Value} {E:ES}
theorem EngP.putRun (h:EngP w M S k E kd ka md ma mr kh hv) {id pf pr:Int} {f:FS} {kf:Nat} {kv:List (Int × Value)} (m:Mod (fun b=>b=mr) w w') (hrel:Rel (fun r v=>RunM w M r v) E.runs kv) (h1:MI w' mr (up kv id (runV kf pf pr))) (hf:z7s w M kf f):EngR w' M S k { E with runs:=up E.runs id ⟨f,pf,pr⟩ }:=by
 have u:Up M w M w':=Mod.up m (fun b _ e=>e▸h.SM _ h.smr)
 exact ⟨kd,ka,md,ma,mr,kh,hv,h.setRuns m h1 ((hrel.mono fun a v hr=>hr.up u).up (a:=⟨f,pf,pr⟩) ⟨kf,rfl,hf.up u⟩)⟩
end
theorem z6c {W:World} {B:Nat} {t:TypeId} {a b:Value} (h:W.heap[B]?=some (.cells #[a,b] t (0,0))):W.cell? ⟨B,0,none⟩=some a∧W.cell? ⟨B,1,none⟩=some b:=by
 refine ⟨?_,?_⟩<;>simp [World.cell?,h]
theorem z6m (k:Nat) (E:ES) (id:Int) (M S:Bl) (w:World) (h:EngR w M S k E) (hE:EOk E):Calls Tryz.prog 99 #[.pointer (some ⟨k,0,none⟩),.int .i64 id] w (RetE (.bool (z3g E id)) w):=by
 obtain ⟨kd,ka,md,ma,mr,kh,hv,hP⟩:=h
 obtain ⟨e0,e1,e2,e3,e4,e5,e6,hkl⟩:=hP.cells
 refine retE ?_
 unfold z3g
 rcases hP.look id true with ⟨hn,hlk'⟩ | ⟨r,kf,hr,hf,hlk'⟩
 ·rw [hn]
  have hlk:=hlk' w (Gr.refl w)
  simp only [if_true] at hlk
  clear hP hlk'
  go_enter Tryz.func99,Tryz.ntmps99
  go_wp2_with fail
  go_ret
  exact ⟨rfl,(Gr.refl w).alloc _⟩
 ·rw [hr]
  have hlk:=hlk' w (Gr.refl w)
  simp only [if_true,runV] at hlk
  obtain ⟨_,mb,_,hfr⟩:=hf
  have hlen:=(hE.get hr).1.len
  have HST:=hid (fun (W:World) (g:Gr w W)=>z2w kf mb r.f M W (hfr.gr g) (by omega))
  clear hP hlk' hfr hr
  simp only
  generalize z0B r.f.l=st at *
  have hb:∀ b:Bool,(st==1)=b→Calls Tryz.prog 99 #[.pointer (some ⟨k,0,none⟩),.int .i64 id] w (fun e w'=>e=.returned (.bool b)∧Gr w w'):=by
   intro b hb
   go_enter Tryz.func99,Tryz.ntmps99
   go_wp2_with (go_at_call 65;(with_reducible refine (HST.o _ ((Gr.refl w).alloc _)).mono ?_);rintro en _ ⟨rfl,y1,rfl⟩)
   go_ret
   exact ⟨by first | rfl | rw [hb] | simp [hb],((Gr.refl w).alloc _).ext y1⟩
  exact hb _ rfl
theorem z3n (k:Nat) (E:ES) (id now:Int) (l:List Out) (v:Value) (M S:Bl) (w:World) (h:EngR w M S k E) (hE:EOk E) (r:RunS) (hr:lk E.runs id=some r) (hl:z08 outR w M v l) (hdue:E.due.length+l.length≤1000000) (hk:∀ o∈l,1≤o.kind∧o.kind≤5) :
  Calls Tryz.prog 77 #[.pointer (some ⟨k,0,none⟩),.int .i64 id,.int .i64 now,v] w (RetS M S k (z3h E id r.f.run l) (.bool true) vF w):=by
 rw [z6p]
 exact ze4 k E id now l v M S w h hE r hr hl hdue (fun E o=>out0 E id r.f.run o) (fun E E' o _ he=>(z5N he).1) (fun W M' S' E' o d ho heng hok hdl hd=>z9Y k E' id r.f.run now o d M' S' W heng hok hdl (by obtain ⟨A,c,e⟩:=hd.shape;exact ⟨A,_,c,e⟩) (hk o ho))
def z5L (E:ES) (id:Int):Int:=match lk E.runs id with | some r=>r.f.run+1 | none=>1
def vB:Value→Prop:=fun v=>∃ x,v=.tuple #[.int .i64 x,.bool true]
set_option maxHeartbeats 4000000 in
theorem z5g (PUT:z0e) (k:Nat) (E:ES) (id list n:Int) (d:Value) (data:List UInt8) (pf pr now:Int) (M S:Bl) (w:World) (h:EngR w M S k E) (hE:EOk E) (hdue:E.due.length≤999000) (hd:BysM w M d data) :
  Calls Tryz.prog 100 #[.pointer (some ⟨k,0,none⟩),.int .i64 id,.int .i64 list,.int .i64 n,d,.agg #[.int .i64 pf,.int .i64 pr],.int .i64 now] w (RetS M S k ((z0U E id list n data pf pr now).map (·.1)) (.tuple #[.int .i64 (z5L E id),.bool false]) vB w):=by
 obtain ⟨kd,ka,md,ma,mr,kh,hv,hP⟩:=h
 have H:=hid hP
 obtain ⟨e0,e1,e2,e3,e4,e5,e6,hkl⟩:=hP.cells
 rcases hP.look id true with ⟨hn,hlk'⟩ | ⟨r,kf0,hr,hf,hlk'⟩
 ·have hlk:=hlk' _ ((Gr.refl w).alloc (.cells #[.int .i64 pf,.int .i64 pr] 107))
  simp only [if_true] at hlk
  have HLK:=hid hn
  have HNE:=hid (show z5L E id=1 by unfold z5L;rw [hn])
  rw [HNE.o]
  have GNEW0:=hid (((Gr.refl w).alloc (.cells #[.int .i64 pf,.int .i64 pr] 107)).alloc (.cells #[.pointer none,.int .i64 0,.int .i64 0] 109))
  clear hP hlk' hn
  obtain ⟨x,hx⟩:∃ x,newF id 1 list n data now=x:=⟨_,rfl⟩
  have HNEW:=hid (fun (W:World) (g:Gr w W)=>z9V PUT id 1 list n d data now M W (fun b e=>Nat.lt_of_lt_of_le (H.o.lt b e) g.size) (hd.up (Gr.up g M)))
  obtain ⟨Ad,cd,rfl⟩:=hd.shape
  rw [hx] at HNEW
  cases x with
  | none =>
   have HB:=hid (show z0U E id list n data pf pr now=none by unfold z0U;rw [HLK.o];simp only;rw [hx])
   rw [HB.o]
   clear hx hd
   go_enter Tryz.func100,Tryz.ntmps100
   go_wp2_with (first
    | fail
    | (go_at_call 135;go_loud ((refine (HNEW.o _ GNEW0.o).mono ?_;intro en w3 hret;simp only [z5e] at hret;obtain ⟨rfl,g3⟩:=hret))))
   go_ret2
   exact RetS.full (((GNEW0.o).trans g3).mod S) ⟨_,rfl⟩
  | some x =>
   rcases x with ⟨F,os⟩
   obtain ⟨hfok,hfid,hfrun,_⟩:=FOk.new hx
   have hos:=z5K hx
   have HB:=hid (show (z0U E id list n data pf pr now).map (·.1)=z3h { E with runs:=up E.runs id ⟨F,pf,pr⟩ } id F.run os by
    unfold z0U;rw [HLK.o];simp only;rw [hx];simp only [hfrun];cases z3h { E with runs:=up E.runs id ⟨F,pf,pr⟩ } id (1) os<;>rfl)
   rw [HB.o]
   have HNX:=hid (z1Y (E:=E) (id:=id) (r:=⟨F,pf,pr⟩) (fun _=>⟨hfok,hfid⟩))
   have HOS:=hid hos
   have HFR:=hid hfrun
   obtain ⟨R,hR⟩:∃ R,z3h { E with runs:=up E.runs id ⟨F,pf,pr⟩ } id F.run os=R:=⟨_,rfl⟩
   rw [hR]
   have HR:=hid hR
   clear hx hd hfok hfid hfrun hos hR
   cases R with
   | none =>
    go_enter Tryz.func100,Tryz.ntmps100
    go_upto_region 8 with (first
     | fail
     | (go_at_call 135;go_loud ((refine (HNEW.o _ GNEW0.o).mono ?_;intro en w3 hret;simp only [z5e] at hret;obtain ⟨kf,A3,c3_,rfl,g3,hkf,hfi,hrec⟩:=hret;have HFI:=hid hfi;have HREC:=hid hrec;have G3:=hid ((GNEW0.o).trans g3);have HB3:=hid ((g3.block w.heap.size (by simp;omega)).trans ((((Gr.refl _).alloc _).block w.heap.size (by simp)).trans (heap_alloc_new w _)));clear hfi hrec g3))))
    obtain ⟨p0,p1⟩:=z6c HB3.o
    have hl3:=block_lt HB3.o
    have P3:=hid (H.o.gr G3.o)
    obtain ⟨_,_,_,_,_,f5,_,hk3⟩:=P3.o.cells
    obtain ⟨kv,hmi,hrel⟩:=P3.o.r
    have HMI:=hid hmi
    have HREL:=hid hrel
    clear hmi hrel
    refine z01 [(0,false),(1,false),(2,false),(3,false),(4,false),(5,false),(6,false),(7,false),(8,true)] (fun W=>Gr w3 W) (by kernel_rfl) (by kernel_rfl) (fun _ _ d _ _ h=>by cases d<;>exact h) (Gr.refl w3).drew (fun _=>?_)
    iterate 8 (refine z03 (v:=?_) rfl (by rfl) ?_ ?_;rotate_left;(focus (intro W9 hW9;obtain ⟨x9,rfl⟩:∃ x:Ext w3,W9=x.val:=⟨⟨W9,hW9⟩,rfl⟩;go_simp;(try with_reducible rfl);done));(try simp only [AP]))
    refine z06 rfl (by rfl) (fun K hK=>?_)
    refine z0f _ _ _ _ 76 rfl 3 109 Tryz.underlying76 Tryz.underlying3 mr kv id (runV kf pf pr) (by rfl) (HMI.o.gr (Gr.refl w3).drew) (by rfl) (by rfl) ?_
    intro w7 hmi7 hm7
    have P7:=hid ((P3.o.gr (Gr.refl w3).drew).putRun hm7 (HREL.o.mono fun a v hr=>hr.up (Gr.up (Gr.refl w3).drew M)) hmi7 (HFI.o.up (Gr.up (Gr.refl w3).drew M)))
    have AL:=hid (show z0j w M S w7 M S from ⟨(G3.o.drew.mod S).trans hm7 (fun b _ e=>e▸H.o.smr),fun _ _ e=>e,fun _ _ e=>e,fun _ e=>e⟩)
    have HREC7:=hid (HREC.o.up ((Gr.up (Gr.refl w3).drew M).trans (Mod.up hm7 (fun b _ e=>e▸H.o.SM _ H.o.smr))))
    have HOUT:=hid (z3n k { E with runs:=up E.runs id ⟨F,pf,pr⟩ } id now os _ M S w7 P7.o (HNX.o.ok hE) ⟨F,pf,pr⟩ (z0g _ _ _) HREC7.o (by rw [HOS.o];simp;omega) (fun o ho=>by rw [HOS.o] at ho;simp only [List.mem_singleton] at ho;subst ho;exact ⟨by dsimp only;omega,by dsimp only;omega⟩))
    rw [HR.o] at HOUT
    refine hK.o _ _ ?_
    clear hK K hmi7 hm7
    go_wp2_with (go_at_call 77;go_loud ((refine HOUT.o.mono ?_;intro en w9 hret;rcases hret.cases with ⟨_,v9,hen,hv9,hm9⟩ | ⟨E9,M9,S9,e9,_⟩;rotate_left;(cases e9);have hv9':v9=.bool false:=hv9;subst hv9';subst hen;have HM9:=hid hm9;clear hret hm9 hv9)))
    go_ret2
    exact RetS.none_ AL.o HM9.o ⟨_,rfl⟩
   | some E' =>
    go_enter Tryz.func100,Tryz.ntmps100
    go_upto_region 8 with (first
     | fail
     | (go_at_call 135;go_loud ((refine (HNEW.o _ GNEW0.o).mono ?_;intro en w3 hret;simp only [z5e] at hret;obtain ⟨kf,A3,c3_,rfl,g3,hkf,hfi,hrec⟩:=hret;have HFI:=hid hfi;have HREC:=hid hrec;have G3:=hid ((GNEW0.o).trans g3);have HB3:=hid ((g3.block w.heap.size (by simp;omega)).trans ((((Gr.refl _).alloc _).block w.heap.size (by simp)).trans (heap_alloc_new w _)));clear hfi hrec g3))))
    obtain ⟨p0,p1⟩:=z6c HB3.o
    have hl3:=block_lt HB3.o
    have P3:=hid (H.o.gr G3.o)
    obtain ⟨_,_,_,_,_,f5,_,hk3⟩:=P3.o.cells
    obtain ⟨kv,hmi,hrel⟩:=P3.o.r
    have HMI:=hid hmi
    have HREL:=hid hrel
    clear hmi hrel
    refine z01 [(0,false),(1,false),(2,false),(3,false),(4,false),(5,false),(6,false),(7,false),(8,true)] (fun W=>Gr w3 W) (by kernel_rfl) (by kernel_rfl) (fun _ _ d _ _ h=>by cases d<;>exact h) (Gr.refl w3).drew (fun _=>?_)
    iterate 8 (refine z03 (v:=?_) rfl (by rfl) ?_ ?_;rotate_left;(focus (intro W9 hW9;obtain ⟨x9,rfl⟩:∃ x:Ext w3,W9=x.val:=⟨⟨W9,hW9⟩,rfl⟩;go_simp;(try with_reducible rfl);done));(try simp only [AP]))
    refine z06 rfl (by rfl) (fun K hK=>?_)
    refine z0f _ _ _ _ 76 rfl 3 109 Tryz.underlying76 Tryz.underlying3 mr kv id (runV kf pf pr) (by rfl) (HMI.o.gr (Gr.refl w3).drew) (by rfl) (by rfl) ?_
    intro w7 hmi7 hm7
    have P7:=hid ((P3.o.gr (Gr.refl w3).drew).putRun hm7 (HREL.o.mono fun a v hr=>hr.up (Gr.up (Gr.refl w3).drew M)) hmi7 (HFI.o.up (Gr.up (Gr.refl w3).drew M)))
    have AL:=hid (show z0j w M S w7 M S from ⟨(G3.o.drew.mod S).trans hm7 (fun b _ e=>e▸H.o.smr),fun _ _ e=>e,fun _ _ e=>e,fun _ e=>e⟩)
    have HREC7:=hid (HREC.o.up ((Gr.up (Gr.refl w3).drew M).trans (Mod.up hm7 (fun b _ e=>e▸H.o.SM _ H.o.smr))))
    have HOUT:=hid (z3n k { E with runs:=up E.runs id ⟨F,pf,pr⟩ } id now os _ M S w7 P7.o (HNX.o.ok hE) ⟨F,pf,pr⟩ (z0g _ _ _) HREC7.o (by rw [HOS.o];simp;omega) (fun o ho=>by rw [HOS.o] at ho;simp only [List.mem_singleton] at ho;subst ho;exact ⟨by dsimp only;omega,by dsimp only;omega⟩))
    rw [HR.o] at HOUT
    refine hK.o _ _ ?_
    clear hK K hmi7 hm7
    go_wp2_with (go_at_call 77;go_loud ((refine HOUT.o.mono ?_;intro en w9 hret;rcases hret.cases with ⟨e9,_⟩ | ⟨E9,M9,S9,e9,hen,he9,ha9⟩;(cases e9);injection e9 with e9;subst e9;subst hen;have HE9:=hid he9;have HA9:=hid ha9;clear hret he9 ha9)))
    go_ret2
    exact RetS.some_ (AL.o.trans HA9.o) HE9.o
 ·have hlk:=hlk' _ ((Gr.refl w).alloc (.cells #[.int .i64 pf,.int .i64 pr] 107))
  simp only [if_true,runV] at hlk
  have HLK:=hid hr
  have HNE:=hid (show z5L E id=r.f.run+1 by unfold z5L;rw [hr])
  rw [HNE.o]
  obtain ⟨_,mb0,_,hfr⟩:=hf
  have hrunr:=(hE.get hr).1.runn
  have HRUN:=hid (fun (W:World) (g:Gr w W)=>z2S kf0 mb0 r.f M W (hfr.gr g))
  clear hP hlk' hfr hr
  obtain ⟨x,hx⟩:∃ x,newF id (r.f.run+1) list n data now=x:=⟨_,rfl⟩
  have HNEW:=hid (fun (W:World) (g:Gr w W)=>z9V PUT id (r.f.run+1) list n d data now M W (fun b e=>Nat.lt_of_lt_of_le (H.o.lt b e) g.size) (hd.up (Gr.up g M)))
  obtain ⟨Ad,cd,rfl⟩:=hd.shape
  rw [hx] at HNEW
  cases x with
  | none =>
   have HB:=hid (show z0U E id list n data pf pr now=none by unfold z0U;rw [HLK.o];simp only;rw [hx])
   rw [HB.o]
   clear hx hd
   go_enter Tryz.func100,Tryz.ntmps100
   go_wp2_with (first
    | (go_at_call 63;(with_reducible refine (HRUN.o _ (by repeat (first | exact Gr.refl _ | refine Gr.alloc ?_ _))).mono ?_);rintro en _ ⟨rfl,y1,rfl⟩;have HG0:=hid (((Gr.refl w).alloc (.cells #[.int .i64 pf,.int .i64 pr] 107)).alloc (.cells #[.pointer (some ⟨kf0,0,none⟩),.int .i64 r.pf,.int .i64 r.pr] 109) |>.ext y1))
    | (go_at_call 135;go_loud ((refine (HNEW.o _ HG0.o).mono ?_;intro en w3 hret;simp only [z5e] at hret;obtain ⟨rfl,g3⟩:=hret))))
   go_ret2
   exact RetS.full (((HG0.o).trans g3).mod S) ⟨_,rfl⟩
  | some x =>
   rcases x with ⟨F,os⟩
   obtain ⟨hfok,hfid,hfrun,_⟩:=FOk.new hx
   have hos:=z5K hx
   have HB:=hid (show (z0U E id list n data pf pr now).map (·.1)=z3h { E with runs:=up E.runs id ⟨F,pf,pr⟩ } id F.run os by
    unfold z0U;rw [HLK.o];simp only;rw [hx];simp only [hfrun];cases z3h { E with runs:=up E.runs id ⟨F,pf,pr⟩ } id ((r.f.run+1)) os<;>rfl)
   rw [HB.o]
   have HNX:=hid (z1Y (E:=E) (id:=id) (r:=⟨F,pf,pr⟩) (fun _=>⟨hfok,hfid⟩))
   have HOS:=hid hos
   have HFR:=hid hfrun
   obtain ⟨R,hR⟩:∃ R,z3h { E with runs:=up E.runs id ⟨F,pf,pr⟩ } id F.run os=R:=⟨_,rfl⟩
   rw [hR]
   have HR:=hid hR
   clear hx hd hfok hfid hfrun hos hR
   cases R with
   | none =>
    go_enter Tryz.func100,Tryz.ntmps100
    go_upto_region 8 with (first
     | (go_at_call 63;(with_reducible refine (HRUN.o _ (by repeat (first | exact Gr.refl _ | refine Gr.alloc ?_ _))).mono ?_);rintro en _ ⟨rfl,y1,rfl⟩;have HG0:=hid (((Gr.refl w).alloc (.cells #[.int .i64 pf,.int .i64 pr] 107)).alloc (.cells #[.pointer (some ⟨kf0,0,none⟩),.int .i64 r.pf,.int .i64 r.pr] 109) |>.ext y1))
     | (go_at_call 135;go_loud ((refine (HNEW.o _ HG0.o).mono ?_;intro en w3 hret;simp only [z5e] at hret;obtain ⟨kf,A3,c3_,rfl,g3,hkf,hfi,hrec⟩:=hret;have HFI:=hid hfi;have HREC:=hid hrec;have G3:=hid ((HG0.o).trans g3);have HB3:=hid ((g3.block w.heap.size (by have:=y1.gr.size;simp at this;omega)).trans (((((Gr.refl _).alloc _).ext y1).block w.heap.size (by simp)).trans (heap_alloc_new w _)));clear hfi hrec g3))))
    obtain ⟨p0,p1⟩:=z6c HB3.o
    have hl3:=block_lt HB3.o
    have P3:=hid (H.o.gr G3.o)
    obtain ⟨_,_,_,_,_,f5,_,hk3⟩:=P3.o.cells
    obtain ⟨kv,hmi,hrel⟩:=P3.o.r
    have HMI:=hid hmi
    have HREL:=hid hrel
    clear hmi hrel
    refine z01 [(0,false),(1,false),(2,false),(3,false),(4,false),(5,false),(6,false),(7,false),(8,true)] (fun W=>Gr w3 W) (by kernel_rfl) (by kernel_rfl) (fun _ _ d _ _ h=>by cases d<;>exact h) (Gr.refl w3).drew (fun _=>?_)
    iterate 8 (refine z03 (v:=?_) rfl (by rfl) ?_ ?_;rotate_left;(focus (intro W9 hW9;obtain ⟨x9,rfl⟩:∃ x:Ext w3,W9=x.val:=⟨⟨W9,hW9⟩,rfl⟩;go_simp;(try with_reducible rfl);done));(try simp only [AP]))
    refine z06 rfl (by rfl) (fun K hK=>?_)
    refine z0f _ _ _ _ 76 rfl 3 109 Tryz.underlying76 Tryz.underlying3 mr kv id (runV kf pf pr) (by rfl) (HMI.o.gr (Gr.refl w3).drew) (by rfl) (by rfl) ?_
    intro w7 hmi7 hm7
    have P7:=hid ((P3.o.gr (Gr.refl w3).drew).putRun hm7 (HREL.o.mono fun a v hr=>hr.up (Gr.up (Gr.refl w3).drew M)) hmi7 (HFI.o.up (Gr.up (Gr.refl w3).drew M)))
    have AL:=hid (show z0j w M S w7 M S from ⟨(G3.o.drew.mod S).trans hm7 (fun b _ e=>e▸H.o.smr),fun _ _ e=>e,fun _ _ e=>e,fun _ e=>e⟩)
    have HREC7:=hid (HREC.o.up ((Gr.up (Gr.refl w3).drew M).trans (Mod.up hm7 (fun b _ e=>e▸H.o.SM _ H.o.smr))))
    have HOUT:=hid (z3n k { E with runs:=up E.runs id ⟨F,pf,pr⟩ } id now os _ M S w7 P7.o (HNX.o.ok hE) ⟨F,pf,pr⟩ (z0g _ _ _) HREC7.o (by rw [HOS.o];simp;omega) (fun o ho=>by rw [HOS.o] at ho;simp only [List.mem_singleton] at ho;subst ho;exact ⟨by dsimp only;omega,by dsimp only;omega⟩))
    rw [HR.o] at HOUT
    refine hK.o _ _ ?_
    clear hK K hmi7 hm7
    go_wp2_with (go_at_call 77;go_loud ((refine HOUT.o.mono ?_;intro en w9 hret;rcases hret.cases with ⟨_,v9,hen,hv9,hm9⟩ | ⟨E9,M9,S9,e9,_⟩;rotate_left;(cases e9);have hv9':v9=.bool false:=hv9;subst hv9';subst hen;have HM9:=hid hm9;clear hret hm9 hv9)))
    go_ret2
    exact RetS.none_ AL.o HM9.o ⟨_,rfl⟩
   | some E' =>
    go_enter Tryz.func100,Tryz.ntmps100
    go_upto_region 8 with (first
     | (go_at_call 63;(with_reducible refine (HRUN.o _ (by repeat (first | exact Gr.refl _ | refine Gr.alloc ?_ _))).mono ?_);rintro en _ ⟨rfl,y1,rfl⟩;have HG0:=hid (((Gr.refl w).alloc (.cells #[.int .i64 pf,.int .i64 pr] 107)).alloc (.cells #[.pointer (some ⟨kf0,0,none⟩),.int .i64 r.pf,.int .i64 r.pr] 109) |>.ext y1))
     | (go_at_call 135;go_loud ((refine (HNEW.o _ HG0.o).mono ?_;intro en w3 hret;simp only [z5e] at hret;obtain ⟨kf,A3,c3_,rfl,g3,hkf,hfi,hrec⟩:=hret;have HFI:=hid hfi;have HREC:=hid hrec;have G3:=hid ((HG0.o).trans g3);have HB3:=hid ((g3.block w.heap.size (by have:=y1.gr.size;simp at this;omega)).trans (((((Gr.refl _).alloc _).ext y1).block w.heap.size (by simp)).trans (heap_alloc_new w _)));clear hfi hrec g3))))
    obtain ⟨p0,p1⟩:=z6c HB3.o
    have hl3:=block_lt HB3.o
    have P3:=hid (H.o.gr G3.o)
    obtain ⟨_,_,_,_,_,f5,_,hk3⟩:=P3.o.cells
    obtain ⟨kv,hmi,hrel⟩:=P3.o.r
    have HMI:=hid hmi
    have HREL:=hid hrel
    clear hmi hrel
    refine z01 [(0,false),(1,false),(2,false),(3,false),(4,false),(5,false),(6,false),(7,false),(8,true)] (fun W=>Gr w3 W) (by kernel_rfl) (by kernel_rfl) (fun _ _ d _ _ h=>by cases d<;>exact h) (Gr.refl w3).drew (fun _=>?_)
    iterate 8 (refine z03 (v:=?_) rfl (by rfl) ?_ ?_;rotate_left;(focus (intro W9 hW9;obtain ⟨x9,rfl⟩:∃ x:Ext w3,W9=x.val:=⟨⟨W9,hW9⟩,rfl⟩;go_simp;(try with_reducible rfl);done));(try simp only [AP]))
    refine z06 rfl (by rfl) (fun K hK=>?_)
    refine z0f _ _ _ _ 76 rfl 3 109 Tryz.underlying76 Tryz.underlying3 mr kv id (runV kf pf pr) (by rfl) (HMI.o.gr (Gr.refl w3).drew) (by rfl) (by rfl) ?_
    intro w7 hmi7 hm7
    have P7:=hid ((P3.o.gr (Gr.refl w3).drew).putRun hm7 (HREL.o.mono fun a v hr=>hr.up (Gr.up (Gr.refl w3).drew M)) hmi7 (HFI.o.up (Gr.up (Gr.refl w3).drew M)))
    have AL:=hid (show z0j w M S w7 M S from ⟨(G3.o.drew.mod S).trans hm7 (fun b _ e=>e▸H.o.smr),fun _ _ e=>e,fun _ _ e=>e,fun _ e=>e⟩)
    have HREC7:=hid (HREC.o.up ((Gr.up (Gr.refl w3).drew M).trans (Mod.up hm7 (fun b _ e=>e▸H.o.SM _ H.o.smr))))
    have HOUT:=hid (z3n k { E with runs:=up E.runs id ⟨F,pf,pr⟩ } id now os _ M S w7 P7.o (HNX.o.ok hE) ⟨F,pf,pr⟩ (z0g _ _ _) HREC7.o (by rw [HOS.o];simp;omega) (fun o ho=>by rw [HOS.o] at ho;simp only [List.mem_singleton] at ho;subst ho;exact ⟨by dsimp only;omega,by dsimp only;omega⟩))
    rw [HR.o] at HOUT
    refine hK.o _ _ ?_
    clear hK K hmi7 hm7
    go_wp2_with (go_at_call 77;go_loud ((refine HOUT.o.mono ?_;intro en w9 hret;rcases hret.cases with ⟨e9,_⟩ | ⟨E9,M9,S9,e9,hen,he9,ha9⟩;(cases e9);injection e9 with e9;subst e9;subst hen;have HE9:=hid he9;have HA9:=hid ha9;clear hret he9 ha9)))
    go_ret2
    exact RetS.some_ (AL.o.trans HA9.o) HE9.o
set_option maxHeartbeats 4000000 in
theorem z2M (f:Nat) (cs:Array Value) (k:Nat) (F:FS) (d:Value) (data:List UInt8) (now:Int) (act:FS→FR) (M:Bl) (w:World) (h:z0O w M k F) (hM:∀ b,M b→b<w.heap.size) (hk:M k) (hd:Bys w d data) (hF:FI F) (hl:F.l.length≤4096)
    (hcf:∀ (ar:Array Value) (W:World),Sem.run Tryz.prog (callFunc f ar) W=.ok (.enter f ar) W)
    (hact:z1L F data now=true→∀ W k' mb',Gr w W→w.heap.size≤k'→w.heap.size≤mb'→FW W (plus M k' mb') k' mb' F→Calls Tryz.prog f (#[.pointer (some ⟨k',0,none⟩)]++cs) W (RetA (plus M k' mb') k' mb' (act F) W)) :
    Calls Tryz.prog 141 #[.pointer (some ⟨k,0,none⟩),d,.int .i64 now,.func (.func f) #[] cs] w (RetT M k (tryF F data now act) w):=by
  obtain ⟨mb,hmb,hr⟩:=h
  have HR:=hid hr
  have HACT0:=hid hact
  have HRT:=hid (fun (W:World) (y:Gr w W)=>z6s k mb F M d data now W (hr.gr y) (hd.gr y) (by omega))
  have HST:=hid (fun (W:World) (y:Gr w W)=>z2w k mb F M W (hr.gr y) (by omega))
  have HTW:=hid (fun (W:World) (y:Gr w W)=>z4A k mb F M W (hr.gr y) (fun b e=>Nat.lt_of_lt_of_le (hM b e) y.size))
  have HM:=hid hM
  have HF:=hid hF
  have HMB:=hid hmb
  obtain ⟨Ad,cd,rfl,_,_,_⟩:=hd
  have hsel:∀ W,Gr w W→z0O W M k F:=fun W y=>⟨mb,hmb,hr.gr y⟩
  have HSEL:=hid hsel
  clear hr hact hM hmb hsel hF
  unfold tryF
  cases hb1:z1L F data now
  · simp only [if_true]
    rw [hb1] at HRT
    clear hb1
    go_enter Tryz.func141,Tryz.ntmps141
    go_wp2_with (go_at_call 180;(with_reducible refine (HRT.o _ (Gr.refl _)).mono ?_);rintro en _ ⟨rfl,y1,rfl⟩)
    go_ret2
    exact ⟨none,0,rfl,HSEL.o _ y1.gr,z08.none _ _ _,y1.gr.mod _⟩
  have HACT:=hid (HACT0.o hb1)
  rw [hb1] at HRT
  clear hb1
  simp only [Bool.true_eq_false,if_false]
  by_cases hs1:z0B F.l≠1
  · rw [if_pos hs1]
    go_enter Tryz.func141,Tryz.ntmps141
    go_wp2_with (first
      | (go_at_call 180;(with_reducible refine (HRT.o _ (Gr.refl _)).mono ?_);rintro en _ ⟨rfl,y1,rfl⟩)
      | (go_at_call 65;(with_reducible refine (HST.o _ y1.gr).mono ?_);rintro en _ ⟨rfl,y2,rfl⟩))
    go_ret2
    exact ⟨none,0,rfl,HSEL.o _ (y1.gr.ext y2),z08.none _ _ _,(y1.gr.ext y2).mod _⟩
  rw [if_neg hs1]
  have hs1':z0B F.l=1:=Decidable.not_not.1 hs1
  rw [hs1'] at HST
  clear hs1 hs1'
  obtain ⟨x,hx⟩:∃ x,act F=x:=⟨_,rfl⟩
  rw [hx] at HACT ⊢
  clear hx
  rcases x with ⟨F',os,ec⟩
  simp only
  obtain ⟨y,hy⟩:∃ y:FR,(if ec≠0∧F'.l.length=F.l.length then (F,[],ec) else if 4096<F'.l.length then (F,[],4) else (F',os,ec))=y:=⟨_,rfl⟩
  rw [hy]
  have HY:=hid hy
  clear hy
  go_enter Tryz.func141,Tryz.ntmps141
  go_wp2_with (first
    | (go_at_call 180;(with_reducible refine (HRT.o _ (Gr.refl _)).mono ?_);rintro en _ ⟨rfl,y1,rfl⟩)
    | (go_at_call 65;(with_reducible refine (HST.o _ y1.gr).mono ?_);rintro en _ ⟨rfl,y2,rfl⟩)
    | (go_at_call 75
       refine (HTW.o _ (y1.gr.ext y2)).mono ?_
       rintro en w3 ⟨k',mb',rfl,hk',hmb',hne',g3,hr3,hM3⟩
       have G3:=hid ((y1.gr.ext y2).trans g3)
       have HK':=hid (show w.heap.size≤k'∧w.heap.size≤mb' from ⟨Nat.le_trans (y1.gr.ext y2).size hk',Nat.le_trans (y1.gr.ext y2).size hmb'⟩)
       have HA:=hid (HACT.o w3 k' mb' G3.o HK'.o.1 HK'.o.2 ⟨hr3,.inr (.inl rfl),.inr (.inr rfl),hne',hM3,by omega,HF.o⟩)
       clear hk' hmb' g3 hr3 hM3)
    | (with_reducible refine HA.o.mono ?_
       rintro en w4 ⟨A4,c4,rfl,hr4,ho4,hm4⟩
       obtain ⟨A5,c5,hf5⟩:=hr4.lenr
       have HC4:=hid (show w4.heap[k']?=some (.cells (z2C F' (.slice A5 F'.l.length c5) mb') 157 (0,0)) by
         obtain ⟨v,h1,h2⟩:=hr4.row
         have hv:=(FC.of h1).c4.symm.trans hf5.c4
         injection hv with hv
         rw [← hv]
         exact h1)
       have HR4:=hid hr4
       have HO4:=hid ho4
       have hkk:k<w.heap.size:=HR.o.lt.1
       have G4:=hid (show Gr w w4 from (show Gr w w4 from ⟨hm4.os.trans G3.o.os,hm4.tape.trans G3.o.tape,hm4.output.trans G3.o.output,Nat.le_trans G3.o.size hm4.size,fun b hb=>(hm4.block b (Nat.lt_of_lt_of_le hb G3.o.size) (by have:=HK'.o;omega)).trans (G3.o.block b hb)⟩))
       obtain ⟨A6,c6,_,hf6,_,_⟩:=(HR.o.gr G4.o).parts
       obtain ⟨d0,d1,d2,d3,d4,d5,d6,d7,d8,d9,d10,d11⟩:=hf5
       obtain ⟨e0,e1,e2,e3,e4,e5,e6,e7,e8,e9,e10,e11⟩:=hf6
       have hk4:k<w4.heap.size:=Nat.lt_of_lt_of_le hkk G4.o.size
       have hk5:k'<w4.heap.size:=HR4.o.lt.1
       clear hr4 ho4 hm4))
  have HKC:=hid ((HR.o.gr G4.o).row)
  have fz:∀ j,w4.frozen? ⟨k,j,none⟩=false:=fun j=>by
    obtain ⟨v,h1,_⟩:=HKC.o
    exact z00 h1
  have f0:=fz 0
  have f1:=fz 1
  have f2:=fz 2
  have f3:=fz 3
  have f4:=fz 4
  have f5:=fz 5
  have f6:=fz 6
  have f7:=fz 7
  have f8:=fz 8
  have f9:=fz 9
  have f10:=fz 10
  have f11:=fz 11
  clear fz
  by_cases hcond:ec≠0∧F'.l.length=F.l.length
  · rw [if_pos hcond] at HY
    obtain rfl:=HY.o
    clear HY
    obtain ⟨hc1,hc2⟩:=hcond
    have hc1b:(ec != 0)=true:=by simpa using hc1
    have hc2b:((F'.l.length:Int)==(F.l.length:Int))=true:=by simp [hc2]
    clear hc2
    refine z0a (by kernel_rfl) (by kernel_rfl) ?_
    repeat (go_big_quiet_step (fail))
    refine wpQuiet_nil ?_
    rintro _ ⟨x5,rfl⟩
    go_wp2_with fail
    go_ret2
    exact ⟨none,0,rfl,HSEL.o _ (G4.o.ext x5),z08.none _ _ _,(G4.o.ext x5).mod _⟩
  rw [if_neg hcond] at HY
  by_cases hc1:ec=0
  · subst hc1
    clear hcond
    refine z0a (by kernel_rfl) (by kernel_rfl) ?_
    repeat (go_big_quiet_step (fail))
    refine wpQuiet_nil ?_
    rintro _ ⟨x5,rfl⟩
    have G5:=hid (G4.o.ext x5)
    by_cases hlong:4096<F'.l.length
    · rw [if_pos hlong] at HY
      obtain rfl:=HY.o
      clear HY
      have hlz:(4096:Int)<(F'.l.length:Int):=by omega
      go_wp2_with fail
      go_ret2
      exact ⟨none,0,rfl,HSEL.o _ G5.o,z08.none _ _ _,G5.o.mod _⟩
    · rw [if_neg hlong] at HY
      obtain rfl:=HY.o
      clear HY
      have hlz:¬ (4096:Int)<(F'.l.length:Int):=by omega
      go_wp2_with fail
      go_ret2
      have HKC5:=hid ((HR.o.gr G5.o).row)
      obtain ⟨v5,h5,_⟩:=HKC5.o
      have m5:∀ W,Mod (fun b=>b=k) x5.val W→Mod (fun b=>b=k) w W:=fun W m=>(G5.o.mod _).trans m (fun _ _ e=>e)
      obtain ⟨s12,m12⟩:=zgV h5 (.int .i64 F'.id) (.int .i64 F'.run) (.int .i64 F'.list) (.int .i64 F'.n) (.slice A5 F'.l.length c5) (.int .i64 F'.task) (.int .i64 F'.place) (.int .i64 F'.begun) (.int .i64 F'.turn) (.bool F'.late) (.bool F'.asked) (.map (some mb'))
      refine ⟨A4,c4,rfl,z0H.copy (HR4.o.gr x5.gr) ((x5.gr.block k' hk5).trans HC4.o) (fun b e=>?_) hk m12 s12,(HO4.o.up (Gr.up x5.gr _)).up (Up.trans (z9h _) (Mod.up (M:=M) m12 (fun b _ e=>e▸hk))),m5 _ m12⟩
      have:=HM.o b e;have:=HK'.o;omega
  · have hc2:¬ F'.l.length=F.l.length:=fun e=>hcond ⟨hc1,e⟩
    have hc1b:(ec != 0)=true:=by simpa using hc1
    have hc2b:((F'.l.length:Int)==(F.l.length:Int))=false:=by
      have:¬ (F'.l.length:Int)=(F.l.length:Int):=by omega
      simpa using this
    clear hcond hc2
    refine z0a (by kernel_rfl) (by kernel_rfl) ?_
    repeat (go_big_quiet_step (fail))
    refine wpQuiet_nil ?_
    rintro _ ⟨x5,rfl⟩
    have G5:=hid (G4.o.ext x5)
    by_cases hlong:4096<F'.l.length
    · rw [if_pos hlong] at HY
      obtain rfl:=HY.o
      clear HY
      have hlz:(4096:Int)<(F'.l.length:Int):=by omega
      go_wp2_with fail
      go_ret2
      exact ⟨none,0,rfl,HSEL.o _ G5.o,z08.none _ _ _,G5.o.mod _⟩
    · rw [if_neg hlong] at HY
      obtain rfl:=HY.o
      clear HY
      have hlz:¬ (4096:Int)<(F'.l.length:Int):=by omega
      go_wp2_with fail
      go_ret2
      have HKC5:=hid ((HR.o.gr G5.o).row)
      obtain ⟨v5,h5,_⟩:=HKC5.o
      have m5:∀ W,Mod (fun b=>b=k) x5.val W→Mod (fun b=>b=k) w W:=fun W m=>(G5.o.mod _).trans m (fun _ _ e=>e)
      obtain ⟨s12,m12⟩:=zgV h5 (.int .i64 F'.id) (.int .i64 F'.run) (.int .i64 F'.list) (.int .i64 F'.n) (.slice A5 F'.l.length c5) (.int .i64 F'.task) (.int .i64 F'.place) (.int .i64 F'.begun) (.int .i64 F'.turn) (.bool F'.late) (.bool F'.asked) (.map (some mb'))
      refine ⟨A4,c4,rfl,z0H.copy (HR4.o.gr x5.gr) ((x5.gr.block k' hk5).trans HC4.o) (fun b e=>?_) hk m12 s12,(HO4.o.up (Gr.up x5.gr _)).up (Up.trans (z9h _) (Mod.up (M:=M) m12 (fun b _ e=>e▸hk))),m5 _ m12⟩
      have:=HM.o b e;have:=HK'.o;omega
end Go.Proofs.YtniknicnnaiilaaGreat
end
