/- Lemmas of the engine. -/
import Derived.Test.YtniknicnnaiilaaGreatX07
section
namespace Go.Proofs.YtniknicnnaiilaaGreat
set_option maxRecDepth 100000
open Go.RowKit Go.Ext Go.BigFrame Go.Maps Go.MapKept
attribute [local go_sem] Ext.cell Ext.frozen Ext.lt Ext.le s1 s2 s3 s4 s5 s6 t1 t2 t3 t4 t5 t6
attribute [local go_sem ↓] Go.wp_at_zero Go.wp_at_succ
theorem cells5 {W:World} {B:Nat} {t:TypeId} {a b c d e:Value} (h:W.heap[B]?=some (.cells #[a,b,c,d,e] t (0,0))):W.cell? ⟨B,0,none⟩=some a∧W.cell? ⟨B,1,none⟩=some b∧W.cell? ⟨B,2,none⟩=some c∧W.cell? ⟨B,3,none⟩=some d∧W.cell? ⟨B,4,none⟩=some e:=by
 refine ⟨?_,?_,?_,?_,?_⟩<;>simp [World.cell?,h]
theorem z0C {W:World} {B:Nat} {t:TypeId} {a b c d:Value} (h:W.heap[B]?=some (.cells #[a,b,c,d] t (0,0))):W.cell? ⟨B,0,none⟩=some a∧W.cell? ⟨B,1,none⟩=some b∧W.cell? ⟨B,2,none⟩=some c∧W.cell? ⟨B,3,none⟩=some d:=by
 refine ⟨?_,?_,?_,?_⟩<;>simp [World.cell?,h]
def hv (a b c d:Bool):Value:=.agg #[.bool a,.bool b,.bool c,.bool d]
def hasF (k:Int):Bool × Bool × Bool × Bool:=(k==1 || k==4 || k==2 || k==3,k==1 || k==4,k==1 || k==4 || k==2,k==1 || k==4 || k==5 || k==6 || k==8)
theorem z3t (k:Int) (w:World):Calls Tryz.prog 201 #[.int .i64 k] w (RetE (hv (hasF k).1 (hasF k).2.1 (hasF k).2.2.1 (hasF k).2.2.2) w):=by
 refine retE ?_
 by_cases h1:k=1
 ·subst h1
  go_enter Tryz.func201,Tryz.ntmps201
  go_wp2_with fail
  refine bodyPost_ret (v:=hv true true true true) (by simp [results,Tryz.results201,go_sem,hv]) rfl ⟨rfl,?_⟩
  repeat (first | exact Gr.refl _ | refine Gr.alloc ?_ _ | refine Gr.set ?_ (Nat.le_refl _) _)
 by_cases h2:k=2
 ·subst h2
  go_enter Tryz.func201,Tryz.ntmps201
  go_wp2_with fail
  refine bodyPost_ret (v:=hv true false true false) (by simp [results,Tryz.results201,go_sem,hv]) rfl ⟨rfl,?_⟩
  repeat (first | exact Gr.refl _ | refine Gr.alloc ?_ _ | refine Gr.set ?_ (Nat.le_refl _) _)
 by_cases h3:k=3
 ·subst h3
  go_enter Tryz.func201,Tryz.ntmps201
  go_wp2_with fail
  refine bodyPost_ret (v:=hv true false false false) (by simp [results,Tryz.results201,go_sem,hv]) rfl ⟨rfl,?_⟩
  repeat (first | exact Gr.refl _ | refine Gr.alloc ?_ _ | refine Gr.set ?_ (Nat.le_refl _) _)
 by_cases h4:k=4
 ·subst h4
  go_enter Tryz.func201,Tryz.ntmps201
  go_wp2_with fail
  refine bodyPost_ret (v:=hv true true true true) (by simp [results,Tryz.results201,go_sem,hv]) rfl ⟨rfl,?_⟩
  repeat (first | exact Gr.refl _ | refine Gr.alloc ?_ _ | refine Gr.set ?_ (Nat.le_refl _) _)
 by_cases h5:k=5
 ·subst h5
  go_enter Tryz.func201,Tryz.ntmps201
  go_wp2_with fail
  refine bodyPost_ret (v:=hv false false false true) (by simp [results,Tryz.results201,go_sem,hv]) rfl ⟨rfl,?_⟩
  repeat (first | exact Gr.refl _ | refine Gr.alloc ?_ _ | refine Gr.set ?_ (Nat.le_refl _) _)
 by_cases h6:k=6
 ·subst h6
  go_enter Tryz.func201,Tryz.ntmps201
  go_wp2_with fail
  refine bodyPost_ret (v:=hv false false false true) (by simp [results,Tryz.results201,go_sem,hv]) rfl ⟨rfl,?_⟩
  repeat (first | exact Gr.refl _ | refine Gr.alloc ?_ _ | refine Gr.set ?_ (Nat.le_refl _) _)
 by_cases h8:k=8
 ·subst h8
  go_enter Tryz.func201,Tryz.ntmps201
  go_wp2_with fail
  refine bodyPost_ret (v:=hv false false false true) (by simp [results,Tryz.results201,go_sem,hv]) rfl ⟨rfl,?_⟩
  repeat (first | exact Gr.refl _ | refine Gr.alloc ?_ _ | refine Gr.set ?_ (Nat.le_refl _) _)
 have HH:=hid (show hasF k=(false,false,false,false) by simp [hasF,h1,h2,h3,h4,h5,h6,h8])
 rw [HH.o]
 go_enter Tryz.func201,Tryz.ntmps201
 go_wp2_with fail
 refine bodyPost_ret (v:=hv false false false false) (by simp [results,Tryz.results201,go_sem,hv]) rfl ⟨rfl,?_⟩
 repeat (first | exact Gr.refl _ | refine Gr.alloc ?_ _ | refine Gr.set ?_ (Nat.le_refl _) _)
def z2u (h:Bool × Bool × Bool × Bool) (d:Dec):Bool:=(h.1 || d.id==0) && (h.2.1 || d.list==0) && (h.2.2.1 || d.n==0) && (h.2.2.2 || d.data.isEmpty)
theorem z0M (d:Dec):mayF d=(decide (1≤d.kind) && decide (d.kind≤8) && z2u (hasF d.kind) d && numB d.id && numB d.list && (!(hasF d.kind).2.2.1 || z2o d.n) && decide (d.data.length≤4096)):=by
 unfold mayF z2u hasF
 by_cases h1:1≤d.kind
 ·by_cases h8:d.kind≤8
  ·have:(d.kind==1 || d.kind==4 || d.kind==2 || d.kind==3)=decide (d.kind≤4):=by
    refine z50 ?_
    simp only [Bool.or_eq_true,beq_iff_eq,decide_eq_true_eq]
    omega
   simp only [this,h1,h8,decide_true,Bool.true_and,Bool.and_assoc]
  ·simp [h8]
 ·simp [h1]
theorem zaC (k:Int):hasF k=(true,true,true,true)∨hasF k=(true,false,true,false)∨hasF k=(true,false,false,false)∨hasF k=(false,false,false,true)∨hasF k=(false,false,false,false):=by
 by_cases h1:k=1
 ·subst h1;exact .inl rfl
 by_cases h2:k=2
 ·subst h2;exact .inr (.inl rfl)
 by_cases h3:k=3
 ·subst h3;exact .inr (.inr (.inl rfl))
 by_cases h4:k=4
 ·subst h4;exact .inl rfl
 by_cases h5:k=5
 ·subst h5;exact .inr (.inr (.inr (.inl rfl)))
 by_cases h6:k=6
 ·subst h6;exact .inr (.inr (.inr (.inl rfl)))
 by_cases h8:k=8
 ·subst h8;exact .inr (.inr (.inr (.inl rfl)))
 exact .inr (.inr (.inr (.inr (by simp [hasF,h1,h2,h3,h4,h5,h6,h8]))))
set_option maxHeartbeats 4000000 in
theorem zgz (k id list n:Int) (data:List UInt8) (v:Value) (w:World) (hd:Bys w v data) (h1:k<1) :
    Calls Tryz.prog 185 #[.agg #[.int .i64 k,.int .i64 id,.int .i64 list,.int .i64 n,v]] w (RetE (.bool (mayF ⟨k,id,list,n,data⟩)) w):=by
  obtain ⟨Ad,cd,rfl,_,_,_⟩:=hd
  have HH:=hid (fun W=>z3t k W)
  have HN1:=hid (fun W=>z0v id W)
  have HN2:=hid (fun W=>z0v list W)
  have HN3:=hid (fun W=>z1I n W)
  simp only [hv] at HH
  have HM:mayF ⟨k,id,list,n,data⟩=false:=by
    rw [z0M]
    have:¬ 1≤k:=by omega
    simp [this]
  rw [HM]
  clear HM
  refine retE ?_
  all_goals
    go_enter Tryz.func185,Tryz.ntmps185
    go_wp2_with (first
      | (go_at_call 201
         (with_reducible refine (HH.o _).mono ?_)
         rintro en _ ⟨rfl,y1,rfl⟩
         have G1:=hid y1.gr
         have H39:=hid ((y1.gr.block w.heap.size (by simp)).trans (heap_alloc_new w _)))
      | (go_at_call 178
         (with_reducible refine (HN1.o _).mono ?_)
         rintro en _ ⟨rfl,y2,rfl⟩
         have HA:=hid ((((Gr.refl _).alloc _).ext y2 |>.block _ (block_lt H39.o)).trans H39.o)
         have HA2:=hid ((y2.gr.block _ (by simp)).trans (heap_alloc_new y1.val _))
         obtain ⟨f0,f1,f2,f3,f4⟩:=cells5 HA.o
         obtain ⟨e0,e1,e2,e3⟩:=z0C HA2.o)
      | (go_at_call 178
         (with_reducible refine (HN2.o _).mono ?_)
         rintro en _ ⟨rfl,y3,rfl⟩
         have HB:=hid ((y3.gr.block _ (block_lt HA.o)).trans HA.o)
         have HB2:=hid ((y3.gr.block _ (block_lt HA2.o)).trans HA2.o)
         obtain ⟨f0,f1,f2,f3,f4⟩:=cells5 HB.o
         obtain ⟨e0,e1,e2,e3⟩:=z0C HB2.o)
      | (go_at_call 179
         (with_reducible refine (HN3.o _).mono ?_)
         rintro en _ ⟨rfl,y4,rfl⟩
         have HC:=hid ((y4.gr.block _ (block_lt HB.o)).trans HB.o)
         have HC2:=hid ((y4.gr.block _ (block_lt HB2.o)).trans HB2.o)
         obtain ⟨f0,f1,f2,f3,f4⟩:=cells5 HC.o
         obtain ⟨e0,e1,e2,e3⟩:=z0C HC2.o))
    go_ret
    exact ⟨by first | rfl | (simp;done) | (simp;omega),by repeat (first | exact Gr.refl _ | exact Ext.gr _ | refine Gr.ext ?_ _ | refine Gr.alloc ?_ _ | refine Gr.set ?_ ?_ _)⟩
set_option maxHeartbeats 4000000 in
theorem zgy (k id list n:Int) (data:List UInt8) (v:Value) (w:World) (hd:Bys w v data) (h1:8<k) :
    Calls Tryz.prog 185 #[.agg #[.int .i64 k,.int .i64 id,.int .i64 list,.int .i64 n,v]] w (RetE (.bool (mayF ⟨k,id,list,n,data⟩)) w):=by
  obtain ⟨Ad,cd,rfl,_,_,_⟩:=hd
  have HH:=hid (fun W=>z3t k W)
  have HN1:=hid (fun W=>z0v id W)
  have HN2:=hid (fun W=>z0v list W)
  have HN3:=hid (fun W=>z1I n W)
  simp only [hv] at HH
  have HM:mayF ⟨k,id,list,n,data⟩=false:=by
    rw [z0M]
    have:¬ k≤8:=by omega
    simp [this]
  rw [HM]
  clear HM
  refine retE ?_
  all_goals
    go_enter Tryz.func185,Tryz.ntmps185
    go_wp2_with (first
      | (go_at_call 201
         (with_reducible refine (HH.o _).mono ?_)
         rintro en _ ⟨rfl,y1,rfl⟩
         have G1:=hid y1.gr
         have H39:=hid ((y1.gr.block w.heap.size (by simp)).trans (heap_alloc_new w _)))
      | (go_at_call 178
         (with_reducible refine (HN1.o _).mono ?_)
         rintro en _ ⟨rfl,y2,rfl⟩
         have HA:=hid ((((Gr.refl _).alloc _).ext y2 |>.block _ (block_lt H39.o)).trans H39.o)
         have HA2:=hid ((y2.gr.block _ (by simp)).trans (heap_alloc_new y1.val _))
         obtain ⟨f0,f1,f2,f3,f4⟩:=cells5 HA.o
         obtain ⟨e0,e1,e2,e3⟩:=z0C HA2.o)
      | (go_at_call 178
         (with_reducible refine (HN2.o _).mono ?_)
         rintro en _ ⟨rfl,y3,rfl⟩
         have HB:=hid ((y3.gr.block _ (block_lt HA.o)).trans HA.o)
         have HB2:=hid ((y3.gr.block _ (block_lt HA2.o)).trans HA2.o)
         obtain ⟨f0,f1,f2,f3,f4⟩:=cells5 HB.o
         obtain ⟨e0,e1,e2,e3⟩:=z0C HB2.o)
      | (go_at_call 179
         (with_reducible refine (HN3.o _).mono ?_)
         rintro en _ ⟨rfl,y4,rfl⟩
         have HC:=hid ((y4.gr.block _ (block_lt HB.o)).trans HB.o)
         have HC2:=hid ((y4.gr.block _ (block_lt HB2.o)).trans HB2.o)
         obtain ⟨f0,f1,f2,f3,f4⟩:=cells5 HC.o
         obtain ⟨e0,e1,e2,e3⟩:=z0C HC2.o))
    go_ret
    exact ⟨by first | rfl | (simp;done) | (simp;omega),by repeat (first | exact Gr.refl _ | exact Ext.gr _ | refine Gr.ext ?_ _ | refine Gr.alloc ?_ _ | refine Gr.set ?_ ?_ _)⟩
set_option maxHeartbeats 4000000 in
theorem zht (k id list n:Int) (data:List UInt8) (v:Value) (w:World) (hd:Bys w v data) (h1:1≤k) (h8:k≤8) (HF:hasF k=(true,true,true,true)) :
    Calls Tryz.prog 185 #[.agg #[.int .i64 k,.int .i64 id,.int .i64 list,.int .i64 n,v]] w (RetE (.bool (mayF ⟨k,id,list,n,data⟩)) w):=by
  obtain ⟨Ad,cd,rfl,_,_,_⟩:=hd
  have HH:=hid (fun W=>z3t k W)
  have HN1:=hid (fun W=>z0v id W)
  have HN2:=hid (fun W=>z0v list W)
  have HN3:=hid (fun W=>z1I n W)
  simp only [hv] at HH
  rw [HF] at HH
  have k1:¬ k<1:=by omega
  have k8:¬ 8<k:=by omega
  cases hi1:numB id
  rw [hi1] at HN1
  have HM:mayF ⟨k,id,list,n,data⟩=false:=by rw [z0M];simp [HF,z2u,hi1]
  rw [HM]
  clear HM
  refine retE ?_
  rotate_left
  rw [hi1] at HN1
  cases hi2:numB list
  rw [hi2] at HN2
  have HM:mayF ⟨k,id,list,n,data⟩=false:=by rw [z0M];simp [HF,z2u,hi2]
  rw [HM]
  clear HM
  refine retE ?_
  rotate_left
  rw [hi2] at HN2
  cases hi3:z2o n
  rw [hi3] at HN3
  have HM:mayF ⟨k,id,list,n,data⟩=false:=by rw [z0M];simp [HF,z2u,hi3]
  rw [HM]
  clear HM
  refine retE ?_
  rotate_left
  rw [hi3] at HN3
  by_cases hl:data.length≤4096
  have hlz:(data.length:Int)≤4096:=by omega
  have HM:mayF ⟨k,id,list,n,data⟩=true:=by rw [z0M];simp [HF,z2u,h1,h8,hi1,hi2,hi3,hl]
  rw [HM]
  clear HM
  refine retE ?_
  rotate_left
  have hlz:¬ (data.length:Int)≤4096:=by omega
  have HM:mayF ⟨k,id,list,n,data⟩=false:=by rw [z0M];simp [HF,z2u,hl]
  rw [HM]
  clear HM
  refine retE ?_
  all_goals
    go_enter Tryz.func185,Tryz.ntmps185
    go_wp2_with (first
      | (go_at_call 201
         (with_reducible refine (HH.o _).mono ?_)
         rintro en _ ⟨rfl,y1,rfl⟩
         have G1:=hid y1.gr
         have H39:=hid ((y1.gr.block w.heap.size (by simp)).trans (heap_alloc_new w _)))
      | (go_at_call 178
         (with_reducible refine (HN1.o _).mono ?_)
         rintro en _ ⟨rfl,y2,rfl⟩
         have HA:=hid ((((Gr.refl _).alloc _).ext y2 |>.block _ (block_lt H39.o)).trans H39.o)
         have HA2:=hid ((y2.gr.block _ (by simp)).trans (heap_alloc_new y1.val _))
         obtain ⟨f0,f1,f2,f3,f4⟩:=cells5 HA.o
         obtain ⟨e0,e1,e2,e3⟩:=z0C HA2.o)
      | (go_at_call 178
         (with_reducible refine (HN2.o _).mono ?_)
         rintro en _ ⟨rfl,y3,rfl⟩
         have HB:=hid ((y3.gr.block _ (block_lt HA.o)).trans HA.o)
         have HB2:=hid ((y3.gr.block _ (block_lt HA2.o)).trans HA2.o)
         obtain ⟨f0,f1,f2,f3,f4⟩:=cells5 HB.o
         obtain ⟨e0,e1,e2,e3⟩:=z0C HB2.o)
      | (go_at_call 179
         (with_reducible refine (HN3.o _).mono ?_)
         rintro en _ ⟨rfl,y4,rfl⟩
         have HC:=hid ((y4.gr.block _ (block_lt HB.o)).trans HB.o)
         have HC2:=hid ((y4.gr.block _ (block_lt HB2.o)).trans HB2.o)
         obtain ⟨f0,f1,f2,f3,f4⟩:=cells5 HC.o
         obtain ⟨e0,e1,e2,e3⟩:=z0C HC2.o))
    go_ret
    exact ⟨by first | rfl | (simp;done) | (simp;omega),by repeat (first | exact Gr.refl _ | exact Ext.gr _ | refine Gr.ext ?_ _ | refine Gr.alloc ?_ _ | refine Gr.set ?_ ?_ _)⟩
set_option maxHeartbeats 4000000 in
theorem zhu (k id list n:Int) (data:List UInt8) (v:Value) (w:World) (hd:Bys w v data) (h1:1≤k) (h8:k≤8) (HF:hasF k=(true,false,true,false)) :
    Calls Tryz.prog 185 #[.agg #[.int .i64 k,.int .i64 id,.int .i64 list,.int .i64 n,v]] w (RetE (.bool (mayF ⟨k,id,list,n,data⟩)) w):=by
  obtain ⟨Ad,cd,rfl,_,_,_⟩:=hd
  have HH:=hid (fun W=>z3t k W)
  have HN1:=hid (fun W=>z0v id W)
  have HN2:=hid (fun W=>z0v list W)
  have HN3:=hid (fun W=>z1I n W)
  simp only [hv] at HH
  rw [HF] at HH
  have k1:¬ k<1:=by omega
  have k8:¬ 8<k:=by omega
  rcases Classical.em (list≠0) with zlist | zlist
  have zlistb:(list != 0)=true:=by simpa using zlist
  have HM:mayF ⟨k,id,list,n,data⟩=false:=by rw [z0M];simp [HF,z2u,zlist]
  rw [HM]
  clear HM
  refine retE ?_
  rotate_left
  replace zlist:=Decidable.not_not.1 zlist
  subst zlist
  rcases Classical.em (data≠[]) with ze | ze
  have zeb:(0:Int)<(data.length:Int):=by
      have:=List.length_pos_iff.2 ze
      omega
  have HM:mayF ⟨k,id,0,n,data⟩=false:=by rw [z0M];simp [HF,z2u,ze]
  rw [HM]
  clear HM
  refine retE ?_
  rotate_left
  replace ze:=Decidable.not_not.1 ze
  subst ze
  cases hi1:numB id
  rw [hi1] at HN1
  have HM:mayF ⟨k,id,0,n,[]⟩=false:=by rw [z0M];simp [HF,z2u,hi1]
  rw [HM]
  clear HM
  refine retE ?_
  rotate_left
  rw [hi1] at HN1
  have hi2:numB 0=true:=rfl
  rw [hi2] at HN2
  cases hi3:z2o n
  rw [hi3] at HN3
  have HM:mayF ⟨k,id,0,n,[]⟩=false:=by rw [z0M];simp [HF,z2u,hi3]
  rw [HM]
  clear HM
  refine retE ?_
  rotate_left
  rw [hi3] at HN3
  have HM:mayF ⟨k,id,0,n,[]⟩=true:=by rw [z0M];simp [HF,z2u,h1,h8,hi1,hi2,hi3]
  rw [HM]
  clear HM
  refine retE ?_
  all_goals
    go_enter Tryz.func185,Tryz.ntmps185
    go_wp2_with (first
      | (go_at_call 201
         (with_reducible refine (HH.o _).mono ?_)
         rintro en _ ⟨rfl,y1,rfl⟩
         have G1:=hid y1.gr
         have H39:=hid ((y1.gr.block w.heap.size (by simp)).trans (heap_alloc_new w _)))
      | (go_at_call 178
         (with_reducible refine (HN1.o _).mono ?_)
         rintro en _ ⟨rfl,y2,rfl⟩
         have HA:=hid ((((Gr.refl _).alloc _).ext y2 |>.block _ (block_lt H39.o)).trans H39.o)
         have HA2:=hid ((y2.gr.block _ (by simp)).trans (heap_alloc_new y1.val _))
         obtain ⟨f0,f1,f2,f3,f4⟩:=cells5 HA.o
         obtain ⟨e0,e1,e2,e3⟩:=z0C HA2.o)
      | (go_at_call 178
         (with_reducible refine (HN2.o _).mono ?_)
         rintro en _ ⟨rfl,y3,rfl⟩
         have HB:=hid ((y3.gr.block _ (block_lt HA.o)).trans HA.o)
         have HB2:=hid ((y3.gr.block _ (block_lt HA2.o)).trans HA2.o)
         obtain ⟨f0,f1,f2,f3,f4⟩:=cells5 HB.o
         obtain ⟨e0,e1,e2,e3⟩:=z0C HB2.o)
      | (go_at_call 179
         (with_reducible refine (HN3.o _).mono ?_)
         rintro en _ ⟨rfl,y4,rfl⟩
         have HC:=hid ((y4.gr.block _ (block_lt HB.o)).trans HB.o)
         have HC2:=hid ((y4.gr.block _ (block_lt HB2.o)).trans HB2.o)
         obtain ⟨f0,f1,f2,f3,f4⟩:=cells5 HC.o
         obtain ⟨e0,e1,e2,e3⟩:=z0C HC2.o))
    go_ret
    exact ⟨by first | rfl | (simp;done) | (simp;omega),by repeat (first | exact Gr.refl _ | exact Ext.gr _ | refine Gr.ext ?_ _ | refine Gr.alloc ?_ _ | refine Gr.set ?_ ?_ _)⟩
set_option maxHeartbeats 4000000 in
theorem zhv (k id list n:Int) (data:List UInt8) (v:Value) (w:World) (hd:Bys w v data) (h1:1≤k) (h8:k≤8) (HF:hasF k=(true,false,false,false)) :
    Calls Tryz.prog 185 #[.agg #[.int .i64 k,.int .i64 id,.int .i64 list,.int .i64 n,v]] w (RetE (.bool (mayF ⟨k,id,list,n,data⟩)) w):=by
  obtain ⟨Ad,cd,rfl,_,_,_⟩:=hd
  have HH:=hid (fun W=>z3t k W)
  have HN1:=hid (fun W=>z0v id W)
  have HN2:=hid (fun W=>z0v list W)
  have HN3:=hid (fun W=>z1I n W)
  simp only [hv] at HH
  rw [HF] at HH
  have k1:¬ k<1:=by omega
  have k8:¬ 8<k:=by omega
  rcases Classical.em (list≠0) with zlist | zlist
  have zlistb:(list != 0)=true:=by simpa using zlist
  have HM:mayF ⟨k,id,list,n,data⟩=false:=by rw [z0M];simp [HF,z2u,zlist]
  rw [HM]
  clear HM
  refine retE ?_
  rotate_left
  replace zlist:=Decidable.not_not.1 zlist
  subst zlist
  rcases Classical.em (n≠0) with zn | zn
  have znb:(n != 0)=true:=by simpa using zn
  have HM:mayF ⟨k,id,0,n,data⟩=false:=by rw [z0M];simp [HF,z2u,zn]
  rw [HM]
  clear HM
  refine retE ?_
  rotate_left
  replace zn:=Decidable.not_not.1 zn
  subst zn
  rcases Classical.em (data≠[]) with ze | ze
  have zeb:(0:Int)<(data.length:Int):=by
      have:=List.length_pos_iff.2 ze
      omega
  have HM:mayF ⟨k,id,0,0,data⟩=false:=by rw [z0M];simp [HF,z2u,ze]
  rw [HM]
  clear HM
  refine retE ?_
  rotate_left
  replace ze:=Decidable.not_not.1 ze
  subst ze
  cases hi1:numB id
  rw [hi1] at HN1
  have HM:mayF ⟨k,id,0,0,[]⟩=false:=by rw [z0M];simp [HF,z2u,hi1]
  rw [HM]
  clear HM
  refine retE ?_
  rotate_left
  rw [hi1] at HN1
  have hi2:numB 0=true:=rfl
  rw [hi2] at HN2
  have HM:mayF ⟨k,id,0,0,[]⟩=true:=by rw [z0M];simp [HF,z2u,h1,h8,hi1,hi2]
  rw [HM]
  clear HM
  refine retE ?_
  all_goals
    go_enter Tryz.func185,Tryz.ntmps185
    go_wp2_with (first
      | (go_at_call 201
         (with_reducible refine (HH.o _).mono ?_)
         rintro en _ ⟨rfl,y1,rfl⟩
         have G1:=hid y1.gr
         have H39:=hid ((y1.gr.block w.heap.size (by simp)).trans (heap_alloc_new w _)))
      | (go_at_call 178
         (with_reducible refine (HN1.o _).mono ?_)
         rintro en _ ⟨rfl,y2,rfl⟩
         have HA:=hid ((((Gr.refl _).alloc _).ext y2 |>.block _ (block_lt H39.o)).trans H39.o)
         have HA2:=hid ((y2.gr.block _ (by simp)).trans (heap_alloc_new y1.val _))
         obtain ⟨f0,f1,f2,f3,f4⟩:=cells5 HA.o
         obtain ⟨e0,e1,e2,e3⟩:=z0C HA2.o)
      | (go_at_call 178
         (with_reducible refine (HN2.o _).mono ?_)
         rintro en _ ⟨rfl,y3,rfl⟩
         have HB:=hid ((y3.gr.block _ (block_lt HA.o)).trans HA.o)
         have HB2:=hid ((y3.gr.block _ (block_lt HA2.o)).trans HA2.o)
         obtain ⟨f0,f1,f2,f3,f4⟩:=cells5 HB.o
         obtain ⟨e0,e1,e2,e3⟩:=z0C HB2.o)
      | (go_at_call 179
         (with_reducible refine (HN3.o _).mono ?_)
         rintro en _ ⟨rfl,y4,rfl⟩
         have HC:=hid ((y4.gr.block _ (block_lt HB.o)).trans HB.o)
         have HC2:=hid ((y4.gr.block _ (block_lt HB2.o)).trans HB2.o)
         obtain ⟨f0,f1,f2,f3,f4⟩:=cells5 HC.o
         obtain ⟨e0,e1,e2,e3⟩:=z0C HC2.o))
    go_ret
    exact ⟨by first | rfl | (simp;done) | (simp;omega),by repeat (first | exact Gr.refl _ | exact Ext.gr _ | refine Gr.ext ?_ _ | refine Gr.alloc ?_ _ | refine Gr.set ?_ ?_ _)⟩
set_option maxHeartbeats 4000000 in
theorem zhw (k id list n:Int) (data:List UInt8) (v:Value) (w:World) (hd:Bys w v data) (h1:1≤k) (h8:k≤8) (HF:hasF k=(false,false,false,true)) :
    Calls Tryz.prog 185 #[.agg #[.int .i64 k,.int .i64 id,.int .i64 list,.int .i64 n,v]] w (RetE (.bool (mayF ⟨k,id,list,n,data⟩)) w):=by
  obtain ⟨Ad,cd,rfl,_,_,_⟩:=hd
  have HH:=hid (fun W=>z3t k W)
  have HN1:=hid (fun W=>z0v id W)
  have HN2:=hid (fun W=>z0v list W)
  have HN3:=hid (fun W=>z1I n W)
  simp only [hv] at HH
  rw [HF] at HH
  have k1:¬ k<1:=by omega
  have k8:¬ 8<k:=by omega
  rcases Classical.em (id≠0) with zid | zid
  have zidb:(id != 0)=true:=by simpa using zid
  have HM:mayF ⟨k,id,list,n,data⟩=false:=by rw [z0M];simp [HF,z2u,zid]
  rw [HM]
  clear HM
  refine retE ?_
  rotate_left
  replace zid:=Decidable.not_not.1 zid
  subst zid
  rcases Classical.em (list≠0) with zlist | zlist
  have zlistb:(list != 0)=true:=by simpa using zlist
  have HM:mayF ⟨k,0,list,n,data⟩=false:=by rw [z0M];simp [HF,z2u,zlist]
  rw [HM]
  clear HM
  refine retE ?_
  rotate_left
  replace zlist:=Decidable.not_not.1 zlist
  subst zlist
  rcases Classical.em (n≠0) with zn | zn
  have znb:(n != 0)=true:=by simpa using zn
  have HM:mayF ⟨k,0,0,n,data⟩=false:=by rw [z0M];simp [HF,z2u,zn]
  rw [HM]
  clear HM
  refine retE ?_
  rotate_left
  replace zn:=Decidable.not_not.1 zn
  subst zn
  have hi1:numB 0=true:=rfl
  rw [hi1] at HN1
  have hi2:numB 0=true:=rfl
  rw [hi2] at HN2
  by_cases hl:data.length≤4096
  have hlz:(data.length:Int)≤4096:=by omega
  have HM:mayF ⟨k,0,0,0,data⟩=true:=by rw [z0M];simp [HF,z2u,h1,h8,hi1,hl]
  rw [HM]
  clear HM
  refine retE ?_
  rotate_left
  have hlz:¬ (data.length:Int)≤4096:=by omega
  have HM:mayF ⟨k,0,0,0,data⟩=false:=by rw [z0M];simp [HF,z2u,hl]
  rw [HM]
  clear HM
  refine retE ?_
  all_goals
    go_enter Tryz.func185,Tryz.ntmps185
    go_wp2_with (first
      | (go_at_call 201
         (with_reducible refine (HH.o _).mono ?_)
         rintro en _ ⟨rfl,y1,rfl⟩
         have G1:=hid y1.gr
         have H39:=hid ((y1.gr.block w.heap.size (by simp)).trans (heap_alloc_new w _)))
      | (go_at_call 178
         (with_reducible refine (HN1.o _).mono ?_)
         rintro en _ ⟨rfl,y2,rfl⟩
         have HA:=hid ((((Gr.refl _).alloc _).ext y2 |>.block _ (block_lt H39.o)).trans H39.o)
         have HA2:=hid ((y2.gr.block _ (by simp)).trans (heap_alloc_new y1.val _))
         obtain ⟨f0,f1,f2,f3,f4⟩:=cells5 HA.o
         obtain ⟨e0,e1,e2,e3⟩:=z0C HA2.o)
      | (go_at_call 178
         (with_reducible refine (HN2.o _).mono ?_)
         rintro en _ ⟨rfl,y3,rfl⟩
         have HB:=hid ((y3.gr.block _ (block_lt HA.o)).trans HA.o)
         have HB2:=hid ((y3.gr.block _ (block_lt HA2.o)).trans HA2.o)
         obtain ⟨f0,f1,f2,f3,f4⟩:=cells5 HB.o
         obtain ⟨e0,e1,e2,e3⟩:=z0C HB2.o)
      | (go_at_call 179
         (with_reducible refine (HN3.o _).mono ?_)
         rintro en _ ⟨rfl,y4,rfl⟩
         have HC:=hid ((y4.gr.block _ (block_lt HB.o)).trans HB.o)
         have HC2:=hid ((y4.gr.block _ (block_lt HB2.o)).trans HB2.o)
         obtain ⟨f0,f1,f2,f3,f4⟩:=cells5 HC.o
         obtain ⟨e0,e1,e2,e3⟩:=z0C HC2.o))
    go_ret
    exact ⟨by first | rfl | (simp;done) | (simp;omega),by repeat (first | exact Gr.refl _ | exact Ext.gr _ | refine Gr.ext ?_ _ | refine Gr.alloc ?_ _ | refine Gr.set ?_ ?_ _)⟩
set_option maxHeartbeats 4000000 in
theorem zhx (k id list n:Int) (data:List UInt8) (v:Value) (w:World) (hd:Bys w v data) (h1:1≤k) (h8:k≤8) (HF:hasF k=(false,false,false,false)) :
    Calls Tryz.prog 185 #[.agg #[.int .i64 k,.int .i64 id,.int .i64 list,.int .i64 n,v]] w (RetE (.bool (mayF ⟨k,id,list,n,data⟩)) w):=by
  obtain ⟨Ad,cd,rfl,_,_,_⟩:=hd
  have HH:=hid (fun W=>z3t k W)
  have HN1:=hid (fun W=>z0v id W)
  have HN2:=hid (fun W=>z0v list W)
  have HN3:=hid (fun W=>z1I n W)
  simp only [hv] at HH
  rw [HF] at HH
  have k1:¬ k<1:=by omega
  have k8:¬ 8<k:=by omega
  rcases Classical.em (id≠0) with zid | zid
  have zidb:(id != 0)=true:=by simpa using zid
  have HM:mayF ⟨k,id,list,n,data⟩=false:=by rw [z0M];simp [HF,z2u,zid]
  rw [HM]
  clear HM
  refine retE ?_
  rotate_left
  replace zid:=Decidable.not_not.1 zid
  subst zid
  rcases Classical.em (list≠0) with zlist | zlist
  have zlistb:(list != 0)=true:=by simpa using zlist
  have HM:mayF ⟨k,0,list,n,data⟩=false:=by rw [z0M];simp [HF,z2u,zlist]
  rw [HM]
  clear HM
  refine retE ?_
  rotate_left
  replace zlist:=Decidable.not_not.1 zlist
  subst zlist
  rcases Classical.em (n≠0) with zn | zn
  have znb:(n != 0)=true:=by simpa using zn
  have HM:mayF ⟨k,0,0,n,data⟩=false:=by rw [z0M];simp [HF,z2u,zn]
  rw [HM]
  clear HM
  refine retE ?_
  rotate_left
  replace zn:=Decidable.not_not.1 zn
  subst zn
  rcases Classical.em (data≠[]) with ze | ze
  have zeb:(0:Int)<(data.length:Int):=by
      have:=List.length_pos_iff.2 ze
      omega
  have HM:mayF ⟨k,0,0,0,data⟩=false:=by rw [z0M];simp [HF,z2u,ze]
  rw [HM]
  clear HM
  refine retE ?_
  rotate_left
  replace ze:=Decidable.not_not.1 ze
  subst ze
  have hi1:numB 0=true:=rfl
  rw [hi1] at HN1
  have hi2:numB 0=true:=rfl
  rw [hi2] at HN2
  have HM:mayF ⟨k,0,0,0,[]⟩=true:=by rw [z0M];simp [HF,z2u,h1,h8,hi1]
  rw [HM]
  clear HM
  refine retE ?_
  all_goals
    go_enter Tryz.func185,Tryz.ntmps185
    go_wp2_with (first
      | (go_at_call 201
         (with_reducible refine (HH.o _).mono ?_)
         rintro en _ ⟨rfl,y1,rfl⟩
         have G1:=hid y1.gr
         have H39:=hid ((y1.gr.block w.heap.size (by simp)).trans (heap_alloc_new w _)))
      | (go_at_call 178
         (with_reducible refine (HN1.o _).mono ?_)
         rintro en _ ⟨rfl,y2,rfl⟩
         have HA:=hid ((((Gr.refl _).alloc _).ext y2 |>.block _ (block_lt H39.o)).trans H39.o)
         have HA2:=hid ((y2.gr.block _ (by simp)).trans (heap_alloc_new y1.val _))
         obtain ⟨f0,f1,f2,f3,f4⟩:=cells5 HA.o
         obtain ⟨e0,e1,e2,e3⟩:=z0C HA2.o)
      | (go_at_call 178
         (with_reducible refine (HN2.o _).mono ?_)
         rintro en _ ⟨rfl,y3,rfl⟩
         have HB:=hid ((y3.gr.block _ (block_lt HA.o)).trans HA.o)
         have HB2:=hid ((y3.gr.block _ (block_lt HA2.o)).trans HA2.o)
         obtain ⟨f0,f1,f2,f3,f4⟩:=cells5 HB.o
         obtain ⟨e0,e1,e2,e3⟩:=z0C HB2.o)
      | (go_at_call 179
         (with_reducible refine (HN3.o _).mono ?_)
         rintro en _ ⟨rfl,y4,rfl⟩
         have HC:=hid ((y4.gr.block _ (block_lt HB.o)).trans HB.o)
         have HC2:=hid ((y4.gr.block _ (block_lt HB2.o)).trans HB2.o)
         obtain ⟨f0,f1,f2,f3,f4⟩:=cells5 HC.o
         obtain ⟨e0,e1,e2,e3⟩:=z0C HC2.o))
    go_ret
    exact ⟨by first | rfl | (simp;done) | (simp;omega),by repeat (first | exact Gr.refl _ | exact Ext.gr _ | refine Gr.ext ?_ _ | refine Gr.alloc ?_ _ | refine Gr.set ?_ ?_ _)⟩
theorem zfw (d:Dec) (v:Value) (w:World) (hd:Bys w v d.data) :
  Calls Tryz.prog 185 #[.agg #[.int .i64 d.kind,.int .i64 d.id,.int .i64 d.list,.int .i64 d.n,v]] w (RetE (.bool (mayF d)) w):=by
 rcases d with ⟨k,id,list,n,data⟩
 rcases Int.lt_or_le k 1 with h1 | h1
 ·exact zgz k id list n data v w hd h1
 rcases Int.lt_or_le 8 k with h8 | h8
 ·exact zgy k id list n data v w hd h8
 rcases zaC k with h | h | h | h | h
 ·exact zht k id list n data v w hd h1 h8 h
 ·exact zhu k id list n data v w hd h1 h8 h
 ·exact zhv k id list n data v w hd h1 h8 h
 ·exact zhw k id list n data v w hd h1 h8 h
 ·exact zhx k id list n data v w hd h1 h8 h
end Go.Proofs.YtniknicnnaiilaaGreat
end
