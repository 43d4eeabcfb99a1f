/- Lemmas of the engine. -/
import Derived.Test.YtniknicnnaiilaaGreatX03
import Derived.Test.YtniknicnnaiilaaGreatX09
import Derived.Test.YtniknicnnaiilaaGreatX20
section
namespace Go.Proofs.YtniknicnnaiilaaGreat
set_option maxRecDepth 100000
open Go.RowKit Go.Ext Go.BigFrame Go.Maps Go.MapKept
attribute [local go_sem] Ext.cell Ext.frozen Ext.lt Ext.le s1 s2 s3 s4 s5 s6 t1 t2 t3 t4 t5 t6
attribute [local go_sem ↓] Go.wp_at_zero Go.wp_at_succ
theorem zfG:Tryz.prog.stoodInHeld 28=false:=by kernel_rfl
theorem zhC:Tryz.prog.underlying 28=some (.struct (Tryz.prog.fieldsOf 28)):=by kernel_rfl
theorem tokE (a b:Tok):decide (a=b)=((((a.flow==b.flow) && (a.run==b.run)) && (a.event==b.event)) && (a.turn==b.turn)):=by
 cases a;cases b
 rw [Bool.eq_iff_iff]
 simp only [decide_eq_true_eq,Tok.mk.injEq,Bool.and_eq_true,beq_iff_eq,and_assoc]
theorem zbD (a b c d a' b' c' d':Int) (w:World):(Op.equalIn 10000 28 (.agg #[.int .i64 a',.int .i64 b',.int .i64 c',.int .i64 d']) (.agg #[.int .i64 a,.int .i64 b,.int .i64 c,.int .i64 d])).run Tryz.prog w=.ok (decide ((⟨a',b',c',d'⟩:Tok)=⟨a,b,c,d⟩)) w:=by
 rw [tokE]
 have u3:=Tryz.underlying3
 have a3:=Tryz.isAgg3
 have z3:=Tryz.sizeOf3
 rw [show (10000:Nat)=9999+1 from rfl,run_equalIn_agg w 9999 28 _ _ zhC zfG]
 simp only [Program.fieldsOf,Tryz.underlying28]
 go_simp
 cases h1:a'==a<;>cases h2:b'==b<;>cases h3:c'==c<;>cases h4:d'==d<;>simp_all
theorem eq28 (a b c d a' b' c' d':Int) (w:World):(binOp .eql 28 (.agg #[.int .i64 a',.int .i64 b',.int .i64 c',.int .i64 d']) (.agg #[.int .i64 a,.int .i64 b,.int .i64 c,.int .i64 d])).run Tryz.prog w=.ok (.bool (decide ((⟨a',b',c',d'⟩:Tok)=⟨a,b,c,d⟩))) w:=by
 rw [run_eql_struct,zbD];rfl
theorem ne28 (a b c d a' b' c' d':Int) (w:World):(binOp .neq 28 (.agg #[.int .i64 a',.int .i64 b',.int .i64 c',.int .i64 d']) (.agg #[.int .i64 a,.int .i64 b,.int .i64 c,.int .i64 d])).run Tryz.prog w=.ok (.bool (!decide ((⟨a',b',c',d'⟩:Tok)=⟨a,b,c,d⟩))) w:=by
 rw [run_neq_struct,zbD];rfl
theorem z8y (x:Int) (w:World):Calls Tryz.prog 96 #[.int .i64 x,.int .i64 0,.int .i64 1048576] w (RetE (.bool (numB x)) w):=by
 refine retE ?_
 have hb:∀ b:Bool,numB x=b→Calls Tryz.prog 96 #[.int .i64 x,.int .i64 0,.int .i64 1048576] w (fun e w'=>e=.returned (.bool b)∧Gr w w'):=by
  intro b hb
  unfold numB at hb
  by_cases h0:0≤x
  ·by_cases h1:x≤1048576
   ·simp only [h0,h1,decide_true,Bool.and_self] at hb
    subst hb
    go_enter Tryz.func96,Tryz.ntmps96
    go_wp2_with fail
    go_ret
    exact ⟨rfl,Gr.refl w⟩
   ·simp only [h0,h1,decide_true,decide_false,Bool.and_false] at hb
    subst hb
    go_enter Tryz.func96,Tryz.ntmps96
    go_wp2_with fail
    go_ret
    exact ⟨rfl,Gr.refl w⟩
  ·simp only [h0,decide_false,Bool.false_and] at hb
   subst hb
   go_enter Tryz.func96,Tryz.ntmps96
   go_wp2_with fail
   go_ret
   exact ⟨rfl,Gr.refl w⟩
 exact hb _ rfl
theorem z0R (x:Int) (w:World):Calls Tryz.prog 32 #[.int .i64 x] w (RetE (.agg #[.int .i64 x,.int .i64 0,.int .i64 0,.bool false,.int .i64 0,.int .i64 0,.int .i64 0,.int .i64 0,.slice none 0 0,.slice none 0 0]) w):=by
 refine retE ?_
 go_enter Tryz.func32,Tryz.ntmps32
 go_wp2_with fail
 refine bodyPost_ret (v:=.agg #[.int .i64 x,.int .i64 0,.int .i64 0,.bool false,.int .i64 0,.int .i64 0,.int .i64 0,.int .i64 0,.slice none 0 0,.slice none 0 0]) (by simp [results,Tryz.results32,go_sem]) rfl ⟨rfl,?_⟩
 repeat (first | exact Gr.refl _ | refine Gr.alloc ?_ _ | refine Gr.set ?_ (Nat.le_refl _) _)
theorem zcK (c:Call) (d l:Value) (w:World) (hs:(∃ A n c',d=.slice A n c')∧∃ A n c',l=.slice A n c'):Calls Tryz.prog 60 #[z0E c d l] w (RetE (.bool (c.kind==7 || c.kind==9)) w):=by
 obtain ⟨⟨Ad,dl,cd,rfl⟩,Al,ll,cl,rfl⟩:=hs
 rcases c with ⟨ck,cf,cli,cn,⟨tf,tr,te,tt⟩,cdat,cls⟩
 simp only [z0E,z1U]
 refine retE ?_
 by_cases h7:ck=7
 ·subst h7
  go_enter Tryz.func60,Tryz.ntmps60
  go_wp2_with fail
  go_ret
  exact ⟨rfl,(Gr.refl w).alloc _⟩
 by_cases h9:ck=9
 ·subst h9
  go_enter Tryz.func60,Tryz.ntmps60
  go_wp2_with fail
  go_ret
  exact ⟨rfl,(Gr.refl w).alloc _⟩
 have e7:(ck==7)=false:=by simpa using h7
 have e9:(ck==9)=false:=by simpa using h9
 rw [e7,e9]
 go_enter Tryz.func60,Tryz.ntmps60
 go_wp2_with fail
 go_ret
 exact ⟨rfl,(Gr.refl w).alloc _⟩
theorem z3l (c:Call) (d l:Value) (w:World) (hs:(∃ A n c',d=.slice A n c')∧∃ A n c',l=.slice A n c'):Calls Tryz.prog 64 #[z0E c d l] w (RetE (.int .i64 (z16 c)) w):=by
 obtain ⟨⟨Ad,dl,cd,rfl⟩,Al,ll,cl,rfl⟩:=hs
 rcases c with ⟨ck,cf,cli,cn,⟨tf,tr,te,tt⟩,cdat,cls⟩
 simp only [z0E,z1U]
 refine retE ?_
 have hn:=fun w=>ne28 0 0 0 0 tf tr te tt w
 by_cases ht:(⟨tf,tr,te,tt⟩:Tok)=⟨0,0,0,0⟩
 ·have hX:z16 ⟨ck,cf,cli,cn,⟨tf,tr,te,tt⟩,cdat,cls⟩=cf:=by unfold z16 tok0;rw [if_pos ht]
  rw [hX]
  simp only [ht,decide_true,Bool.not_true] at hn
  clear hX ht
  go_enter Tryz.func64,Tryz.ntmps64
  go_wp2_with fail
  go_ret
  exact ⟨rfl,(Gr.refl w).alloc _⟩
 ·have hX:z16 ⟨ck,cf,cli,cn,⟨tf,tr,te,tt⟩,cdat,cls⟩=tf:=by unfold z16 tok0;rw [if_neg ht]
  rw [hX]
  simp only [ht,decide_false,Bool.not_false] at hn
  clear hX ht
  go_enter Tryz.func64,Tryz.ntmps64
  go_wp2_with fail
  go_ret
  exact ⟨rfl,(Gr.refl w).alloc _⟩
def hasV (a b c d e f:Bool):Value:=.agg #[.bool a,.bool b,.bool c,.bool d,.bool e,.bool f]
set_option maxHeartbeats 8000000 in
theorem zdJ (k:Int) (w:World):Calls Tryz.prog 95 #[.int .i64 k] w (RetE (.tuple #[hasV (z18 k) (z19 k) (hasN k) (z1J k) (z17 k) (hasL k),.bool (decide (1≤k) && decide (k≤11))]) w):=by
 refine retE ?_
 by_cases h1:k=1
 ·subst h1
  go_enter Tryz.func95,Tryz.ntmps95
  go_wp2_with fail
  refine bodyPost_ret (v:=.tuple #[hasV true true true false true false,.bool true]) (by simp [results,Tryz.results95,go_sem,hasV]) rfl ⟨rfl,?_⟩
  repeat (first | exact Gr.refl _ | refine Gr.alloc ?_ _ | refine Gr.set ?_ (Nat.le_refl _) _)
 by_cases h2:k=2
 ·subst h2
  go_enter Tryz.func95,Tryz.ntmps95
  go_wp2_with fail
  refine bodyPost_ret (v:=.tuple #[hasV true false false false true false,.bool true]) (by simp [results,Tryz.results95,go_sem,hasV]) rfl ⟨rfl,?_⟩
  repeat (first | exact Gr.refl _ | refine Gr.alloc ?_ _ | refine Gr.set ?_ (Nat.le_refl _) _)
 by_cases h3:k=3
 ·subst h3
  go_enter Tryz.func95,Tryz.ntmps95
  go_wp2_with fail
  refine bodyPost_ret (v:=.tuple #[hasV true false false false false false,.bool true]) (by simp [results,Tryz.results95,go_sem,hasV]) rfl ⟨rfl,?_⟩
  repeat (first | exact Gr.refl _ | refine Gr.alloc ?_ _ | refine Gr.set ?_ (Nat.le_refl _) _)
 by_cases h4:k=4
 ·subst h4
  go_enter Tryz.func95,Tryz.ntmps95
  go_wp2_with fail
  refine bodyPost_ret (v:=.tuple #[hasV true false false false true false,.bool true]) (by simp [results,Tryz.results95,go_sem,hasV]) rfl ⟨rfl,?_⟩
  repeat (first | exact Gr.refl _ | refine Gr.alloc ?_ _ | refine Gr.set ?_ (Nat.le_refl _) _)
 by_cases h5:k=5
 ·subst h5
  go_enter Tryz.func95,Tryz.ntmps95
  go_wp2_with fail
  refine bodyPost_ret (v:=.tuple #[hasV true false false false false false,.bool true]) (by simp [results,Tryz.results95,go_sem,hasV]) rfl ⟨rfl,?_⟩
  repeat (first | exact Gr.refl _ | refine Gr.alloc ?_ _ | refine Gr.set ?_ (Nat.le_refl _) _)
 by_cases h6:k=6
 ·subst h6
  go_enter Tryz.func95,Tryz.ntmps95
  go_wp2_with fail
  refine bodyPost_ret (v:=.tuple #[hasV true false true false false false,.bool true]) (by simp [results,Tryz.results95,go_sem,hasV]) rfl ⟨rfl,?_⟩
  repeat (first | exact Gr.refl _ | refine Gr.alloc ?_ _ | refine Gr.set ?_ (Nat.le_refl _) _)
 by_cases h7:k=7
 ·subst h7
  go_enter Tryz.func95,Tryz.ntmps95
  go_wp2_with fail
  refine bodyPost_ret (v:=.tuple #[hasV false true false false false false,.bool true]) (by simp [results,Tryz.results95,go_sem,hasV]) rfl ⟨rfl,?_⟩
  repeat (first | exact Gr.refl _ | refine Gr.alloc ?_ _ | refine Gr.set ?_ (Nat.le_refl _) _)
 by_cases h8:k=8
 ·subst h8
  go_enter Tryz.func95,Tryz.ntmps95
  go_wp2_with fail
  refine bodyPost_ret (v:=.tuple #[hasV false false false true false true,.bool true]) (by simp [results,Tryz.results95,go_sem,hasV]) rfl ⟨rfl,?_⟩
  repeat (first | exact Gr.refl _ | refine Gr.alloc ?_ _ | refine Gr.set ?_ (Nat.le_refl _) _)
 by_cases h9:k=9
 ·subst h9
  go_enter Tryz.func95,Tryz.ntmps95
  go_wp2_with fail
  refine bodyPost_ret (v:=.tuple #[hasV false true false false false false,.bool true]) (by simp [results,Tryz.results95,go_sem,hasV]) rfl ⟨rfl,?_⟩
  repeat (first | exact Gr.refl _ | refine Gr.alloc ?_ _ | refine Gr.set ?_ (Nat.le_refl _) _)
 by_cases h10:k=10
 ·subst h10
  go_enter Tryz.func95,Tryz.ntmps95
  go_wp2_with fail
  refine bodyPost_ret (v:=.tuple #[hasV false false false true true false,.bool true]) (by simp [results,Tryz.results95,go_sem,hasV]) rfl ⟨rfl,?_⟩
  repeat (first | exact Gr.refl _ | refine Gr.alloc ?_ _ | refine Gr.set ?_ (Nat.le_refl _) _)
 by_cases h11:k=11
 ·subst h11
  go_enter Tryz.func95,Tryz.ntmps95
  go_wp2_with fail
  refine bodyPost_ret (v:=.tuple #[hasV false false false true true false,.bool true]) (by simp [results,Tryz.results95,go_sem,hasV]) rfl ⟨rfl,?_⟩
  repeat (first | exact Gr.refl _ | refine Gr.alloc ?_ _ | refine Gr.set ?_ (Nat.le_refl _) _)
 have hb:(decide (1≤k) && decide (k≤11))=false:=by
  cases h:(decide (1≤k) && decide (k≤11)) with
  | false=>rfl
  | true =>
   simp only [Bool.and_eq_true,decide_eq_true_eq] at h
   omega
 have e1:z18 k=false:=by simp [z18,h1,h2,h3,h4,h5,h6]
 have e2:z19 k=false:=by simp [z19,h1,h7,h9]
 have e3:hasN k=false:=by simp [hasN,h1,h6]
 have e4:z1J k=false:=by simp [z1J,h8,h10,h11]
 have e5:z17 k=false:=by simp [z17,h1,h2,h4,h10,h11]
 have e6:hasL k=false:=by simp [hasL,h8]
 rw [hb,e1,e2,e3,e4,e5,e6]
 clear hb e1 e2 e3 e4 e5 e6
 go_enter Tryz.func95,Tryz.ntmps95
 go_wp2_with fail
 refine bodyPost_ret (v:=.tuple #[hasV false false false false false false,.bool false]) (by simp [results,Tryz.results95,go_sem,hasV]) rfl ⟨rfl,?_⟩
 repeat (first | exact Gr.refl _ | refine Gr.alloc ?_ _ | refine Gr.set ?_ (Nat.le_refl _) _)
theorem zdS (k i l n:Int) (A:Option Addr) (m c:Nat) (w:World) (hm:m≤140737488351232):Calls Tryz.prog 98 #[.agg #[.int .i64 k,.int .i64 i,.int .i64 l,.int .i64 n,.slice A m c]] w (RetE (.bool (decide (4096<m))) w):=by
 refine retE ?_
 by_cases h:4096<m
 ·have h':(4096:Int)<(m:Int):=by omega
  rw [decide_eq_true h]
  go_enter Tryz.func98,Tryz.ntmps98
  go_wp2_with fail
  go_ret
  exact ⟨by simp,(Gr.refl w).alloc _⟩
 ·have h':¬ (4096:Int)<(m:Int):=by omega
  rw [decide_eq_false h]
  go_enter Tryz.func98,Tryz.ntmps98
  go_wp2_with fail
  go_ret
  exact ⟨by simp,(Gr.refl w).alloc _⟩
def z68 (d:Dec):Bool:=decide (4096<d.data.length)
set_option maxHeartbeats 1000000 in
theorem zaD (v:Value) (l:List Dec) (M:Bl) (w:World) (h:z08 decR w M v l) (hl:l.length≤140737488351232) (hd:∀ d∈l,d.data.length≤140737488351232) :
  Calls Tryz.prog 134 #[v,.func (.func 98) #[] #[]] w (fun e w'=>∃ i:Int,e=.returned (.int .i64 i)∧Gr w w'∧(decide (0≤i)=l.any z68)):=by
 obtain ⟨A,c,rfl,hlc⟩:=h.shape
 have H:=hid h
 have HLL:=hid hl
 have HDD:=hid hd
 have HX:=hid (fun (k i l n:Int) (A:Option Addr) (m c:Nat) (w:World) (hm:m≤140737488351232)=>zdS k i l n A m c w hm)
 clear h hl hd
 go_enter Tryz.func134,Tryz.ntmps134
 go_wp2_with fail
 go_loopw [8] (fun iv wr=>∃ i:Nat,iv=.int .i64 i∧i≤l.length∧Gr w wr∧(l.drop i).any z68=l.any z68) (fun iv _=>l.length-(intOf iv).toNat)
 case atStart=>exact ⟨0,rfl,Nat.zero_le _,Gr.refl w,rfl⟩
 case round =>
  obtain ⟨i,rfl,hi,hgr,hany⟩:=hrel
  have HG:=hid hgr
  have HANY:=hid hany
  clear hgr hany
  have hLL:(l.length:Int)≤140737488351232:=by have:=HLL.o;omega
  by_cases hlt:i<l.length
  ·have hget:l[i]?=some l[i]:=List.getElem?_eq_getElem hlt
   have hdrop:l.drop i=l[i]::l.drop (i+1):=List.drop_eq_getElem_cons hlt
   obtain ⟨b,off,A',c',rfl,hb,hMb,hdat,c0,c1_,c2,c3,c4⟩:=z6g (H.o.up (Gr.up HG.o M)) hget
   have hdl:=HDD.o _ (List.getElem_mem hlt)
   rw [hdrop] at HANY
   generalize l[i]=o at *
   clear hdat hget
   rcases o with ⟨dk,di,dl,dn,dd⟩
   simp only at c0 c1_ c2 c3 c4 hdl
   have HY:=hid (show z68 ⟨dk,di,dl,dn,dd⟩=decide (4096<dd.length) from rfl)
   have HC:=hid (fun W=>HX.o dk di dl dn A' dd.length c' W hdl)
   have hlz:(i:Int)<(l.length:Int):=by omega
   cases hbig:decide (4096<dd.length)
   ·rw [hbig] at HC HY
    generalize dd.length=dlen at *
    go_wp2_with (go_at_call 98;refine (HC.o _).mono ?_;rintro en _ ⟨rfl,y1,rfl⟩)
    go_roundw
    case rel=>exact ⟨i+1,by go_num,by omega,HG.o.ext y1,by rw [← HANY.o,List.any_cons,HY.o,Bool.false_or]⟩
    case measure=>simp [intOf];omega
   ·rw [hbig] at HC HY
    generalize dd.length=dlen at *
    go_wp2_with (go_at_call 98;refine (HC.o _).mono ?_;rintro en _ ⟨rfl,y1,rfl⟩)
    go_ret
    refine ⟨_,rfl,HG.o.ext y1,?_⟩
    rw [← HANY.o,List.any_cons,HY.o,Bool.true_or]
    simp
  ·go_wp2_with fail
   go_ret
   refine ⟨_,rfl,HG.o,?_⟩
   rw [← HANY.o,List.drop_eq_nil_of_le (by omega)]
   rfl
theorem z6K (v:Value) (l:List Dec) (M:Bl) (w:World) (h:z08 decR w M v l) (hl:l.length≤140737488351232) (hd:∀ d∈l,d.data.length≤140737488351232) :
  Calls Tryz.prog 97 #[v,.func (.func 98) #[] #[]] w (RetE (.bool (l.any z68)) w):=by
 have HC:=hid (zaD v l M w h hl hd)
 obtain ⟨A,c,rfl,hlc⟩:=h.shape
 clear h
 refine retE ?_
 go_enter Tryz.func97,Tryz.ntmps97
 go_wp2_with (go_at_call 134;refine HC.o.mono ?_;rintro en w1 ⟨i,rfl,g1,h1⟩;have G1:=hid g1;have H1:=hid h1;clear g1 h1)
 go_ret
 rw [← H1.o]
 exact ⟨rfl,G1.o⟩
def zez (c:Call):Bool :=
 decide (1≤c.kind) && decide (c.kind≤11) && (z18 c.kind || c.flow==0) && (z19 c.kind || c.list==0) && (hasN c.kind || c.n==0) && (z1J c.kind || decide (c.tok=tok0)) && (z17 c.kind || c.data.length==0) && (hasL c.kind || c.l.length==0)
def zeA (b:Bool) (c:Call):Bool:=b && numB c.flow && numB c.list && numB c.n && (c.kind != 1 || decide (1≤c.n))
theorem zcQ (c:Call):z2l c=(zeA (zez c) c && numB c.tok.flow && numB c.tok.run && numB c.tok.event && numB c.tok.turn && decide (c.data.length≤4096) && decide (c.l.length≤32) && !c.l.any z68):=by
 have e1:c.data.isEmpty=(c.data.length==0):=by cases c.data<;>rfl
 have e2:c.l.isEmpty=(c.l.length==0):=by cases c.l<;>rfl
 have e3:(c.l.all fun d=>decide (d.data.length≤4096)) = !c.l.any z68:=by
  rw [List.all_eq_not_any_not]
  congr 2
  funext d
  unfold z68
  rw [Bool.eq_iff_iff]
  simp
 unfold z2l zeA zez
 rw [e1,e2,e3]
theorem z2W {W:World} {B:Nat} {t:TypeId} {a b c d e f:Value} (h:W.heap[B]?=some (.cells #[a,b,c,d,e,f] t (0,0))):W.cell? ⟨B,0,none⟩=some a∧W.cell? ⟨B,1,none⟩=some b∧W.cell? ⟨B,2,none⟩=some c∧W.cell? ⟨B,3,none⟩=some d∧W.cell? ⟨B,4,none⟩=some e∧W.cell? ⟨B,5,none⟩=some f:=by
 refine ⟨?_,?_,?_,?_,?_,?_⟩<;>simp [World.cell?,h]
set_option maxHeartbeats 16000000 in
theorem z98 (ck cf cli cn tf tr te tt:Int) (Ad Al:Option Addr) (dl cd ll cl:Nat) (xs:List Dec) (M:Bl) (w:World) (ok f1 f2 f3 f4 f5 f6 R:Bool)
  (hk:∀ W,Calls Tryz.prog 95 #[.int .i64 ck] W (RetE (.tuple #[.agg #[.bool f1,.bool f2,.bool f3,.bool f4,.bool f5,.bool f6],.bool ok]) W))
  (hcl:(ok=false∧f1=false∧f2=false∧f3=false∧f4=false∧f5=false∧f6=false)
   ∨ (ok=true∧f1=true∧f2=true∧f3=true∧f4=false∧f5=true∧f6=false)
   ∨ (ok=true∧f1=true∧f2=false∧f3=false∧f4=false∧f5=true∧f6=false)
   ∨ (ok=true∧f1=true∧f2=false∧f3=false∧f4=false∧f5=false∧f6=false)
   ∨ (ok=true∧f1=true∧f2=false∧f3=true∧f4=false∧f5=false∧f6=false)
   ∨ (ok=true∧f1=false∧f2=true∧f3=false∧f4=false∧f5=false∧f6=false)
   ∨ (ok=true∧f1=false∧f2=false∧f3=false∧f4=true∧f5=false∧f6=true)
   ∨ (ok=true∧f1=false∧f2=false∧f3=false∧f4=true∧f5=true∧f6=false)
  )
  (hl:z08 decR w M (.slice Al ll cl) xs) (hxs:ll=xs.length) (hll:ll≤140737488351232) (hdl:dl≤140737488351232) (hdd:∀ d∈xs,d.data.length≤140737488351232)
  (hR:R=((ok && (f1 || (cf==0)) && (f2 || (cli==0)) && (f3 || (cn==0)) && (f4 || decide ((⟨tf,tr,te,tt⟩:Tok)=⟨0,0,0,0⟩)) && (f5 || ((dl:Int)==0)) && (f6 || ((ll:Int)==0))) && numB cf && numB cli && numB cn && (ck != 1 || decide (1≤cn))
   && numB tf && numB tr && numB te && numB tt && decide ((dl:Int)≤4096) && decide ((ll:Int)≤32) && !xs.any z68)) :
  Calls Tryz.prog 59 #[.agg #[.int .i64 ck,.int .i64 cf,.int .i64 cli,.int .i64 cn,.int .i64 tf,.int .i64 tr,.int .i64 te,.int .i64 tt,.slice Ad dl cd,.slice Al ll cl]] w (RetE (.bool R) w):=by
 have HK:=hid hk
 have HCL:=hid hcl
 have HCON:=hid (fun W (g:Gr w W)=>z6K (.slice Al ll cl) xs M W (hl.up (Gr.up g M)) (by omega) hdd)
 have HB:=hid (fun x W=>z8y x W)
 have HLL:=hid hll
 have HDL:=hid hdl
 obtain ⟨q1,hq1⟩:∃ q1:Bool,q1=(ok && (f1 || (cf==0)) && (f2 || (cli==0)) && (f3 || (cn==0)) && (f4 || decide ((⟨tf,tr,te,tt⟩:Tok)=⟨0,0,0,0⟩)) && (f5 || ((dl:Int)==0)) && (f6 || ((ll:Int)==0))):=⟨_,rfl⟩
 obtain ⟨q2,hq2⟩:∃ q2:Bool,q2=(q1 && numB cf && numB cli && numB cn && (ck != 1 || decide (1≤cn))):=⟨_,rfl⟩
 obtain ⟨q3,hq3⟩:∃ q3:Bool,q3=(q2 && numB tf):=⟨_,rfl⟩
 obtain ⟨q4,hq4⟩:∃ q4:Bool,q4=(q3 && numB tr):=⟨_,rfl⟩
 obtain ⟨q5,hq5⟩:∃ q5:Bool,q5=(q4 && numB te):=⟨_,rfl⟩
 obtain ⟨q6,hq6⟩:∃ q6:Bool,q6=(q5 && numB tt):=⟨_,rfl⟩
 obtain ⟨q7,hq7⟩:∃ q7:Bool,q7=(q6 && decide ((dl:Int)≤4096) && decide ((ll:Int)≤32)):=⟨_,rfl⟩
 have HR:=hid (show R=(q7 && !xs.any z68) from by rw [hR,hq7,hq6,hq5,hq4,hq3,hq2,hq1])
 have HQ1:=hid hq1
 have HQ2:=hid hq2
 have HQ3:=hid hq3
 have HQ4:=hid hq4
 have HQ5:=hid hq5
 have HQ6:=hid hq6
 have HQ7:=hid hq7
 clear hq1 hq2 hq3 hq4 hq5 hq6 hq7 hR hk hcl hl hxs hll hdl hdd
 refine retE ?_
 go_enter Tryz.func59,Tryz.ntmps59
 go_upto_region 3 with (go_at_call 95;refine (HK.o _).mono ?_;rintro en _ ⟨rfl,y1,rfl⟩)
 have G1:=hid (((((Gr.refl w).alloc (.cells #[.int .i64 ck,.int .i64 cf,.int .i64 cli,.int .i64 cn,.int .i64 tf,.int .i64 tr,.int .i64 te,.int .i64 tt,.slice Ad dl cd,.slice Al ll cl] 35)).trans y1.gr).alloc (.cells #[.bool f1,.bool f2,.bool f3,.bool f4,.bool f5,.bool f6] 165)).alloc (.cells #[.int .i64 tf,.int .i64 tr,.int .i64 te,.int .i64 tt] 28))
 have HB1:=hid ((((y1.gr.alloc (.cells #[.bool f1,.bool f2,.bool f3,.bool f4,.bool f5,.bool f6] 165)).alloc (.cells #[.int .i64 tf,.int .i64 tr,.int .i64 te,.int .i64 tt] 28)).block w.heap.size (by simp)).trans (heap_alloc_new w (.cells #[.int .i64 ck,.int .i64 cf,.int .i64 cli,.int .i64 cn,.int .i64 tf,.int .i64 tr,.int .i64 te,.int .i64 tt,.slice Ad dl cd,.slice Al ll cl] 35)))
 have HB2:=hid ((((Gr.refl _).alloc (.cells #[.int .i64 tf,.int .i64 tr,.int .i64 te,.int .i64 tt] 28)).block y1.val.heap.size (by simp)).trans (heap_alloc_new y1.val (.cells #[.bool f1,.bool f2,.bool f3,.bool f4,.bool f5,.bool f6] 165)))
 have HB3:=hid (heap_alloc_new (y1.val.alloc (.cells #[.bool f1,.bool f2,.bool f3,.bool f4,.bool f5,.bool f6] 165)) (.cells #[.int .i64 tf,.int .i64 tr,.int .i64 te,.int .i64 tt] 28))
 rw [show (y1.val.alloc (.cells #[.bool f1,.bool f2,.bool f3,.bool f4,.bool f5,.bool f6] 165)).heap.size=y1.val.heap.size+1 from by simp] at HB3
 generalize hw1:((y1.val.alloc (.cells #[.bool f1,.bool f2,.bool f3,.bool f4,.bool f5,.bool f6] 165)).alloc (.cells #[.int .i64 tf,.int .i64 tr,.int .i64 te,.int .i64 tt] 28))=W1 at *
 clear hw1
 generalize hn1:y1.val.heap.size=n1 at *
 clear hn1 y1
 obtain ⟨a0,a1,a2,a3,a4,a5,a6,a7,a8,a9⟩:=z04 HB1.o
 obtain ⟨b0,b1,b2,b3,b4,b5⟩:=z2W HB2.o
 obtain ⟨t0,t1,t2,t3⟩:=z0C HB3.o
 have l1:=block_lt HB1.o
 have l2:=block_lt HB2.o
 have l3:=block_lt HB3.o
 go_cut [4] from 16 to 72 (fun t wx=>t=.bool q1∧W1=wx)
 case first =>
  rcases HCL.o with ⟨rfl,rfl,rfl,rfl,rfl,rfl,rfl⟩ | ⟨rfl,rfl,rfl,rfl,rfl,rfl,rfl⟩ | ⟨rfl,rfl,rfl,rfl,rfl,rfl,rfl⟩ | ⟨rfl,rfl,rfl,rfl,rfl,rfl,rfl⟩ | ⟨rfl,rfl,rfl,rfl,rfl,rfl,rfl⟩ | ⟨rfl,rfl,rfl,rfl,rfl,rfl,rfl⟩ | ⟨rfl,rfl,rfl,rfl,rfl,rfl,rfl⟩ | ⟨rfl,rfl,rfl,rfl,rfl,rfl,rfl⟩
  ·clear HCL
   go_wp2_with fail
   go_meet
   exact ⟨by rw [HQ1.o];first | done | rfl,rfl⟩
  ·clear HCL
   cases z4:decide ((⟨tf,tr,te,tt⟩:Tok)=⟨0,0,0,0⟩)
   ·have hn:=fun w=>eq28 0 0 0 0 tf tr te tt w
    simp only [z4] at hn
    have Z4:=hid z4
    clear z4
    go_wp2_with fail
    go_meet
    exact ⟨by rw [HQ1.o,Z4.o];first | done | rfl,rfl⟩
   ·have hn:=fun w=>eq28 0 0 0 0 tf tr te tt w
    simp only [z4] at hn
    have Z4:=hid z4
    clear z4
    cases z6:((ll:Int)==0)
    ·have Z6:=hid z6
     go_wp2_with fail
     go_meet
     exact ⟨by rw [HQ1.o,Z4.o,Z6.o];first | done | rfl,rfl⟩
    ·have Z6:=hid z6
     go_wp2_with fail
     go_meet
     exact ⟨by rw [HQ1.o,Z4.o,Z6.o];first | done | rfl,rfl⟩
  ·clear HCL
   cases z2:(cli==0)
   ·have Z2:=hid z2
    go_wp2_with fail
    go_meet
    exact ⟨by rw [HQ1.o,Z2.o];first | done | rfl,rfl⟩
   ·have Z2:=hid z2
    cases z3:(cn==0)
    ·have Z3:=hid z3
     go_wp2_with fail
     go_meet
     exact ⟨by rw [HQ1.o,Z2.o,Z3.o];first | done | rfl,rfl⟩
    ·have Z3:=hid z3
     cases z4:decide ((⟨tf,tr,te,tt⟩:Tok)=⟨0,0,0,0⟩)
     ·have hn:=fun w=>eq28 0 0 0 0 tf tr te tt w
      simp only [z4] at hn
      have Z4:=hid z4
      clear z4
      go_wp2_with fail
      go_meet
      exact ⟨by rw [HQ1.o,Z2.o,Z3.o,Z4.o];first | done | rfl,rfl⟩
     ·have hn:=fun w=>eq28 0 0 0 0 tf tr te tt w
      simp only [z4] at hn
      have Z4:=hid z4
      clear z4
      cases z6:((ll:Int)==0)
      ·have Z6:=hid z6
       go_wp2_with fail
       go_meet
       exact ⟨by rw [HQ1.o,Z2.o,Z3.o,Z4.o,Z6.o];first | done | rfl,rfl⟩
      ·have Z6:=hid z6
       go_wp2_with fail
       go_meet
       exact ⟨by rw [HQ1.o,Z2.o,Z3.o,Z4.o,Z6.o];first | done | rfl,rfl⟩
  ·clear HCL
   cases z2:(cli==0)
   ·have Z2:=hid z2
    go_wp2_with fail
    go_meet
    exact ⟨by rw [HQ1.o,Z2.o];first | done | rfl,rfl⟩
   ·have Z2:=hid z2
    cases z3:(cn==0)
    ·have Z3:=hid z3
     go_wp2_with fail
     go_meet
     exact ⟨by rw [HQ1.o,Z2.o,Z3.o];first | done | rfl,rfl⟩
    ·have Z3:=hid z3
     cases z4:decide ((⟨tf,tr,te,tt⟩:Tok)=⟨0,0,0,0⟩)
     ·have hn:=fun w=>eq28 0 0 0 0 tf tr te tt w
      simp only [z4] at hn
      have Z4:=hid z4
      clear z4
      go_wp2_with fail
      go_meet
      exact ⟨by rw [HQ1.o,Z2.o,Z3.o,Z4.o];first | done | rfl,rfl⟩
     ·have hn:=fun w=>eq28 0 0 0 0 tf tr te tt w
      simp only [z4] at hn
      have Z4:=hid z4
      clear z4
      cases z5:((dl:Int)==0)
      ·have Z5:=hid z5
       go_wp2_with fail
       go_meet
       exact ⟨by rw [HQ1.o,Z2.o,Z3.o,Z4.o,Z5.o];first | done | rfl,rfl⟩
      ·have Z5:=hid z5
       cases z6:((ll:Int)==0)
       ·have Z6:=hid z6
        go_wp2_with fail
        go_meet
        exact ⟨by rw [HQ1.o,Z2.o,Z3.o,Z4.o,Z5.o,Z6.o];first | done | rfl,rfl⟩
       ·have Z6:=hid z6
        go_wp2_with fail
        go_meet
        exact ⟨by rw [HQ1.o,Z2.o,Z3.o,Z4.o,Z5.o,Z6.o];first | done | rfl,rfl⟩
  ·clear HCL
   cases z2:(cli==0)
   ·have Z2:=hid z2
    go_wp2_with fail
    go_meet
    exact ⟨by rw [HQ1.o,Z2.o];first | done | rfl,rfl⟩
   ·have Z2:=hid z2
    cases z4:decide ((⟨tf,tr,te,tt⟩:Tok)=⟨0,0,0,0⟩)
    ·have hn:=fun w=>eq28 0 0 0 0 tf tr te tt w
     simp only [z4] at hn
     have Z4:=hid z4
     clear z4
     go_wp2_with fail
     go_meet
     exact ⟨by rw [HQ1.o,Z2.o,Z4.o];first | done | rfl,rfl⟩
    ·have hn:=fun w=>eq28 0 0 0 0 tf tr te tt w
     simp only [z4] at hn
     have Z4:=hid z4
     clear z4
     cases z5:((dl:Int)==0)
     ·have Z5:=hid z5
      go_wp2_with fail
      go_meet
      exact ⟨by rw [HQ1.o,Z2.o,Z4.o,Z5.o];first | done | rfl,rfl⟩
     ·have Z5:=hid z5
      cases z6:((ll:Int)==0)
      ·have Z6:=hid z6
       go_wp2_with fail
       go_meet
       exact ⟨by rw [HQ1.o,Z2.o,Z4.o,Z5.o,Z6.o];first | done | rfl,rfl⟩
      ·have Z6:=hid z6
       go_wp2_with fail
       go_meet
       exact ⟨by rw [HQ1.o,Z2.o,Z4.o,Z5.o,Z6.o];first | done | rfl,rfl⟩
  ·clear HCL
   cases z1:(cf==0)
   ·have Z1:=hid z1
    go_wp2_with fail
    go_meet
    exact ⟨by rw [HQ1.o,Z1.o];first | done | rfl,rfl⟩
   ·have Z1:=hid z1
    cases z3:(cn==0)
    ·have Z3:=hid z3
     go_wp2_with fail
     go_meet
     exact ⟨by rw [HQ1.o,Z1.o,Z3.o];first | done | rfl,rfl⟩
    ·have Z3:=hid z3
     cases z4:decide ((⟨tf,tr,te,tt⟩:Tok)=⟨0,0,0,0⟩)
     ·have hn:=fun w=>eq28 0 0 0 0 tf tr te tt w
      simp only [z4] at hn
      have Z4:=hid z4
      clear z4
      go_wp2_with fail
      go_meet
      exact ⟨by rw [HQ1.o,Z1.o,Z3.o,Z4.o];first | done | rfl,rfl⟩
     ·have hn:=fun w=>eq28 0 0 0 0 tf tr te tt w
      simp only [z4] at hn
      have Z4:=hid z4
      clear z4
      cases z5:((dl:Int)==0)
      ·have Z5:=hid z5
       go_wp2_with fail
       go_meet
       exact ⟨by rw [HQ1.o,Z1.o,Z3.o,Z4.o,Z5.o];first | done | rfl,rfl⟩
      ·have Z5:=hid z5
       cases z6:((ll:Int)==0)
       ·have Z6:=hid z6
        go_wp2_with fail
        go_meet
        exact ⟨by rw [HQ1.o,Z1.o,Z3.o,Z4.o,Z5.o,Z6.o];first | done | rfl,rfl⟩
       ·have Z6:=hid z6
        go_wp2_with fail
        go_meet
        exact ⟨by rw [HQ1.o,Z1.o,Z3.o,Z4.o,Z5.o,Z6.o];first | done | rfl,rfl⟩
  ·clear HCL
   cases z1:(cf==0)
   ·have Z1:=hid z1
    go_wp2_with fail
    go_meet
    exact ⟨by rw [HQ1.o,Z1.o];first | done | rfl,rfl⟩
   ·have Z1:=hid z1
    cases z2:(cli==0)
    ·have Z2:=hid z2
     go_wp2_with fail
     go_meet
     exact ⟨by rw [HQ1.o,Z1.o,Z2.o];first | done | rfl,rfl⟩
    ·have Z2:=hid z2
     cases z3:(cn==0)
     ·have Z3:=hid z3
      go_wp2_with fail
      go_meet
      exact ⟨by rw [HQ1.o,Z1.o,Z2.o,Z3.o];first | done | rfl,rfl⟩
     ·have Z3:=hid z3
      cases z5:((dl:Int)==0)
      ·have Z5:=hid z5
       go_wp2_with fail
       go_meet
       exact ⟨by rw [HQ1.o,Z1.o,Z2.o,Z3.o,Z5.o];first | done | rfl,rfl⟩
      ·have Z5:=hid z5
       go_wp2_with fail
       go_meet
       exact ⟨by rw [HQ1.o,Z1.o,Z2.o,Z3.o,Z5.o];first | done | rfl,rfl⟩
  ·clear HCL
   cases z1:(cf==0)
   ·have Z1:=hid z1
    go_wp2_with fail
    go_meet
    exact ⟨by rw [HQ1.o,Z1.o];first | done | rfl,rfl⟩
   ·have Z1:=hid z1
    cases z2:(cli==0)
    ·have Z2:=hid z2
     go_wp2_with fail
     go_meet
     exact ⟨by rw [HQ1.o,Z1.o,Z2.o];first | done | rfl,rfl⟩
    ·have Z2:=hid z2
     cases z3:(cn==0)
     ·have Z3:=hid z3
      go_wp2_with fail
      go_meet
      exact ⟨by rw [HQ1.o,Z1.o,Z2.o,Z3.o];first | done | rfl,rfl⟩
     ·have Z3:=hid z3
      cases z6:((ll:Int)==0)
      ·have Z6:=hid z6
       go_wp2_with fail
       go_meet
       exact ⟨by rw [HQ1.o,Z1.o,Z2.o,Z3.o,Z6.o];first | done | rfl,rfl⟩
      ·have Z6:=hid z6
       go_wp2_with fail
       go_meet
       exact ⟨by rw [HQ1.o,Z1.o,Z2.o,Z3.o,Z6.o];first | done | rfl,rfl⟩
 case rest =>
  obtain ⟨rfl,rfl⟩:=hcut
  clear HQ1 HCL b0 b1 b2 b3 b4 b5
  go_upto_region 4 with fail
  go_cut [4] from 73 to 98 (fun t wx=>t=.bool q2∧Gr W1 wx)
  case first =>
   cases q1
   ·go_wp2_with fail
    go_meet
    exact ⟨by rw [HQ2.o];first | done | rfl,Gr.refl _⟩
   ·have hZ:=HQ2.o
    clear HQ2
    cases z1:numB cf
    ·rw [z1] at hZ
     have HZ:=hid hZ
     clear hZ
     go_wp2_with (go_at_call 96;(first | refine (z1u _ (HB.o _ _)).mono ?_ | refine (HB.o _ _).mono ?_);rintro en _ ⟨rfl,y,rfl⟩)
     go_meet
     exact ⟨by rw [HZ.o];first | done | rfl,(by first | exact Gr.refl _ | exact Ext.gr _)⟩
    ·rw [z1] at hZ
     cases z2:numB cli
     ·rw [z2] at hZ
      have HZ:=hid hZ
      clear hZ
      go_wp2_with (go_at_call 96;(first | refine (z1u _ (HB.o _ _)).mono ?_ | refine (HB.o _ _).mono ?_);rintro en _ ⟨rfl,y,rfl⟩)
      go_meet
      exact ⟨by rw [HZ.o];first | done | rfl,(by first | exact Gr.refl _ | exact Ext.gr _)⟩
     ·rw [z2] at hZ
      cases z3:numB cn
      ·rw [z3] at hZ
       have HZ:=hid hZ
       clear hZ
       go_wp2_with (go_at_call 96;(first | refine (z1u _ (HB.o _ _)).mono ?_ | refine (HB.o _ _).mono ?_);rintro en _ ⟨rfl,y,rfl⟩)
       go_meet
       exact ⟨by rw [HZ.o];first | done | rfl,(by first | exact Gr.refl _ | exact Ext.gr _)⟩
      ·rw [z3] at hZ
       cases z4:(ck != 1)
       ·rw [z4] at hZ
        have HZ:=hid hZ
        clear hZ
        go_wp2_with (go_at_call 96;(first | refine (z1u _ (HB.o _ _)).mono ?_ | refine (HB.o _ _).mono ?_);rintro en _ ⟨rfl,y,rfl⟩)
        go_meet
        exact ⟨by rw [HZ.o];first | done | rfl,(by first | exact Gr.refl _ | exact Ext.gr _)⟩
       ·rw [z4] at hZ
        have HZ:=hid hZ
        clear hZ
        go_wp2_with (go_at_call 96;(first | refine (z1u _ (HB.o _ _)).mono ?_ | refine (HB.o _ _).mono ?_);rintro en _ ⟨rfl,y,rfl⟩)
        go_meet
        exact ⟨by rw [HZ.o];first | done | rfl,(by first | exact Gr.refl _ | exact Ext.gr _)⟩
  case rest =>
   obtain ⟨rfl,g2⟩:=hcut
   have G2:=hid g2
   obtain ⟨a0,a1,a2,a3,a4,a5,a6,a7,a8,a9⟩:=z04 ((g2.block _ l1).trans HB1.o)
   obtain ⟨t0,t1,t2,t3⟩:=z0C ((g2.block _ l3).trans HB3.o)
   have l1':=Nat.lt_of_lt_of_le l1 g2.size
   have l3':=Nat.lt_of_lt_of_le l3 g2.size
   clear g2 HQ2
   go_wp2_with fail
   have HB4:=hid (heap_alloc_new wc (.cells #[.int .i64 tf,.int .i64 tr,.int .i64 te,.int .i64 tt] 3))
   have G3:=hid (G2.o.alloc (.cells #[.int .i64 tf,.int .i64 tr,.int .i64 te,.int .i64 tt] 3))
   obtain ⟨w2,hw2⟩:∃ w2,wc.alloc (.cells #[.int .i64 tf,.int .i64 tr,.int .i64 te,.int .i64 tt] 3)=w2:=⟨_,rfl⟩
   rw [hw2] at HB4 G3 ⊢
   clear hw2 l1' l3' a0 a1 a2 a3 a4 a5 a6 a7 a8 a9 t0 t1 t2 t3 G2
   generalize wc.heap.size=n3 at *
   clear wc
   have l4:=block_lt HB4.o
   have HCELL:=hid ((G3.o.block _ l1).trans HB1.o)
   have l1':=block_lt HCELL.o
   have GW:=hid (G1.o.trans G3.o)
   clear G1 G3 HB1 HB2 HB3 l1 l2 l3
   go_loopw [4,109] (fun p iv wr=>((iv=.int .i64 0∧p=.bool q2)∨(iv=.int .i64 1∧p=.bool q3)∨(iv=.int .i64 2∧p=.bool q4)∨(iv=.int .i64 3∧p=.bool q5)∨(iv=.int .i64 4∧p=.bool q6))∧Gr w2 wr) (fun _ iv _=>4-(intOf iv).toNat)
   case atStart=>exact ⟨.inl ⟨rfl,rfl⟩,Gr.refl _⟩
   case round =>
    obtain ⟨hcs,hgr⟩:=hrel
    have HG:=hid hgr
    obtain ⟨t0,t1,t2,t3⟩:=z0C ((hgr.block _ l4).trans HB4.o)
    obtain ⟨a0,a1,a2,a3,a4,a5,a6,a7,a8,a9⟩:=z04 ((hgr.block _ l1').trans HCELL.o)
    have m4:=Nat.lt_of_lt_of_le l4 hgr.size
    have m1:=Nat.lt_of_lt_of_le l1' hgr.size
    clear hgr
    rcases hcs with ⟨rfl,rfl⟩ | ⟨rfl,rfl⟩ | ⟨rfl,rfl⟩ | ⟨rfl,rfl⟩ | ⟨rfl,rfl⟩
    ·cases q2
     ·go_wp2_with fail
      go_roundw
      case rel=>exact ⟨.inr (.inl ⟨by first | rfl | go_num,by rw [HQ3.o];first | done | rfl⟩),HG.o⟩
      case measure=>simp [intOf]
     ·go_wp2_with (go_at_call 96;refine (HB.o _ _).mono ?_;rintro en _ ⟨rfl,y,rfl⟩)
      go_roundw
      case rel=>exact ⟨.inr (.inl ⟨by first | rfl | go_num,by rw [HQ3.o,Bool.true_and]⟩),HG.o.ext y⟩
      case measure=>simp [intOf]
    ·cases q3
     ·go_wp2_with fail
      go_roundw
      case rel=>exact ⟨.inr (.inr (.inl ⟨by first | rfl | go_num,by rw [HQ4.o];first | done | rfl⟩)),HG.o⟩
      case measure=>simp [intOf]
     ·go_wp2_with (go_at_call 96;refine (HB.o _ _).mono ?_;rintro en _ ⟨rfl,y,rfl⟩)
      go_roundw
      case rel=>exact ⟨.inr (.inr (.inl ⟨by first | rfl | go_num,by rw [HQ4.o,Bool.true_and]⟩)),HG.o.ext y⟩
      case measure=>simp [intOf]
    ·cases q4
     ·go_wp2_with fail
      go_roundw
      case rel=>exact ⟨.inr (.inr (.inr (.inl ⟨by first | rfl | go_num,by rw [HQ5.o];first | done | rfl⟩))),HG.o⟩
      case measure=>simp [intOf]
     ·go_wp2_with (go_at_call 96;refine (HB.o _ _).mono ?_;rintro en _ ⟨rfl,y,rfl⟩)
      go_roundw
      case rel=>exact ⟨.inr (.inr (.inr (.inl ⟨by first | rfl | go_num,by rw [HQ5.o,Bool.true_and]⟩))),HG.o.ext y⟩
      case measure=>simp [intOf]
    ·cases q5
     ·go_wp2_with fail
      go_roundw
      case rel=>exact ⟨.inr (.inr (.inr (.inr ⟨by first | rfl | go_num,by rw [HQ6.o];first | done | rfl⟩))),HG.o⟩
      case measure=>simp [intOf]
     ·go_wp2_with (go_at_call 96;refine (HB.o _ _).mono ?_;rintro en _ ⟨rfl,y,rfl⟩)
      go_roundw
      case rel=>exact ⟨.inr (.inr (.inr (.inr ⟨by first | rfl | go_num,by rw [HQ6.o,Bool.true_and]⟩))),HG.o.ext y⟩
      case measure=>simp [intOf]
    ·go_upto_region 10 with fail
     go_cut [4] from 119 to 131 (fun t wx=>t=.bool q7∧wr=wx)
     case first =>
      cases q6
      ·go_wp2_with fail
       go_meet
       exact ⟨by rw [HQ7.o];first | done | rfl,rfl⟩
      ·cases z1:decide ((dl:Int)≤4096)
       ·have hz:¬ (dl:Int)≤4096:=by simpa using z1
        rw [z1] at HQ7
        go_wp2_with fail
        go_meet
        exact ⟨by rw [HQ7.o];first | done | rfl,rfl⟩
       ·have hz:(dl:Int)≤4096:=by simpa using z1
        rw [z1] at HQ7
        go_wp2_with fail
        go_meet
        exact ⟨by rw [HQ7.o];first | done | rfl,rfl⟩
     case rest =>
      obtain ⟨rfl,rfl⟩:=hcut
      cases q7
      ·go_wp2_with fail
       go_ret
       exact ⟨by rw [HR.o];first | done | rfl,GW.o.trans HG.o⟩
      ·go_wp2_with (go_at_call 97;refine (HCON.o _ (GW.o.trans HG.o)).mono ?_;rintro en _ ⟨rfl,y,rfl⟩)
       go_ret
       exact ⟨by rw [HR.o];first | done | rfl,(GW.o.trans HG.o).ext y⟩
theorem zcR (c:Call) (d l:Value) (M:Bl) (w:World) (hc:z0P w M c d l) (hll:c.l.length≤140737488351232) (hdd:∀ d∈c.l,d.data.length≤140737488351232):Calls Tryz.prog 59 #[z0E c d l] w (RetE (.bool (z2l c)) w):=by
 obtain ⟨Ad,cd,rfl,hdl,_⟩:=hc.1
 obtain ⟨Al,cl,rfl,_⟩:=hc.2.shape
 have hl:=hc.2
 clear hc
 have hk:=fun W=>zdJ c.kind W
 rcases c with ⟨ck,cf,cli,cn,⟨tf,tr,te,tt⟩,cdat,cls⟩
 simp only [z0E,z1U,hasV] at *
 refine z98 ck cf cli cn tf tr te tt Ad Al cdat.length cd cls.length cl cls M w _ _ _ _ _ _ _ _ hk ?_ hl rfl hll hdl hdd ?_
 ·by_cases h1:ck=1
  ·subst h1;simp [z18,z19,hasN,z1J,z17,hasL]
  by_cases h2:ck=2
  ·subst h2;simp [z18,z19,hasN,z1J,z17,hasL]
  by_cases h3:ck=3
  ·subst h3;simp [z18,z19,hasN,z1J,z17,hasL]
  by_cases h4:ck=4
  ·subst h4;simp [z18,z19,hasN,z1J,z17,hasL]
  by_cases h5:ck=5
  ·subst h5;simp [z18,z19,hasN,z1J,z17,hasL]
  by_cases h6:ck=6
  ·subst h6;simp [z18,z19,hasN,z1J,z17,hasL]
  by_cases h7:ck=7
  ·subst h7;simp [z18,z19,hasN,z1J,z17,hasL]
  by_cases h8:ck=8
  ·subst h8;simp [z18,z19,hasN,z1J,z17,hasL]
  by_cases h9:ck=9
  ·subst h9;simp [z18,z19,hasN,z1J,z17,hasL]
  by_cases h10:ck=10
  ·subst h10;simp [z18,z19,hasN,z1J,z17,hasL]
  by_cases h11:ck=11
  ·subst h11;simp [z18,z19,hasN,z1J,z17,hasL]
  left
  have hb:(decide (1≤ck) && decide (ck≤11))=false:=by
   cases h:(decide (1≤ck) && decide (ck≤11)) with
   | false=>rfl
   | true =>
    simp only [Bool.and_eq_true,decide_eq_true_eq] at h
    omega
  exact ⟨hb,by simp [z18,h1,h2,h3,h4,h5,h6],by simp [z19,h1,h7,h9],by simp [hasN,h1,h6],by simp [z1J,h8,h10,h11],by simp [z17,h1,h2,h4,h10,h11],by simp [hasL,h8]⟩
 ·rw [zcQ]
  have z1:((cdat.length:Int)==0)=(cdat.length==0):=by rw [Bool.eq_iff_iff];simp
  have z2:((cls.length:Int)==0)=(cls.length==0):=by rw [Bool.eq_iff_iff];simp
  have z3:decide ((cdat.length:Int)≤4096)=decide (cdat.length≤4096):=by rw [Bool.eq_iff_iff];simp;omega
  have z4:decide ((cls.length:Int)≤32)=decide (cls.length≤32):=by rw [Bool.eq_iff_iff];simp;omega
  rw [z1,z2,z3,z4]
  rfl
end Go.Proofs.YtniknicnnaiilaaGreat
end
