/- Lemmas of the engine. -/
import Derived.Test.YtniknicnnaiilaaGreatRows
import Derived.Test.YtniknicnnaiilaaGreatX01
section
namespace Go.Proofs.YtniknicnnaiilaaGreat
set_option maxRecDepth 100000
open Go.RowKit Go.Ext Go.BigFrame
attribute [local go_sem] Ext.cell Ext.frozen Ext.lt Ext.le s1 s2 s3 s4 s5 s6 t1 t2 t3 t4 t5 t6
attribute [local go_sem ↓] Go.wp_at_zero Go.wp_at_succ
def RetP (p:World→Value→Prop) (w:World) (e:Ending) (w':World):Prop:=∃ v,∃ y:Ext w,e=.returned v∧w'=y.val∧p y.val v
def Ints (w:World) (v:Value) (xs:List Int):Prop :=
 ∃ A c,v=.slice A xs.length c∧xs.length≤17592186044416∧(xs≠[]→∃ b off,A=some ⟨b,off,none⟩∧∀ j,j<xs.length→w.cell? ⟨b,off+j,none⟩=some (.int .i64 (xs.getD j 0)))
theorem Ints.gr {w w':World} {v:Value} {xs:List Int} (h:Ints w v xs) (g:Gr w w'):Ints w' v xs:=by
 obtain ⟨A,c,rfl,hl,hr⟩:=h
 refine ⟨A,c,rfl,hl,fun hn=>?_⟩
 obtain ⟨b,off,rfl,hc⟩:=hr hn
 exact ⟨b,off,rfl,fun j hj=>(g.cell (World.block_lt_of_cell? w _ (hc j hj))).trans (hc j hj)⟩
abbrev It:=Int × Int × Int × Int × Int × Int
def il (x:It):List Int:=[x.1,x.2.1,x.2.2.1,x.2.2.2.1,x.2.2.2.2.1,x.2.2.2.2.2]
def ic (x:It):List Value:=[.int .i64 x.1,.int .i64 x.2.1,.int .i64 x.2.2.1,.int .i64 x.2.2.2.1,.int .i64 x.2.2.2.2.1,.int .i64 x.2.2.2.2.2]
def iv (x:It):Value:=.agg #[.int .i64 x.1,.int .i64 x.2.1,.int .i64 x.2.2.1,.int .i64 x.2.2.2.1,.int .i64 x.2.2.2.2.1,.int .i64 x.2.2.2.2.2]
def cmpL:List Int→List Int→Int
 | [],[]=>0
 | [],_::_=>-1
 | _::_,[]=>1
 | x::xs,y::ys=>if x<y then -1 else if y<x then 1 else cmpL xs ys
def cmp1 (x y:Int):Int:=if x<y then -1 else if y<x then 1 else 0
theorem z8Z (x:Int) (w:World):Calls Tryz.prog 193 #[.int .i64 x] w (fun e w'=>e=.returned (.bool false)∧w=w'):=by
 go_enter Tryz.func193,Tryz.ntmps193
 go_wp2_with fail
 go_ret
 simp
theorem zbl (x y:Int) (w:World):Calls Tryz.prog 163 #[.int .i64 x,.int .i64 y] w (fun e w'=>e=.returned (.int .i64 (cmp1 x y))∧w=w'):=by
 by_cases h1:x<y
 ·have e:cmp1 x y=-1:=by simp [cmp1,h1]
  rw [e]
  go_enter Tryz.func163,Tryz.ntmps163
  go_wp2_with (go_at_call 193;refine (z8Z _ _).mono ?_;rintro e _ ⟨rfl,rfl⟩)
  go_ret
  simp
 ·by_cases h2:y<x
  ·have e:cmp1 x y=1:=by simp [cmp1,h1,h2]
   rw [e]
   go_enter Tryz.func163,Tryz.ntmps163
   go_wp2_with (go_at_call 193;refine (z8Z _ _).mono ?_;rintro e _ ⟨rfl,rfl⟩)
   go_ret
   simp
  ·have e:cmp1 x y=0:=by simp [cmp1,h1,h2]
   rw [e]
   go_enter Tryz.func163,Tryz.ntmps163
   go_wp2_with (go_at_call 193;refine (z8Z _ _).mono ?_;rintro e _ ⟨rfl,rfl⟩)
   go_ret
   simp
theorem zbk (xs ys:List Int) (k:Nat) (hx:k<xs.length) (hy:k<ys.length):cmpL (xs.drop k) (ys.drop k)=if cmp1 (xs.getD k 0) (ys.getD k 0)=0 then cmpL (xs.drop (k+1)) (ys.drop (k+1)) else cmp1 (xs.getD k 0) (ys.getD k 0):=by
 rw [List.drop_eq_getElem_cons hx,List.drop_eq_getElem_cons hy]
 simp only [cmpL,cmp1,List.getD,List.getElem?_eq_getElem hx,List.getElem?_eq_getElem hy,Option.getD_some]
 split
 ·simp
 ·split<;>simp_all
theorem z8F (xs ys:List Int) (u v:Value) (w:World) (hx:Ints w u xs) (hy:Ints w v ys) :
  Calls Tryz.prog 120 #[u,v] w (fun e w'=>e=.returned (.int .i64 (cmpL xs ys))∧w=w'):=by
 obtain ⟨A,c,rfl,hl,hr⟩:=hx
 obtain ⟨A2,c2,rfl,hl2,hr2⟩:=hy
 have HR:=hid hr
 have HR2:=hid hr2
 clear hr hr2
 obtain ⟨res,hres⟩:∃ res,cmpL xs ys=res:=⟨_,rfl⟩
 rw [hres]
 have HRES:=hid hres
 clear hres
 go_enter Tryz.func120,Tryz.ntmps120
 go_wp2_with fail
 go_loopw [11] (fun i wr=>∃ k:Nat,k≤xs.length∧k≤ys.length∧i=.int .i64 k∧cmpL (xs.drop k) (ys.drop k)=res∧w=wr) (fun i _=>xs.length-(intOf i).toNat)
 case atStart=>exact ⟨0,Nat.zero_le _,Nat.zero_le _,rfl,HRES.o,rfl⟩
 case round =>
  obtain ⟨k,hk,hk2,rfl,hc,rfl⟩:=hrel
  have HC:=hid hc
  clear hc
  by_cases hlt:k<xs.length
  ·obtain ⟨b,off,rfl,hcs⟩:=HR.o (by rintro rfl;simp at hlt)
   have c1:=hcs k hlt
   by_cases hlt2:k<ys.length
   ·obtain ⟨b2,off2,rfl,hcs2⟩:=HR2.o (by rintro rfl;simp at hlt2)
    have c2:=hcs2 k hlt2
    have HS:=hid (zbk xs ys k hlt hlt2)
    clear hcs hcs2
    generalize xs.getD k 0=x at *
    generalize ys.getD k 0=y at *
    by_cases hz:cmp1 x y=0
    ·go_wp2_with (go_at_call 163;refine (zbl _ _ _).mono ?_;rintro e _ ⟨rfl,rfl⟩)
     go_roundw
     case rel=>exact ⟨k+1,by omega,by omega,by go_num,by rw [← HC.o,HS.o,if_pos hz],by first | rfl | trivial⟩
     case measure=>simp [intOf];omega
    ·go_wp2_with (go_at_call 163;refine (zbl _ _ _).mono ?_;rintro e _ ⟨rfl,rfl⟩)
     go_ret
     exact ⟨by rw [← HC.o,HS.o,if_neg hz];rfl,rfl⟩
   ·have hd:ys.drop k=[]:=List.drop_eq_nil_of_le (by omega)
    go_wp2_with fail
    go_ret
    exact ⟨by rw [← HC.o,hd,List.drop_eq_getElem_cons hlt];rfl,rfl⟩
  ·have hd:xs.drop k=[]:=List.drop_eq_nil_of_le (by omega)
   by_cases hlt2:k<ys.length
   ·have hxy:(xs.length:Int)<ys.length:=by omega
    go_wp2_with fail
    go_ret
    exact ⟨by rw [← HC.o,hd,List.drop_eq_getElem_cons hlt2];rfl,rfl⟩
   ·have hd2:ys.drop k=[]:=List.drop_eq_nil_of_le (by omega)
    go_wp2_with fail
    go_ret
    exact ⟨by rw [← HC.o,hd,hd2];rfl,rfl⟩
theorem z91 (x:It) (w:World):Calls Tryz.prog 121 #[iv x] w (RetP (fun w' v=>Ints w' v (il x)) w):=by
 obtain ⟨a,b,c,d,e,f⟩:=x
 simp only [iv]
 go_enter Tryz.func121,Tryz.ntmps121
 go_wp2_with fail
 go_ret
 refine ⟨_,⟨_,((Gr.refl w).alloc _).alloc _⟩,rfl,rfl,_,_,rfl,by simp [il],fun _=>⟨_,_,rfl,?_⟩⟩
 intro j hj
 simp only [il,List.length_cons,List.length_nil] at hj
 have:j=0∨j=1∨j=2∨j=3∨j=4∨j=5:=by omega
 rcases this with rfl | rfl | rfl | rfl | rfl | rfl<;>(simp only [il,List.getD,List.getElem?_cons_zero,List.getElem?_cons_succ,Option.getD_some];go_simp)
end Go.Proofs.YtniknicnnaiilaaGreat
end
section
namespace Go.Proofs.YtniknicnnaiilaaGreat
set_option maxRecDepth 100000
open Go.RowKit Go.Ext Go.BigFrame Go.Maps
attribute [local go_sem] Ext.cell Ext.frozen Ext.lt Ext.le s1 s2 s3 s4 s5 s6 t1 t2 t3 t4 t5 t6
attribute [local go_sem ↓] Go.wp_at_zero Go.wp_at_succ
structure FC (w:World) (k:Nat) (F:FS) (v:Value) (mb:Nat):Prop where
 c0:w.cell? ⟨k,0,none⟩=some (.int .i64 F.id)
 c1:w.cell? ⟨k,1,none⟩=some (.int .i64 F.run)
 c2:w.cell? ⟨k,2,none⟩=some (.int .i64 F.list)
 c3:w.cell? ⟨k,3,none⟩=some (.int .i64 F.n)
 c4:w.cell? ⟨k,4,none⟩=some v
 c5:w.cell? ⟨k,5,none⟩=some (.int .i64 F.task)
 c6:w.cell? ⟨k,6,none⟩=some (.int .i64 F.place)
 c7:w.cell? ⟨k,7,none⟩=some (.int .i64 F.begun)
 c8:w.cell? ⟨k,8,none⟩=some (.int .i64 F.turn)
 c9:w.cell? ⟨k,9,none⟩=some (.bool F.late)
 c10:w.cell? ⟨k,10,none⟩=some (.bool F.asked)
 c11:w.cell? ⟨k,11,none⟩=some (.map (some mb))
theorem FC.of {w:World} {k mb:Nat} {F:FS} {v:Value} (h:w.heap[k]?=some (.cells (z2C F v mb) 157 (0,0))):FC w k F v mb:=by
 constructor<;>simp [World.cell?,h,z2C]
theorem z00 {w:World} {k j:Nat} {cs:Array Value} {t:TypeId} (h:w.heap[k]?=some (.cells cs t (0,0))):w.frozen? ⟨k,j,none⟩=false:=by simp [World.frozen?,h]
theorem FZ {w:World} {k:Nat} {cs:Array Value} {t:TypeId} (h:w.heap[k]?=some (.cells cs t (0,0))):w.frozen? ⟨k,0,none⟩=false∧w.frozen? ⟨k,1,none⟩=false∧w.frozen? ⟨k,2,none⟩=false∧w.frozen? ⟨k,3,none⟩=false∧w.frozen? ⟨k,4,none⟩=false∧w.frozen? ⟨k,5,none⟩=false∧w.frozen? ⟨k,6,none⟩=false∧w.frozen? ⟨k,7,none⟩=false∧w.frozen? ⟨k,8,none⟩=false∧w.frozen? ⟨k,9,none⟩=false:=⟨z00 h,z00 h,z00 h,z00 h,z00 h,z00 h,z00 h,z00 h,z00 h,z00 h⟩
theorem z08.last {w:World} {M:Bl} {A:Option Addr} {n c:Nat} {l:List Ev} {e:Ev} (h:z08 evR w M (.slice A n c) l) (he:l.getLast?=some e) :
  ∃ b off d,A=some ⟨b,off,.none⟩∧b<w.heap.size∧¬ M b∧BysM w M d e.data∧0<n∧n=l.length∧n≤c∧∀ j u,(recC (evR e) d)[j]?=some u→w.cell? ⟨b,off+(n-1) * 7+j,.none⟩=some u:=by
 have hn:n=l.length∧n≤c:=by
  obtain ⟨A',c',e',hc⟩:=h.shape
  injection e' with e1 e2 e3
  exact ⟨e2,by omega⟩
 obtain ⟨rfl,hc⟩:=hn
 have h0:0<l.length:=by
  rcases l with _ | ⟨x,r⟩
  ·simp at he
  ·simp
 obtain ⟨b,off,d,h1,h2,h3,h4,h5⟩:=h.at_ (m:=6) (fun x=>z14 x) (i:=l.length-1) (x:=e) (by rw [← List.getLast?_eq_getElem?];exact he)
 exact ⟨b,off,d,h1,h2,h3,h4,h0,rfl,hc,h5⟩
theorem zcY (v:Value) (l:List Ev) (M:Bl) (w:World) (h:z08 evR w M v l) (hl:l.length≤1000000):Calls Tryz.prog 105 #[v] w (RetE (.int .i64 (z0B l)) w):=by
 obtain ⟨A,c,rfl,hlc⟩:=h.shape
 refine z31 ?_
 cases he:l.getLast? with
 | none =>
  have:l=[]:=List.getLast?_eq_none_iff.1 he
  subst this
  go_enter Tryz.func105,Tryz.ntmps105
  go_wp2_with fail
  go_ret
  exact ⟨rfl,rfl⟩
 | some e =>
  obtain ⟨b,off,d,rfl,hb,hM,hd,h0,hn,hnc,hcell⟩:=h.last he
  have c0:=hcell 0 (.int .i64 e.kind) rfl
  rw [Nat.add_zero] at c0
  have HS:=hid (show z0B l=z1P e.kind by unfold z0B;rw [he])
  clear hcell h hd he
  generalize l.length=n at *
  have hz:¬ (n:Int)=0:=by omega
  have k0:(0:Int)≤(n:Int)-1:=by omega
  have k1:(n:Int)-1<(n:Int):=by omega
  generalize e.kind=k at *
  have main:∀ x:Int,z1P k=x→Calls Tryz.prog 105 #[.slice (some ⟨b,off,none⟩) n c] w (fun e w'=>e=.returned (.int .i64 x)∧w=w'):=by
   intro x hx
   by_cases h19:k=19
   ·subst h19
    go_enter Tryz.func105,Tryz.ntmps105
    go_wp2_with fail
    go_ret
    exact ⟨by rw [← hx];rfl,rfl⟩
   by_cases h20:k=20
   ·subst h20
    go_enter Tryz.func105,Tryz.ntmps105
    go_wp2_with fail
    go_ret
    exact ⟨by rw [← hx];rfl,rfl⟩
   by_cases h21:k=21
   ·subst h21
    go_enter Tryz.func105,Tryz.ntmps105
    go_wp2_with fail
    go_ret
    exact ⟨by rw [← hx];rfl,rfl⟩
   by_cases h22:k=22
   ·subst h22
    go_enter Tryz.func105,Tryz.ntmps105
    go_wp2_with fail
    go_ret
    exact ⟨by rw [← hx];rfl,rfl⟩
   by_cases h23:k=23
   ·subst h23
    go_enter Tryz.func105,Tryz.ntmps105
    go_wp2_with fail
    go_ret
    exact ⟨by rw [← hx];rfl,rfl⟩
   have hx1:x=1:=by rw [← hx];unfold z1P;rw [if_neg h19,if_neg h20,if_neg h21,if_neg h22,if_neg h23]
   subst hx1
   go_enter Tryz.func105,Tryz.ntmps105
   go_wp2_with fail
   go_ret
   exact ⟨rfl,rfl⟩
  rw [HS.o]
  exact main _ rfl
theorem z0H.parts {w:World} {M:Bl} {k mb:Nat} {F:FS} (h:z0H w M k mb F):∃ A c,F.l.length≤c∧FC w k F (.slice A F.l.length c) mb∧z08 evR w M (.slice A F.l.length c) F.l∧k<w.heap.size:=by
 obtain ⟨v,h1,h2⟩:=h.row
 obtain ⟨A,c,rfl,hc⟩:=h2.shape
 exact ⟨A,c,hc,FC.of h1,h2,h.lt.1⟩
theorem z2w (k mb:Nat) (F:FS) (M:Bl) (w:World) (h:z0H w M k mb F) (hl:F.l.length≤1000000):Calls Tryz.prog 65 #[.pointer (some ⟨k,0,none⟩)] w (RetE (.int .i64 (z0B F.l)) w):=by
 obtain ⟨A,c,hc,hf,hr,hk⟩:=h.parts
 obtain ⟨c0,c1,c2,c3,c4,c5,c6,c7,c8,c9,c10,c11⟩:=hf
 have HS:=hid (fun W (y:Gr w W)=>zcY _ F.l M W (hr.up (Gr.up y M)) hl)
 clear h hr
 refine retE ?_
 go_enter Tryz.func65,Tryz.ntmps65
 go_wp2_with (go_at_call 105;(with_reducible refine (HS.o _ (Gr.refl _)).mono ?_);rintro en _ ⟨rfl,y1,rfl⟩)
 go_ret
 exact ⟨rfl,y1.gr⟩
theorem z2S (k mb:Nat) (F:FS) (M:Bl) (w:World) (h:z0H w M k mb F):Calls Tryz.prog 63 #[.pointer (some ⟨k,0,none⟩)] w (RetE (.int .i64 F.run) w):=by
 obtain ⟨A,c,hc,hf,hr,hk⟩:=h.parts
 obtain ⟨c0,c1,c2,c3,c4,c5,c6,c7,c8,c9,c10,c11⟩:=hf
 clear h hr
 refine z31 ?_
 go_enter Tryz.func63,Tryz.ntmps63
 go_wp2_with fail
 go_ret
 exact ⟨rfl,rfl⟩
theorem z0v (v:Int) (w:World):Calls Tryz.prog 178 #[.int .i64 v] w (RetE (.bool (numB v)) w):=by
 refine z31 ?_
 unfold numB
 by_cases h1:0≤v<;>by_cases h2:v≤1048576
 all_goals
  simp only [h1,h2,decide_true,decide_false,Bool.and_true,Bool.and_false]
  go_enter Tryz.func178,Tryz.ntmps178
  go_wp2_with fail
  go_ret
  exact ⟨rfl,rfl⟩
theorem z1I (v:Int) (w:World):Calls Tryz.prog 179 #[.int .i64 v] w (RetE (.bool (z2o v)) w):=by
 refine z31 ?_
 unfold z2o
 by_cases h1:1≤v<;>by_cases h2:v≤1048576
 all_goals
  simp only [h1,h2,decide_true,decide_false,Bool.and_true,Bool.and_false]
  go_enter Tryz.func179,Tryz.ntmps179
  go_wp2_with fail
  go_ret
  exact ⟨rfl,rfl⟩
end Go.Proofs.YtniknicnnaiilaaGreat
end
section
namespace Go.Proofs.YtniknicnnaiilaaGreat
set_option maxRecDepth 100000
open Go.RowKit Go.Ext Go.BigFrame Go.Maps Go.MapKept
attribute [local go_sem] Ext.cell Ext.frozen Ext.lt Ext.le s1 s2 s3 s4 s5 s6 t1 t2 t3 t4 t5 t6
attribute [local go_sem ↓] Go.wp_at_zero Go.wp_at_succ
def mixI (x:Int):Int :=
 let a:=IntKind.u64.wrap (bits BinOp.xor IntKind.u64 x (x / 1073741824) * 13787848793156543929)
 let b:=IntKind.u64.wrap (bits BinOp.xor IntKind.u64 a (a / 134217728) * 10723151780598845931)
 bits BinOp.xor IntKind.u64 b (b / 2147483648)
def z67 (id:Int):Int:=mixI (IntKind.u64.wrap id)
theorem zdL (id:Int) (w:World):Calls Tryz.prog 71 #[.int .i64 id] w (RetE (.int .u64 (z67 id)) w):=by
 refine retE ?_
 go_enter Tryz.func71,Tryz.ntmps71
 go_wp2_with fail
 go_ret
 exact ⟨rfl,Gr.refl w⟩
theorem zek (n:Int):0≤IntKind.u64.wrap n∧IntKind.u64.wrap n<18446744073709551616:=by
 simp only [IntKind.wrap,IntKind.signed,Bool.false_and]
 exact ⟨Int.emod_nonneg _ (by decide),Int.emod_lt_of_pos _ (by decide)⟩
theorem zeN (x y:Int):0≤bits BinOp.xor IntKind.u64 x y:=by
 unfold bits
 exact (zek _).1
def z09 (g id:Int):Int:=wrap64 ((z67 id).tmod g)
theorem zdK (id:Int):0≤z67 id:=zeN _ _
theorem z8m {g:Int} (id:Int) (h:1≤g∧g≤8):z09 g id=(z67 id).tmod g∧0≤z09 g id∧z09 g id<g:=by
 have h1:=zdK id
 have h2:0≤(z67 id).tmod g:=Int.tmod_nonneg _ h1
 have h3:(z67 id).tmod g<g:=Int.tmod_lt_of_pos _ (by omega)
 have h4:z09 g id=(z67 id).tmod g:=by
  unfold z09
  exact IntWalk.wrap64_in _ (by omega)
 exact ⟨h4,by rw [h4];exact h2,by rw [h4];exact h3⟩
theorem z8n (id g:Int) (w:World) (h:1≤g∧g≤8):Calls Tryz.prog 37 #[.int .i64 id,.int .i64 g] w (RetE (.int .i64 (z09 g id)) w):=by
 refine retE ?_
 have H:=hid (fun w=>zdL id w)
 unfold z09
 generalize z67 id=x at *
 go_enter Tryz.func37,Tryz.ntmps37
 go_wp2_with (go_at_call 71;refine (H.o _).mono ?_;rintro en _ ⟨rfl,y1,rfl⟩)
 go_ret
 exact ⟨rfl,y1.gr⟩
end Go.Proofs.YtniknicnnaiilaaGreat
end
section
namespace Go.Proofs.YtniknicnnaiilaaGreat
open Go.RowKit Go.Ext
section
variable {α:Type}
theorem z1K {l:List (Int × α)} {k:Int} {v:α}:∀ {x:Int × α},x∈up l k v→x=(k,v)∨(x∈l):=by
 induction l with
 | nil=>intro x h;simpa [up] using h
 | cons y r ih =>
  intro x h
  simp only [up] at h
  split at h
  ·rcases List.mem_cons.1 h with h | h
   ·exact .inl h
   ·exact .inr (List.mem_cons_of_mem _ h)
  ·rcases List.mem_cons.1 h with h | h
   ·exact .inr (h▸List.mem_cons_self ..)
   ·exact (ih h).imp id (List.mem_cons_of_mem _)
theorem z3R {l:List (Int × α)} (hn:(l.map (·.1)).Nodup) {k:Int} {v:α} {x:Int × α} (h:x∈up l k v):x=(k,v)∨(x∈l∧x.1≠k):=by
 rcases x with ⟨a,b⟩
 by_cases e:a=k
 ·subst e
  have:=z5I (z3d hn a v) h
  rw [z0g] at this
  injection this with this
  exact .inl (by rw [this])
 ·rcases z1K h with h | h
  ·injection h with h1;exact absurd h1 e
  ·exact .inr ⟨h,e⟩
theorem zcv {l:List (Int × α)} (hn:(l.map (·.1)).Nodup) {k:Int} {x:Int × α} (h:x∈rm l k):x∈l∧x.1≠k:=by
 refine ⟨(z2Q l k).subset h,fun e=>?_⟩
 rcases x with ⟨a,b⟩
 obtain rfl:a=k:=e
 have:=z5I (z5a hn a) h
 rw [z1G hn] at this
 cases this
theorem zgT {l:List (Int × α)} {k:Int} {x:Int × α} (h:x∈l) (hk:x.1≠k):x∈rm l k:=by
 induction l with
 | nil=>cases h
 | cons y r ih =>
  simp only [rm]
  rcases List.mem_cons.1 h with rfl | h
  ·rw [if_neg hk];exact List.mem_cons_self ..
  ·split
   ·exact h
   ·exact List.mem_cons_of_mem _ (ih h)
end
structure FI (F:FS):Prop where
 keys:∀ x∈F.op,1≤x.1∧x.1≤F.l.length∧(x.2.kind=7∨x.2.kind=12∨x.2.kind=17)∧0≤x.2.works∧x.2.works≤F.l.length∧∃ e,F.l[(x.1-1).toNat]?=some e∧e.kind=x.2.kind∧e.id=x.2.id
 nodup:(F.op.map (·.1)).Nodup
 uniq:∀ x∈F.op,∀ y∈F.op,x.2.kind=y.2.kind→x.2.id=y.2.id→x=y
 wuniq:∀ x∈F.op,∀ y∈F.op,x.2.works≠0→x.2.works=y.2.works→x=y
 turn:0≤F.turn∧F.turn≤F.l.length
 evs:∀ e∈F.l,0≤e.n∧e.n≤1048576∧e.data.length≤4096
 n:F.l≠[]→1≤F.n∧F.n≤1048576
 task:0≤F.task∧F.task≤2
 ids:∀ x∈F.op,0≤x.2.id∧x.2.id≤1048576
structure z3p (F:FS) (e:Ev):Prop where
 n:0≤e.n∧e.n≤1048576
 data:e.data.length≤4096
 k1:F.l=[]→e.kind=1
 k1n:e.kind=1→1≤e.n
 k2:e.kind=2→e.n≤F.l.length+1
 k7:e.kind=7∨e.kind=12∨e.kind=17→∀ x∈F.op,x.2.kind=e.kind→x.2.id=e.id→False
 k8:e.kind=8→lk F.op e.ref=some ⟨7,e.id,0⟩
 kid:e.kind=7∨e.kind=12∨e.kind=17→0≤e.id∧e.id≤1048576
theorem FI.sub {F F':FS} {e:Ev} (h:FI F) (hp:z3p F e) (hl:F'.l=F.l++[e]) (ho:F'.op.Sublist F.op) (ht:0≤F'.turn∧F'.turn≤F.l.length+1) (hn:1≤F'.n∧F'.n≤1048576) (hk:0≤F'.task∧F'.task≤2):FI F':=by
 have hlen:F'.l.length=F.l.length+1:=by rw [hl];simp
 refine ⟨fun x hx=>?_,h.nodup.sublist (ho.map _),fun x hx y hy=>h.uniq x (ho.subset hx) y (ho.subset hy),fun x hx y hy=>h.wuniq x (ho.subset hx) y (ho.subset hy),⟨ht.1,by omega⟩,fun e' he=>?_,fun _=>hn,hk,fun x hx=>h.ids x (ho.subset hx)⟩
 ·obtain ⟨h1,h2,h3,h4,h5,e',h6,h7⟩:=h.keys x (ho.subset hx)
  refine ⟨h1,by omega,h3,h4,by omega,e',?_,h7⟩
  rw [hl,List.getElem?_append_left (by omega)]
  exact h6
 ·rw [hl] at he
  rcases List.mem_append.1 he with he | he
  ·exact h.evs e' he
  ·simp only [List.mem_singleton] at he
   subst he
   exact ⟨hp.n.1,hp.n.2,hp.data⟩
theorem z4a (F:FS) (e:Ev):(putF F e).l=F.l++[e]:=by
 simp only [putF,apply_ite FS.l,ite_self]
theorem ze7 (F:FS) (e:Ev):(putF F e).id=F.id:=by
 unfold putF
 repeat (refine iteInduction (motive:=fun G:FS=>G.id=F.id) (fun _=>rfl) (fun _=>?_))
 rfl
theorem ze8 (F:FS) (e:Ev):(putF F e).run=F.run:=by
 unfold putF
 repeat (refine iteInduction (motive:=fun G:FS=>G.run=F.run) (fun _=>rfl) (fun _=>?_))
 rfl
theorem z1g (F:FS) (e:Ev):(putF F e).id=F.id∧(putF F e).run=F.run:=⟨ze7 F e,ze8 F e⟩
theorem FI.put {F:FS} {e:Ev} (h:FI F) (hp:z3p F e):FI (putF F e):=by
 have hN:e.kind≠1→1≤F.n∧F.n≤1048576:=fun hk=>h.n fun e=>hk (hp.k1 e)
 have ht:=h.turn
 have hk:=h.task
 unfold putF
 refine iteInduction (motive:=FI) (fun hc=>?_) (fun hc=>?_)
 ·have hk1:=hc
  exact h.sub hp rfl (List.Sublist.refl _) ⟨ht.1,by dsimp only;omega⟩ ⟨hp.k1n hk1,hp.n.2⟩ hk
 have hk1:=hc
 have hN:=hN hk1
 refine iteInduction (motive:=FI) (fun hc=>?_) (fun hc=>?_)
 ·have hk2:=hc
  exact h.sub hp rfl (List.Sublist.refl _) ⟨hp.n.1,hp.k2 hk2⟩ hN (by dsimp only;omega)
 refine iteInduction (motive:=FI) (fun hc=>?_) (fun hc=>?_)
 ·exact h.sub hp rfl (List.Sublist.refl _) ⟨ht.1,by dsimp only;omega⟩ hN (by dsimp only;omega)
 refine iteInduction (motive:=FI) (fun hc=>?_) (fun hc=>?_)
 ·exact h.sub hp rfl (List.Sublist.refl _) (by dsimp only;omega) hN (by dsimp only;omega)
 refine iteInduction (motive:=FI) (fun hc=>?_) (fun hc=>?_)
 ·exact h.sub hp rfl (List.Sublist.refl _) (by dsimp only;omega) hN (by dsimp only;omega)
 refine iteInduction (motive:=FI) (fun hc=>?_) (fun hc=>?_)
 ·have hk7:=hc
  have h7:=hp.k7 hk7
  have hb:FI { F with l:=F.l++[e] }:=h.sub hp rfl (List.Sublist.refl _) ⟨ht.1,by dsimp only;omega⟩ hN hk
  have hn:∀ x∈F.op,x.1≠atF F:=fun x hx e=>by have:=(h.keys x hx).2.1;unfold atF at e;omega
  refine ⟨fun x hx=>?_,z3d h.nodup _ _,?_,?_,hb.turn,hb.evs,hb.n,hk,fun x hx=>by rcases z1K hx with rfl | hx;exact hp.kid hk7;exact h.ids x hx⟩
  ·rcases z1K hx with rfl | hx
   ·have:(atF F-1).toNat=F.l.length:=by unfold atF;omega
    refine ⟨by simp only [atF];omega,by simp [atF],hk7,by simp,by simp;omega,e,?_,rfl,rfl⟩
    simp only [this,List.getElem?_append_right (Nat.le_refl _),Nat.sub_self]
    rfl
   ·exact hb.keys x hx
  ·intro x hx y hy h1 h2
   rcases z1K hx with rfl | hx<;>rcases z1K hy with rfl | hy
   ·rfl
   ·exact (h7 y hy h1.symm h2.symm).elim
   ·exact (h7 x hx h1 h2).elim
   ·exact h.uniq x hx y hy h1 h2
  ·intro x hx y hy h1 h2
   rcases z1K hx with rfl | hx<;>rcases z1K hy with rfl | hy
   ·rfl
   ·exact (h1 rfl).elim
   ·exact (h1 h2).elim
   ·exact h.wuniq x hx y hy h1 h2
 refine iteInduction (motive:=FI) (fun hc=>?_) (fun hc=>?_)
 ·have hk8:=hc
  have h8:=hp.k8 hk8
  have hm:=z0K h8
  have hb:FI { F with l:=F.l++[e] }:=h.sub hp rfl (List.Sublist.refl _) ⟨ht.1,by dsimp only;omega⟩ hN hk
  refine ⟨fun x hx=>?_,z3d h.nodup _ _,?_,?_,hb.turn,hb.evs,hb.n,hk,fun x hx=>by rcases z1K hx with rfl | hx;exact h.ids (e.ref,⟨7,e.id,0⟩) hm;exact h.ids x hx⟩
  ·rcases z1K hx with rfl | hx
   ·obtain ⟨h1,h2,h3,_,_,h6⟩:=hb.keys _ hm
    refine ⟨h1,h2,h3,by simp only [atF];omega,by simp [atF],h6⟩
   ·exact hb.keys x hx
  ·intro x hx y hy h1 h2
   rcases z3R h.nodup hx with rfl | ⟨hx,hxn⟩<;>rcases z3R h.nodup hy with rfl | ⟨hy,hyn⟩
   ·rfl
   ·exact absurd (congrArg Prod.fst (h.uniq _ hy _ hm h1.symm h2.symm)) hyn
   ·exact absurd (congrArg Prod.fst (h.uniq _ hx _ hm h1 h2)) hxn
   ·exact h.uniq x hx y hy h1 h2
  ·intro x hx y hy h1 h2
   rcases z3R h.nodup hx with rfl | ⟨hx,hxn⟩<;>rcases z3R h.nodup hy with rfl | ⟨hy,hyn⟩
   ·rfl
   ·have:=(h.keys y hy).2.2.2.2.1
    simp only [atF] at h2
    omega
   ·have:=(h.keys x hx).2.2.2.2.1
    simp only [atF] at h2
    omega
   ·exact h.wuniq x hx y hy h1 h2
 refine iteInduction (motive:=FI) (fun hc=>?_) (fun hc=>?_)
 ·exact h.sub hp rfl (z2Q _ _) ⟨ht.1,by dsimp only;omega⟩ hN hk
 refine iteInduction (motive:=FI) (fun hc=>?_) (fun hc=>?_)
 ·exact h.sub hp rfl (z2Q _ _) ⟨ht.1,by dsimp only;omega⟩ hN hk
 refine iteInduction (motive:=FI) (fun hc=>?_) (fun hc=>?_)
 ·exact h.sub hp rfl (z2Q _ _) ⟨ht.1,by dsimp only;omega⟩ hN hk
 refine iteInduction (motive:=FI) (fun hc=>?_) (fun hc=>?_)
 ·exact h.sub hp rfl (z2Q _ _) ⟨ht.1,by dsimp only;omega⟩ hN hk
 refine iteInduction (motive:=FI) (fun hc=>?_) (fun hc=>?_)
 ·exact h.sub hp rfl (List.Sublist.refl _) ⟨ht.1,by dsimp only;omega⟩ hN hk
 ·exact h.sub hp rfl (List.nil_sublist _) ⟨ht.1,by dsimp only;omega⟩ hN (by dsimp only;omega)
def z0V (k:Int):Prop:=k≠1∧k≠2∧k≠7∧k≠12∧k≠17∧k≠8
theorem z3p.plain {F:FS} {e:Ev} (hl:F.l≠[]) (hk:z0V e.kind) (hn:0≤e.n∧e.n≤1048576) (hd:e.data.length≤4096):z3p F e:=by
 obtain ⟨h1,h2,h3,h4,h5,h6⟩:=hk
 refine ⟨hn,hd,fun h=>absurd h hl,fun h=>absurd h h1,fun h=>absurd h h2,fun h=>?_,fun h=>absurd h h6,fun h=>?_⟩
 rotate_left
 ·rcases h with h | h | h
  ·exact absurd h h3
  ·exact absurd h h4
  ·exact absurd h h5
 rcases h with h | h | h
 ·exact absurd h h3
 ·exact absurd h h4
 ·exact absurd h h5
theorem z1W (F:FS) (e:Ev):(putF F e).l≠[]:=by rw [z4a];simp
theorem z0r (F:FS) (e:Ev):(putF F e).l.length=F.l.length+1:=by rw [z4a];simp
theorem FI.schedule {F:FS} {now:Int} (h:FI F) (hl:F.l≠[]) (hb:F.l.length≤100000):FI (z07 F now).1:=by
 have ht:=h.turn
 refine FI.put (F:=F) (e:=⟨2,now,0,0,F.list,F.turn,[]⟩) h ⟨?_,?_,fun e=>absurd e hl,?_,?_,?_,?_,fun e=>by simp at e⟩
 ·dsimp only;omega
 ·simp
 ·intro e;simp at e
 ·intro _;dsimp only;omega
 ·intro e;simp at e
 ·intro e;simp at e
theorem FI.wake {F:FS} {now:Int} (h:FI F) (hl:F.l≠[]) (hb:F.l.length≤100000):FI (z0T F now).1:=by
 unfold z0T
 split
 ·exact h.schedule hl hb
 ·exact h
theorem FI.close {F:FS} {kind now:Int} {data:List UInt8} (h:FI F) (hl:F.l≠[]) (hk:19≤kind) (hd:data.length≤4096):FI (z0J F kind data now).1 :=
 h.put (.plain hl ⟨by dsimp only;omega,by dsimp only;omega,by dsimp only;omega,by dsimp only;omega,by dsimp only;omega,by dsimp only;omega⟩ (by dsimp only;omega) hd)
structure FOk (F:FS):Prop where
 i:FI F
 ne:F.l≠[]
 len:F.l.length≤4096
 idn:0≤F.id∧F.id≤1048576
 runn:1≤F.run∧F.run≤1048576
def Good (act:FS→FR):Prop:=∀ F,FOk F→FI (act F).1∧(act F).1.l≠[]∧(act F).1.l.length≤F.l.length+200∧(act F).1.id=F.id∧(act F).1.run=F.run
theorem zfM (F:FS) (now:Int):(z0T F now).1.l.length≤F.l.length+1∧(F.l≠[]→(z0T F now).1.l≠[])∧(z0T F now).1.id=F.id∧(z0T F now).1.run=F.run:=by
 unfold z0T
 split
 ·simp only [z07]
  exact ⟨Nat.le_of_eq (z0r _ _),fun _=>z1W _ _,(z1g _ _).1,(z1g _ _).2⟩
 ·exact ⟨by simp,id,rfl,rfl⟩
theorem FOk.tryF {F:FS} {data:List UInt8} {now:Int} {act:FS→FR} (h:FOk F) (hg:Good act):FOk (tryF F data now act).1:=by
 unfold YtniknicnnaiilaaGreat.tryF
 split
 ·exact h
 split
 ·exact h
 split
 ·exact h
 split
 ·exact h
 ·rename_i hlen
  obtain ⟨h1,h2,h3,h4,h5⟩:=hg F h
  exact ⟨h1,h2,by omega,h4▸h.idn,h5▸h.runn⟩
theorem zc4 {F G:FS} {now:Int} (h:FI G) (hl:G.l≠[]) (hb:G.l.length≤F.l.length+10) (hF:FOk F) (hi:G.id=F.id∧G.run=F.run) :
  FI (z0T G now).1∧(z0T G now).1.l≠[]∧(z0T G now).1.l.length≤F.l.length+200∧(z0T G now).1.id=F.id∧(z0T G now).1.run=F.run:=by
 obtain ⟨h1,h2,h3,h4⟩:=zfM G now
 have:=hF.len
 exact ⟨h.wake hl (by omega),h2 hl,by omega,h3.trans hi.1,h4.trans hi.2⟩
theorem z1l {F:FS} (hF:FOk F):FI F∧F.l≠[]∧F.l.length≤F.l.length+200∧F.id=F.id∧F.run=F.run:=⟨hF.i,hF.ne,by omega,rfl,rfl⟩
theorem z6V {F:FS} {e:Ev} (hF:FOk F) (hp:z3p F e):FI (putF F e)∧(putF F e).l≠[]∧(putF F e).l.length≤F.l.length+200∧(putF F e).id=F.id∧(putF F e).run=F.run :=
 ⟨hF.i.put hp,z1W _ _,by rw [z0r];omega,(z1g _ _).1,(z1g _ _).2⟩
theorem z2D {F:FS} {e:Ev} {now:Int} (hF:FOk F) (hp:z3p F e):FI (z0T (putF F e) now).1∧(z0T (putF F e) now).1.l≠[]∧(z0T (putF F e) now).1.l.length≤F.l.length+200∧(z0T (putF F e) now).1.id=F.id∧(z0T (putF F e) now).1.run=F.run :=
 zc4 (hF.i.put hp) (z1W _ _) (by rw [z0r];omega) hF (z1g _ _)
theorem z9a {data:List UInt8} {now:Int} (hd:data.length≤4096):Good (z4O data now):=fun F hF =>
 z2D hF (.plain hF.ne (by unfold z0V;dsimp only;omega) (by dsimp only;omega) hd)
theorem z8A {now:Int}:Good (z21 now):=fun F hF=>by
 unfold z21
 split
 ·exact z1l hF
 ·exact z2D hF (.plain hF.ne (by unfold z0V;dsimp only;omega) (by dsimp only;omega) (by simp))
theorem z6a {data:List UInt8} {now:Int} (hd:data.length≤4096):Good (z1m data now):=fun F hF =>
 z6V (e:=⟨23,now,0,0,0,0,data⟩) hF (.plain hF.ne (by unfold z0V;dsimp only;omega) (by dsimp only;omega) hd)
theorem z7H {ref turn now:Int}:Good (z0Q ref turn now):=fun F hF=>by
 unfold z0Q
 split
 ·exact z1l hF
 ·exact z6V (e:=⟨3,now,ref,0,0,0,[]⟩) hF (.plain hF.ne (by unfold z0V;dsimp only;omega) (by dsimp only;omega) (by simp))
theorem zb1 {ref now:Int}:Good (z2H ref now):=fun F hF=>by
 unfold z2H
 split
 ·exact z1l hF
 ·rename_i hw
  split
  ·exact z1l hF
  ·rename_i a ha
   refine z6V (e:=⟨8,now,ref,a.id,0,0,[]⟩) hF ⟨by dsimp only;omega,by simp,fun e=>absurd e hF.ne,?_,?_,?_,?_,fun e=>by simp at e⟩
   ·intro e;simp at e
   ·intro e;simp at e
   ·intro e;simp at e
   ·intro _
    have hw:z1n F ref (-1)=true:=by simpa using hw
    unfold z1n at hw
    rw [if_pos rfl] at hw
    dsimp only
    cases hx:lk F.op ref with
    | none=>rw [hx] at hw;cases hw
    | some x =>
     rw [hx] at hw
     simp only [Bool.and_eq_true,beq_iff_eq] at hw
     obtain ⟨h1,_,_,_,_,e,h6,_,h8⟩:=hF.i.keys _ (z0K hx)
     rw [ha] at h6
     injection h6 with h6
     subst h6
     rcases x with ⟨k,i,wk⟩
     obtain ⟨rfl,rfl⟩:=hw
     simp only at h8
     subst h8
     rfl
theorem z7O {kind ref now:Int} {data:List UInt8} (hk:kind=9∨kind=10∨kind=11) (hd:data.length≤4096):Good (z2q kind ref data now):=fun F hF=>by
 unfold z2q
 split
 ·exact z1l hF
 ·split
  ·exact z1l hF
  ·refine z2D hF (.plain hF.ne ?_ (by dsimp only;omega) hd)
   unfold z0V
   dsimp only
   omega
theorem z8Y {ref turn now:Int}:Good (z1r ref turn now):=fun F hF=>by
 unfold z1r
 split
 ·exact z1l hF
 ·have hp:z3p F ⟨5,now,F.begun,0,0,0,[]⟩:=.plain hF.ne (by unfold z0V;dsimp only;omega) (by dsimp only;omega) (by simp)
  have hlen:=hF.len
  have e1:=z0r F ⟨5,now,F.begun,0,0,0,[]⟩
  refine ⟨(hF.i.put hp).schedule (z1W _ _) (by omega),z1W _ _,?_,?_,?_⟩
  ·simp only [ok,z07,z0r];omega
  ·simp only [ok,z07,(z1g _ _).1]
  ·simp only [ok,z07,(z1g _ _).2]
theorem z8W {ref turn now:Int}:Good (z1x ref turn now):=fun F hF=>by
 unfold z1x
 split
 ·exact z1l hF
 ·exact z7O (.inr (.inr rfl)) (by simp) F hF
theorem zaw {ref turn now:Int}:Good (z29 ref turn now):=fun F hF=>by
 unfold z29
 split
 ·exact z1l hF
 ·split
  ·exact z1l hF
  ·exact z2D hF (.plain hF.ne (by unfold z0V;dsimp only;omega) (by dsimp only;omega) (by simp))
theorem z62 {id status now:Int} {data:List UInt8} (hd:data.length≤4096):Good (z0x id status data now):=fun F hF=>by
 unfold z0x
 split
 ·exact z1l hF
 ·split
  ·exact z1l hF
  ·exact z2D hF (.plain hF.ne (by unfold z0V;dsimp only;omega) (by dsimp only;omega) hd)
theorem z2d {op:List (Int × Opn)} {p:Int × Int}:isOf op p=true↔∃ x∈op,x.2.kind=p.1∧x.2.id=p.2:=by
 simp [isOf]
theorem z4I {op:List (Int × Opn)} {kind id:Int} (h:isOf op (kind,id)=true):∃ o,(z2r op kind id,o)∈op∧o.kind=kind∧o.id=id:=by
 unfold z2r
 cases hf:op.find? fun x=>x.2.kind==kind && x.2.id==id with
 | none =>
  rw [List.find?_eq_none] at hf
  obtain ⟨x,hx,h1,h2⟩:=z2d.1 h
  exact absurd (by simp [h1,h2]) (hf x hx)
 | some x =>
  have h1:=List.find?_some hf
  have h2:=List.mem_of_find?_eq_some hf
  simp only [Bool.and_eq_true,beq_iff_eq] at h1
  exact ⟨x.2,h2,h1.1,h1.2⟩
theorem z50 {a b:Bool} (h:a=true↔b=true):a=b:=by cases a<;>cases b<;>simp_all
theorem z8J {F:FS} {d:Dec} {now:Int} (h:FI F) (hk:d.kind<5) (ht:takeB (isOf F.op) d=true) (hk1:1≤d.kind):∀ p,isOf (z0d F d now).1.op p=z37 (isOf F.op) d p:=by
 intro p
 have hnew:∀ v,lk (up F.op (atF F) v)=lk (up F.op (atF F) v):=fun _=>rfl
 have hfresh:lk F.op (atF F)=none:=by
  cases hx:lk F.op (atF F) with
  | none=>rfl
  | some v=>have:=(h.keys _ (z0K hx)).2.1;unfold atF at this;simp only at this;omega
 have hadd:∀ (K:Int) (w:Int),isOf (up F.op (atF F) ⟨K,d.id,w⟩) p=(decide (p=(K,d.id)) || isOf F.op p):=fun K w=>by
  rw [up_new hfresh]
  simp only [isOf,List.any_append,List.any_cons,List.any_nil,Bool.or_false]
  rw [Bool.or_comm]
  congr 1
  refine z50 ?_
  rcases p with ⟨p1,p2⟩
  simp only [Bool.and_eq_true,beq_iff_eq,decide_eq_true_eq,Prod.mk.injEq]
  exact ⟨fun ⟨a,b⟩=>⟨a.symm,b.symm⟩,fun ⟨a,b⟩=>⟨a.symm,b.symm⟩⟩
 have hkk:d.kind=1∨d.kind=2∨d.kind=3∨d.kind=4:=by omega
 rcases hkk with e | e | e | e
 ·simp only [z0d,z37,e,z2t]
  exact hadd 7 0
 ·simp only [z0d,z37,e,z2t]
  exact hadd 12 0
 ·have e3:takeB (isOf F.op) d=isOf F.op (12,d.id):=by simp [takeB,e]
  rw [e3] at ht
  obtain ⟨o,ho,h1,h2⟩:=z4I ht
  simp only [z0d,z37,e,show ¬ (3:Int)=1 by decide,show ¬ (3:Int)=2 by decide,show ¬ (3:Int)=4 by decide,if_false,if_true]
  have:(putF F ⟨14,now,z2r F.op 12 d.id,d.id,d.list,d.n,d.data⟩).op=rm F.op (z2r F.op 12 d.id):=rfl
  rw [this]
  refine z50 ?_
  rw [z2d]
  constructor
  ·rintro ⟨x,hx,hx1,hx2⟩
   obtain ⟨hx,hxn⟩:=zcv h.nodup hx
   split
   ·rename_i hp
    subst hp
    exact absurd (congrArg Prod.fst (h.uniq _ hx _ ho (hx1.trans h1.symm) (hx2.trans h2.symm))) hxn
   ·exact z2d.2 ⟨x,hx,hx1,hx2⟩
  ·intro hp
   split at hp
   ·cases hp
   ·rename_i hpn
    obtain ⟨x,hx,hx1,hx2⟩:=z2d.1 hp
    refine ⟨x,zgT hx fun e=>hpn ?_,hx1,hx2⟩
    have hxx:=z5I h.nodup (show (x.1,x.2)∈F.op from hx)
    rw [e,z5I h.nodup ho] at hxx
    injection hxx with hxx
    rw [← hxx] at hx1 hx2
    rcases p with ⟨p1,p2⟩
    simp only at hx1 hx2
    rw [← hx1,← hx2,h1,h2]
 ·simp only [z0d,z37,e,z2t]
  exact hadd 17 0
theorem z0L {d:Dec} (h:mayF d=true):1≤d.kind∧d.kind≤8∧d.data.length≤4096∧(d.kind=1∨d.kind=4∨d.kind=2→1≤d.n∧d.n≤1048576)∧(¬ (d.kind=1∨d.kind=4∨d.kind=2)→d.n=0)∧0≤d.id∧d.id≤1048576:=by
 unfold mayF z2o at h
 simp only [Bool.and_eq_true,Bool.or_eq_true,decide_eq_true_eq,beq_iff_eq,Bool.not_eq_true',Bool.or_eq_false_iff,beq_eq_false_iff_ne] at h
 obtain ⟨⟨⟨⟨⟨⟨⟨⟨⟨h1,h2⟩,h3⟩,h4⟩,h5⟩,h6⟩,h7⟩,h8⟩,h9⟩,h10⟩:=h
 have h7':0≤d.id∧d.id≤1048576:=by simpa [numB] using h7
 refine ⟨h1,h2,h10,fun hk=>?_,fun hk=>?_,h7'⟩
 ·rcases h9 with h9 | h9
  ·omega
  ·exact h9
 ·omega
theorem z3r (F:FS) (d:Dec) (now:Int):(z0d F d now).1.l.length=F.l.length+1∧(z0d F d now).1.l≠[]∧(z0d F d now).1.id=F.id∧(z0d F d now).1.run=F.run:=by
 unfold z0d z0J
 repeat' split
 all_goals exact ⟨z0r _ _,z1W _ _,(z1g _ _).1,(z1g _ _).2⟩
theorem FI.done {F:FS} {d:Dec} {now:Int} (h:FI F) (hl:F.l≠[]) (hm:mayF d=true) (ht:takeB (isOf F.op) d=true):FI (z0d F d now).1:=by
 obtain ⟨h1,h2,h3,h4,h5,hid0⟩:=z0L hm
 have hnew:d.kind=1∨d.kind=2∨d.kind=4→∀ x∈F.op,x.2.kind=z2t d.kind→x.2.id=d.id→False:=fun hk x hx e1 e2=>by
  have:takeB (isOf F.op) d = !isOf F.op (z2t d.kind,d.id):=by
   unfold takeB
   rw [if_neg (by omega),if_pos hk]
  rw [this,z2d.2 ⟨x,hx,e1,e2⟩] at ht
  cases ht
 unfold z0d
 split
 ·rename_i e
  have hn:=hnew (.inl e)
  rw [e] at hn
  refine h.put (e:=⟨7,now,0,d.id,d.list,d.n,d.data⟩) ⟨by dsimp only;omega,h3,fun e=>absurd e hl,?_,?_,fun _=>hn,?_,fun _=>hid0⟩
  ·intro e;simp at e
  ·intro e;simp at e
  ·intro e;simp at e
 split
 ·rename_i e
  have hn:=hnew (.inr (.inl e))
  rw [e] at hn
  refine h.put (e:=⟨12,now,0,d.id,d.list,d.n,d.data⟩) ⟨by dsimp only;omega,h3,fun e=>absurd e hl,?_,?_,fun _=>hn,?_,fun _=>hid0⟩
  ·intro e;simp at e
  ·intro e;simp at e
  ·intro e;simp at e
 split
 ·rename_i e
  have hn:=hnew (.inr (.inr e))
  rw [e] at hn
  refine h.put (e:=⟨17,now,0,d.id,d.list,d.n,d.data⟩) ⟨by dsimp only;omega,h3,fun e=>absurd e hl,?_,?_,fun _=>hn,?_,fun _=>hid0⟩
  ·intro e;simp at e
  ·intro e;simp at e
  ·intro e;simp at e
 split
 ·exact h.put (e:=⟨14,now,z2r F.op 12 d.id,d.id,d.list,d.n,d.data⟩) (.plain hl (by unfold z0V;dsimp only;omega) (by dsimp only;omega) h3)
 ·refine h.close hl ?_ h3
  unfold z2X
  repeat' split
  all_goals omega
theorem z9z {now:Int}:∀ (l:List Dec) (F:FS) (os:List Out),FI F→F.l≠[]→badL F.id F.asked (isOf F.op) l=false →
  FI (z0n now (F,os) l).1∧(z0n now (F,os) l).1.l≠[]∧(z0n now (F,os) l).1.l.length=F.l.length+l.length∧(z0n now (F,os) l).1.id=F.id∧(z0n now (F,os) l).1.run=F.run
 | [],F,os,h,hl,_=>⟨h,hl,rfl,rfl,rfl⟩
 | d::r,F,os,h,hl,hb=>by
  simp only [badL,z2j,Bool.or_eq_false_iff,Bool.and_eq_false_iff,Bool.not_eq_false',decide_eq_false_iff_not] at hb
  obtain ⟨⟨⟨⟨⟨hm,h5⟩,ht⟩,_⟩,_⟩,hb⟩:=hb
  have hd:=h.done hl hm ht (now:=now)
  obtain ⟨e1,e2,e3,e4⟩:=z3r F d now
  simp only [z0n]
  by_cases hk:d.kind<5
  ·have hask:(z0d F d now).1.asked=F.asked:=by
    have hh:=(z0L hm).1
    have hkk:d.kind=1∨d.kind=2∨d.kind=3∨d.kind=4:=by omega
    rcases hkk with e | e | e | e<;>simp only [z0d,e]<;>rfl
   have his:isOf (z0d F d now).1.op=z37 (isOf F.op) d:=funext fun p=>z8J h hk ht (z0L hm).1 p
   rw [← his,← hask,← e3] at hb
   obtain ⟨a,b,c,c4,c5⟩:=z9z r (z0d F d now).1 (os++(z0d F d now).2) hd e2 hb
   refine ⟨a,b,?_,c4.trans e3,c5.trans e4⟩
   rw [c,e1];simp only [List.length_cons];omega
  ·have:r=[]:=by
    rcases h5 with h5 | h5
    ·omega
    ·simpa using h5
   subst this
   exact ⟨hd,e2,by simp only [z0n,e1];simp,e3,e4⟩
theorem z8G {ref turn now:Int} {l:List Dec}:Good (z1p ref turn l now):=fun F hF=>by
 have hlen:=hF.len
 have fault:∀ n,0≤n→n≤10→FI (z0y F n now).1∧(z0y F n now).1.l≠[]∧(z0y F n now).1.l.length≤F.l.length+200∧(z0y F n now).1.id=F.id∧(z0y F n now).1.run=F.run:=fun n h0 h1=>by
  have hp:z3p F ⟨6,now,F.begun,0,0,n,[]⟩:=.plain hF.ne (by unfold z0V;dsimp only;omega) (by dsimp only;omega) (by simp)
  have e1:=z0r F ⟨6,now,F.begun,0,0,n,[]⟩
  refine ⟨(hF.i.put hp).schedule (z1W _ _) (by omega),z1W _ _,?_,?_,?_⟩
  ·simp only [z0y,z07,z0r];omega
  ·simp only [z0y,z07,(z1g _ _).1]
  ·simp only [z0y,z07,(z1g _ _).2]
 unfold z1p
 split
 ·exact z1l hF
 split
 ·exact fault 1 (by decide) (by decide)
 rename_i hbad
 split
 ·exact fault 2 (by decide) (by decide)
 have hp:z3p F ⟨4,now,F.begun,0,0,0,[]⟩:=.plain hF.ne (by unfold z0V;dsimp only;omega) (by dsimp only;omega) (by simp)
 have hF4:=hF.i.put hp
 have hb:badL F.id F.asked (isOf F.op) l=false∧l.length≤32:=by
  unfold badF at hbad
  simp only [Bool.or_eq_true,decide_eq_true_eq,not_or,Bool.not_eq_true] at hbad
  exact ⟨hbad.2,by omega⟩
 obtain ⟨a,b,c,d4,d5⟩:=z9z (now:=now) l (putF F ⟨4,now,F.begun,0,0,0,[]⟩) [] hF4 (z1W _ _) (by
  have e:badL (putF F ⟨4,now,F.begun,0,0,0,[]⟩).id (putF F ⟨4,now,F.begun,0,0,0,[]⟩).asked (isOf (putF F ⟨4,now,F.begun,0,0,0,[]⟩).op) l=badL F.id F.asked (isOf F.op) l:=rfl
  rw [e];exact hb.1)
 rw [z0r] at c
 rw [(z1g _ _).1] at d4
 rw [(z1g _ _).2] at d5
 split
 ·refine ⟨a.schedule b (by omega),z1W _ _,?_,?_,?_⟩
  ·simp only [ok,z07,z0r,c];omega
  ·simp only [ok,z07,(z1g _ _).1,d4]
  ·simp only [ok,z07,(z1g _ _).2,d5]
 ·exact ⟨a,b,by simp only [ok,c];omega,d4,d5⟩
theorem FOk.new {id run list n now:Int} {data:List UInt8} {F:FS} {os:List Out} (h:newF id run list n data now=some (F,os)):FOk F∧F.id=id∧F.run=run∧F.l.length=2:=by
 unfold newF at h
 split at h
 ·rename_i hc
  simp only [Bool.and_eq_true,numB,z2o,z1L,decide_eq_true_eq] at hc
  obtain ⟨⟨⟨⟨h1,h2⟩,h3⟩,h4⟩,h5⟩:=hc
  injection h with h
  have hf:FI (f0 id run):=⟨fun x hx=>(by cases hx),List.nodup_nil,fun x hx=>(by cases hx),fun x hx=>(by cases hx),by simp [f0],fun x hx=>(by cases hx),fun h=>absurd rfl h,by simp [f0],fun x hx=>(by cases hx)⟩
  have h1':FI (putF (f0 id run) ⟨1,now,0,0,list,n,data⟩):=hf.put ⟨by dsimp only;omega,h5.1.1.1,fun _=>rfl,fun _=>h4.1,fun e=>by simp at e,fun e=>by simp at e,fun e=>by simp at e,fun e=>by simp at e⟩
  have h2':=h1'.schedule (now:=now) (z1W _ _) (by rw [z0r];simp [f0])
  rw [h] at h2'
  have e1:F=(z07 (putF (f0 id run) ⟨1,now,0,0,list,n,data⟩) now).1:=by rw [h]
  refine ⟨⟨h2',?_,?_,?_,?_⟩,?_,?_,?_⟩
  ·rw [e1];exact z1W _ _
  ·rw [e1];simp [z07,z0r,f0]
  ·rw [e1];simp only [z07,(z1g _ _).1,f0];exact h1
  ·rw [e1];simp only [z07,(z1g _ _).2,f0];exact h2
  ·rw [e1];simp only [z07,(z1g _ _).1,f0]
  ·rw [e1];simp only [z07,(z1g _ _).2,f0]
  ·rw [e1];simp [z07,z0r,f0]
 ·cases h
end Go.Proofs.YtniknicnnaiilaaGreat
end
