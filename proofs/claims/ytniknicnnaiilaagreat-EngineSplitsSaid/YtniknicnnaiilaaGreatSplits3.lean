/- Lemmas of the engine. -/
import Derived.Deep.AppendLies
import Derived.Deep.Cut
import Derived.Laws.Closers25b
import Derived.LoopIn
import Derived.LoopNIn
import Derived.Maps.AppendAt
import Derived.OwnWalkIn
import Derived.RangeFuncBound
import Derived.RangeFuncCalls
import Derived.RangeFuncLeaves
import Derived.RangeFuncNested
import Derived.RangeFuncOwn
import Derived.Shelf.Abstract
import Derived.Shelf.RegionOpen
import Derived.TacticsInMore
import Derived.WalkKit
import Derived.Test.YtniknicnnaiilaaGreatX06
import Derived.Test.YtniknicnnaiilaaGreatX10
import Derived.Test.YtniknicnnaiilaaGreatX16
import Derived.Test.YtniknicnnaiilaaGreatX22
import Derived.Test.YtniknicnnaiilaaGreatX30
import Derived.Test.YtniknicnnaiilaaGreatSplits2
section
namespace Go.Proofs.YtniknicnnaiilaaGreat
set_option maxRecDepth 100000
open Go.RowKit Go.Ext Go.BigFrame Go.Maps Go.MapKept
attribute [local go_sem] Ext.cell Ext.frozen Ext.lt Ext.le s1 s2 s3 s4 s5 s6 t1 t2 t3 t4 t5 t6
attribute [local go_sem ↓] Go.wp_at_zero Go.wp_at_succ
def b8 (x:Int):UInt8:=UInt8.ofNat x.toNat
theorem zba {x:Int} (h:0≤x∧x≤255):((b8 x).toNat:Int)=x:=by
 unfold b8
 rw [UInt8.toNat_ofNat']
 omega
def encU (x:Int):List UInt8:=if 128≤x then b8 (bits .or .u8 (x % 256) 128)::encU (x / 128) else [b8 (x % 256)]
termination_by x.toNat
decreasing_by omega
def encI (v:Int):List UInt8:=encU (bits .xor .u64 (IntKind.u64.wrap (IntKind.u64.wrap v * 2)) (IntKind.u64.wrap (v / 9223372036854775808)))
theorem z9F:∀ (n:Nat) (x:Int),x<128 ^ (n+1)→(encU x).length≤n+1
 | 0,x,h=>by
  rw [encU,if_neg (by omega)]
  simp
 | n+1,x,h=>by
  rw [encU]
  split
  ·have:=z9F n (x / 128) (by
    rw [Int.pow_succ] at h
    omega)
   simp only [List.length_cons]
   omega
  ·simp
theorem z52 (v:Int):(encI v).length≤10:=z9F 9 _ (by
 have:=(bits_within .xor .u64 (IntKind.u64.wrap (IntKind.u64.wrap v * 2)) (IntKind.u64.wrap (v / 9223372036854775808))).2
 have h:IntKind.u64.max=18446744073709551615:=by decide
 omega)
def z1A (l:List Int):List UInt8:=l.flatMap encI
theorem z0Y (l:List Int):(z1A l).length≤10 * l.length:=by
 induction l with
 | nil=>simp [z1A]
 | cons x r ih =>
  have:=z52 x
  simp only [z1A,List.flatMap_cons,List.length_append,List.length_cons] at ih ⊢
  omega
theorem zbB (l m:List Int):z1A (l++m)=z1A l++z1A m:=by simp [z1A]
def encB (d:List UInt8):List UInt8:=encI d.length++d
def Wr (w:World) (S:Bl) (b:Nat) (bs:List UInt8):Prop:=∃ v,w.heap[b]?=some (.cells #[v] 153 (0,0))∧w.ownsRow 0 5 1 v bs.length (bc bs)∧S b∧∀ k,v.ownBlock=some k→S k
def zb5 (S:Bl) (b:Nat) (bs:List UInt8) (w:World) (e:Ending) (w':World):Prop:=e=.returned (.pointer (some ⟨b,0,none⟩))∧∃ S',Wr w' S' b bs∧Up S w S' w'
theorem z58 (w:World):Calls Tryz.prog 50 #[] w (fun e w'=>e=.returned (.pointer (some ⟨w.heap.size,0,none⟩))∧w'=w.alloc (.cells #[.slice none 0 0] 153)):=by
 go_enter Tryz.func50,Tryz.ntmps50
 go_wp2_with fail
 go_ret
 exact ⟨rfl,rfl⟩
theorem Wr.new (w:World):Wr (w.alloc (.cells #[.slice none 0 0] 153)) (fun k=>k=w.heap.size) w.heap.size [] :=
 ⟨_,heap_alloc_new w _,World.ownsRow_nil ..,rfl,fun k e=>by cases e⟩
theorem Wr.gr {w w':World} {S:Bl} {b:Nat} {bs:List UInt8} (h:Wr w S b bs) (g:Gr w w'):Wr w' S b bs:=by
 obtain ⟨v,h1,h2,h3,h4⟩:=h
 exact ⟨v,(g.block _ (block_lt h1)).trans h1,z3S h2 g,h3,h4⟩
theorem z78 {w:World} {B e n:Nat} {size:Nat} {v:Value} {xs:List Value} {b t:Nat} {cs:Array Value} (h:w.ownsRow B e size v n xs) (hb:w.heap[b]?=some (.cells cs t (0,0))) (ht:t≠e):v.ownBlock≠some b:=fun he=>by
 rcases h.2 with ⟨rfl,_⟩ | ⟨g',cap,cur,rfl,_,hh,_⟩
 ·simp [Value.ownBlock] at he
 ·simp [Value.ownBlock] at he
  subst he
  rw [hb] at hh
  injection hh with hh
  injection hh with _ e1 _
  exact ht e1
theorem Wr.grow {w w1:World} {S:Bl} {b n:Nat} {u v':Value} {xs:List Value} {bs':List UInt8} (h1:w.heap[b]?=some (.cells #[u] 153 (0,0))) (h2:w.ownsRow 0 5 1 u n xs) (h3:S b) (h4:∀ k,u.ownBlock=some k→S k)
  (hg:w.grownBy w1 u.ownBlock) (ho:w1.ownsRow 0 5 1 v' bs'.length (bc bs')) (hat:v'.ownBlock=u.ownBlock∨v'.ownBlock=some w.heap.size) :
  w1.heap[b]?=some (.cells #[u] 153 (0,0))∧Wr (w1.setCell ⟨b,0,none⟩ v') (fun k=>S k∨w.heap.size≤k) b bs'∧Up S w (fun k=>S k∨w.heap.size≤k) (w1.setCell ⟨b,0,none⟩ v'):=by
 have hb1:w1.heap[b]?=some (.cells #[u] 153 (0,0)):=(hg.block b (block_lt h1) fun e=>z78 h2 h1 (by decide) e.symm).trans h1
 have hne:=z78 ho hb1 (by decide)
 have m1:Mod S w w1:=⟨hg.os,hg.tape,hg.output,hg.size,fun k hk hn=>hg.block k hk fun e=>hn (h4 k e.symm)⟩
 have m2:Mod S w (w1.setCell ⟨b,0,none⟩ v'):=m1.set (p:=⟨b,0,none⟩) (fun _=>h3) v'
 refine ⟨hb1,⟨v',?_,?_,.inl h3,fun k e=>?_⟩,m2,fun k hk e=>by
  rcases e with e | e
  ·exact e
  ·omega⟩
 ·rw [setCell_eq_setRow w1 b 0 #[u] 153 (0,0) v' hb1]
  exact setRow_heap w1 b _ _ 153 _ hb1
 ·exact z2J ho (((Gr.refl w1).mod (fun k=>k=b)).set (p:=⟨b,0,none⟩) (fun _=>rfl) v') fun k e hk=>hne (hk▸e)
 ·rcases hat with e1 | e1
  ·exact .inl (h4 k (e1▸e))
  ·rw [e1] at e
   injection e with e
   exact .inr (Nat.le_of_eq e)
set_option maxHeartbeats 4000000 in
theorem z9P (S:Bl) (b:Nat) (bs:List UInt8) (v:Int) (w:World) (h:Wr w S b bs) (hl:bs.length≤140737488355000) :
    Calls Tryz.prog 87 #[.pointer (some ⟨b,0,none⟩),.int .i64 v] w (zb5 S b (bs++encI v) w):=by
  obtain ⟨i0,hi0,hz0,hz1,hz2⟩:=info_parts zfl
  have HW:=hid h
  have HL:=hid hl
  have HV:=hid (z52 v)
  clear h hl
  go_enter Tryz.func87,Tryz.ntmps87
  go_wp2_with fail
  obtain ⟨z,hz⟩:∃ z,bits .xor .u64 (IntKind.u64.wrap (IntKind.u64.wrap v * 2)) (IntKind.u64.wrap (v / 9223372036854775808))=z:=⟨_,rfl⟩
  have HZ:=hid (show encI v=encU z by unfold encI;rw [hz])
  rw [hz]
  clear hz
  go_loopw [5] (fun xv wr=>∃ (x:Int) (S':Bl) (cs:List UInt8),xv=.int .u64 x∧Wr wr S' b cs∧Up S w S' wr∧cs++encU x=bs++encI v) (fun xv _=>(intOf xv).toNat)
  case atStart=>exact ⟨z,S,bs,rfl,HW.o,Up.refl _ _,by rw [HZ.o]⟩
  case round =>
    obtain ⟨x,S',cs,rfl,hwr,hup,henc⟩:=hrel
    obtain ⟨u,h1,h2,h3,h4⟩:=hwr
    have HUP:=hid hup
    have HLP:=hid (show cs.length≤bs.length+10 by
      have:=congrArg List.length henc
      have:=HV.o
      simp only [List.length_append] at *
      omega)
    rw [encU] at henc
    have b0:wr.cell? ⟨b,0,none⟩=some u:=by simp [World.cell?,h1]
    have lb:=block_lt h1
    obtain ⟨A,c,rfl,hc,hn⟩:=z1c h2
    by_cases hx:128≤x
    · rw [if_pos hx] at henc
      have H:=hid (And.intro h1 (And.intro h2 (And.intro h3 h4)))
      have HE:=hid henc
      clear h1 h2 h3 h4 hup henc hc hn
      obtain ⟨y,hy⟩:∃ y,bits .or .u8 (x % 256) 128=y:=⟨_,rfl⟩
      have HY:=hid (show 0≤y∧y≤255 from hy▸bits_within .or .u8 _ _)
      go_wp2_with (at_builtin
                   go_loud (refine wpList_append_own_at _ rfl _ _ 22 rfl 0 5 i0 _ 1 1 Tryz.underlying22 hi0 hz0 hz1 hz2 rfl (by decide) (.slice A cs.length c) cs.length (bc cs) rfl (z3S H.o.2.1 ((Gr.refl wr).alloc _)) ⟨wr.heap.size,0,none⟩ 1 1 [.int .u8 y] rfl rfl (cell_one_new _ _ _) (by simp [Value.oneCell']) (by have:=HLP.o;have:=HL.o;unfold maxLen;omega) (by have:=HLP.o;have:=HL.o;omega) (Nat.zero_le _) ?_)
                   intro v1 w1 hown1 hg1 _ hat1
                   have hown2:w1.ownsRow 0 5 1 v1 (cs++[b8 y]).length (bc (cs++[b8 y])):=(by have h8:=zba HY.o;simpa [bc,h8] using hown1)
                   have HG:=hid (Wr.grow (b:=b) (bs':=cs++[b8 y]) ((((Gr.refl wr).alloc (.cells #[.int .u8 y] 5)).block b lb).trans H.o.1) (z3S H.o.2.1 ((Gr.refl wr).alloc _)) H.o.2.2.1 H.o.2.2.2 hg1 hown2 hat1)
                   have f1:=z00 (j:=0) HG.o.1
                   have lb1:=block_lt HG.o.1
                   have b1:w1.cell? ⟨b,0,none⟩=some (.slice A cs.length c):=(by simp [World.cell?,HG.o.1])
                   obtain ⟨A1,c1,rfl,_,_⟩:=z1c hown1
                   clear hown1 hg1 hat1 hown2)
      go_roundw
      case rel =>
        obtain ⟨_,k1,k2⟩:=HG.o
        refine ⟨x / 128,_,cs++[b8 y],rfl,by simpa using k1,(HUP.o.gr ((Gr.refl wr).alloc _)).trans k2,?_⟩
        rw [List.append_assoc,List.singleton_append,← hy]
        exact HE.o
      case measure =>
        simp [intOf]
        omega
    · rw [if_neg hx] at henc
      have H:=hid (And.intro h1 (And.intro h2 (And.intro h3 h4)))
      have HE:=hid henc
      clear h1 h2 h3 h4 hup henc hc hn
      obtain ⟨y,hy⟩:∃ y,x % 256=y:=⟨_,rfl⟩
      have HY:=hid (show 0≤y∧y≤255 by omega)
      go_wp2_with (at_builtin
                   go_loud (refine wpList_append_own_at _ rfl _ _ 22 rfl 0 5 i0 _ 1 1 Tryz.underlying22 hi0 hz0 hz1 hz2 rfl (by decide) (.slice A cs.length c) cs.length (bc cs) rfl (z3S H.o.2.1 ((Gr.refl wr).alloc _)) ⟨wr.heap.size,0,none⟩ 1 1 [.int .u8 y] rfl rfl (cell_one_new _ _ _) (by simp [Value.oneCell']) (by have:=HLP.o;have:=HL.o;unfold maxLen;omega) (by have:=HLP.o;have:=HL.o;omega) (Nat.zero_le _) ?_)
                   intro v1 w1 hown1 hg1 _ hat1
                   have hown2:w1.ownsRow 0 5 1 v1 (cs++[b8 y]).length (bc (cs++[b8 y])):=(by have h8:=zba HY.o;simpa [bc,h8] using hown1)
                   have HG:=hid (Wr.grow (b:=b) (bs':=cs++[b8 y]) ((((Gr.refl wr).alloc (.cells #[.int .u8 y] 5)).block b lb).trans H.o.1) (z3S H.o.2.1 ((Gr.refl wr).alloc _)) H.o.2.2.1 H.o.2.2.2 hg1 hown2 hat1)
                   have f1:=z00 (j:=0) HG.o.1
                   have lb1:=block_lt HG.o.1
                   have b1:w1.cell? ⟨b,0,none⟩=some (.slice A cs.length c):=(by simp [World.cell?,HG.o.1])
                   obtain ⟨A1,c1,rfl,_,_⟩:=z1c hown1
                   clear hown1 hg1 hat1 hown2)
      go_ret
      obtain ⟨_,k1,k2⟩:=HG.o
      refine ⟨rfl,_,?_,(HUP.o.gr ((Gr.refl wr).alloc _)).trans k2⟩
      rw [← HE.o,hy]
      exact k1
set_option maxHeartbeats 4000000 in
theorem zcA (S:Bl) (b:Nat) (bs:List UInt8) (l:List Int) (A:Option Addr) (c:Nat) (w:World) (h:Wr w S b bs) (hr:RdM w S A (l.map (.int .i64))) (hl:bs.length+10 * l.length≤140737488354000) :
  Calls Tryz.prog 86 #[.pointer (some ⟨b,0,none⟩),.slice A l.length c] w (zb5 S b (bs++z1A l) w):=by
 have HW:=hid h
 have HR:=hid hr
 have HL:=hid hl
 obtain ⟨len,hn⟩:∃ n,l.length=n:=⟨_,rfl⟩
 have HN:=hid hn
 rw [hn]
 clear h hr hl hn
 go_enter Tryz.func86,Tryz.ntmps86
 go_wp2_with fail
 go_loopw [9] (fun iv wr=>∃ (i:Nat) (S':Bl),iv=.int .i64 i∧i≤len∧Wr wr S' b (bs++z1A (l.take i))∧Up S w S' wr) (fun iv _=>len-(intOf iv).toNat)
 case atStart=>exact ⟨0,S,rfl,Nat.zero_le _,by simpa [z1A] using HW.o,Up.refl _ _⟩
 case round =>
  obtain ⟨i,S',rfl,hi,hwr,hup⟩:=hrel
  have hib:i≤140737488354000:=by have:=HL.o;have:=HN.o;omega
  by_cases hlt:i<len
  ·have hlz:(i:Int)<(len:Int):=by omega
   obtain ⟨x,hx⟩:∃ x,l[i]?=some x:=⟨_,List.getElem?_eq_getElem (by rw [HN.o];exact hlt)⟩
   obtain ⟨b1,off,rfl,hM,hcell⟩:=(HR.o.up hup) (by intro e;have h1:=HN.o;rw [List.map_eq_nil_iff.1 e] at h1;simp at h1;omega)
   have hc1:=hcell i (.int .i64 x) (by simp [hx])
   have HWR:=hid (z9P S' b (bs++z1A (l.take i)) x wr hwr (by
    have h1:=z0Y (l.take i)
    have h2:=HL.o
    have h3:=HN.o
    simp only [List.length_append,List.length_take] at *
    omega))
   have HUP:=hid hup
   clear hwr hup hcell
   go_wp2_with fail
   refine HWR.o.mono ?_
   rintro en w2 ⟨rfl,S2,hw2,hu2⟩
   have HW2:=hid hw2
   have HU2:=hid hu2
   clear hw2 hu2
   go_wp2_with fail
   go_roundw
   case rel =>
    refine ⟨i+1,S2,by go_num,by omega,?_,HUP.o.trans HU2.o⟩
    have ht:l.take (i+1)=l.take i++[x]:=by
     rw [List.take_add_one,hx]
     rfl
    rw [ht,zbB,← List.append_assoc]
    have:z1A [x]=encI x:=by simp [z1A]
    rw [this]
    exact HW2.o
   case measure =>
    simp [intOf]
    omega
  ·have hlz:¬ (i:Int)<(len:Int):=by omega
   have HWR:=hid hwr
   have HUP:=hid hup
   clear hwr hup
   go_wp2_with fail
   go_ret
   refine ⟨rfl,S',?_,HUP.o⟩
   have ht:l.take i=l:=List.take_of_length_le (by rw [HN.o];omega)
   rw [ht] at HWR
   exact HWR.o
theorem z8e (S:Bl) (b:Nat) (bs:List UInt8) (l:List Int) (A:Option Addr) (c:Nat) (w:World) (h:Wr w S b bs) (hr:RdM w S A (l.map (.int .i64))) (hl:bs.length+10 * l.length≤140737488354000) :
  Calls Tryz.prog 51 #[.pointer (some ⟨b,0,none⟩),.slice A l.length c] w (zb5 S b (bs++z1A l) w):=by
 have HC:=hid (zcA S b bs l A c w h hr hl)
 generalize l.length=len at *
 clear h hr hl
 go_enter Tryz.func51,Tryz.ntmps51
 go_wp2_with fail
 refine HC.o.mono ?_
 rintro en w2 ⟨rfl,h2⟩
 have H2:=hid h2
 clear h2
 go_wp2_with fail
 go_ret
 exact ⟨rfl,H2.o⟩
set_option maxHeartbeats 4000000 in
theorem z5k (S:Bl) (b:Nat) (bs:List UInt8) (w:World) (h:Wr w S b bs) (hl:bs.length≤140737488351232):Calls Tryz.prog 56 #[.pointer (some ⟨b,0,none⟩)] w (RetB bs w):=by
 obtain ⟨v,h1,h2,h3,h4⟩:=h
 have HC:=hid (z0I v bs w (Bys.of_own h2 hl))
 have b0:w.cell? ⟨b,0,none⟩=some v:=by simp [World.cell?,h1]
 have lb:=block_lt h1
 obtain ⟨A,c,rfl,_,_⟩:=z1c h2
 generalize bs.length=len at *
 clear h1 h2 h3 h4 hl
 go_enter Tryz.func56,Tryz.ntmps56
 go_wp2_with fail
 refine HC.o.mono ?_
 rintro en w2 ⟨A2,c2,y2,rfl,rfl,h3,h4⟩
 have H3:=hid (And.intro h3 h4)
 clear h3 h4
 go_wp2_with fail
 go_ret
 exact ⟨A2,c2,y2,rfl,rfl,H3.o⟩
theorem z6F (A:Option Addr) (n c:Nat) (ty:TypeId) (W:World) (h:n≤c):(Builtin.append_ #[22,22] ty #[.slice A n c,.slice none 0 0]).run Tryz.prog W=.ok (.slice A n c) W:=by
 have u:=Tryz.underlying22
 cases A<;>go_simp
set_option maxHeartbeats 4000000 in
theorem zak (S:Bl) (b:Nat) (bs d:List UInt8) (dv:Value) (w:World) (h:Wr w S b bs) (hd:BysM w S dv d) (hl:bs.length+10+d.length≤140737488354000) :
    Calls Tryz.prog 52 #[.pointer (some ⟨b,0,none⟩),dv] w (zb5 S b (bs++encB d) w):=by
  obtain ⟨i0,hi0,hz0,hz1,hz2⟩:=info_parts zfl
  have HC:=hid (z9P S b bs d.length w h (by omega))
  have HL:=hid hl
  have HD:=hid hd
  have HE:=hid (z52 d.length)
  obtain ⟨Ad,cd,rfl⟩:=hd.shape
  obtain ⟨dl,hdl⟩:∃ n,d.length=n:=⟨_,rfl⟩
  have HDL:=hid hdl
  rw [hdl] at HC HD ⊢
  clear h hd hl hdl
  go_enter Tryz.func52,Tryz.ntmps52
  go_wp2_with fail
  refine HC.o.mono ?_
  rintro en w2 ⟨rfl,S2,hw2,hu2⟩
  have HU:=hid hu2
  have hd2:=HD.o.up hu2
  obtain ⟨u,h1,h2,h3,h4⟩:=hw2
  have b0:w2.cell? ⟨b,0,none⟩=some u:=by simp [World.cell?,h1]
  have lb:=block_lt h1
  have fb:=z00 (j:=0) h1
  have H:=hid (And.intro h1 (And.intro h2 (And.intro h3 h4)))
  obtain ⟨cs,hcs⟩:∃ cs,bs++encI dl=cs:=⟨_,rfl⟩
  have HCS:=hid (show bs++encB d=cs++d by rw [← hcs];simp [encB,HDL.o])
  have HCL:=hid (show cs.length≤bs.length+10 by rw [← hcs,List.length_append];have:=HE.o;rw [HDL.o] at this;omega)
  rw [hcs] at H h2
  obtain ⟨A,c,rfl,hc,hn⟩:=z1c h2
  have HC2:=hid hc
  obtain ⟨Ad',cd',e,hdl2,hdr,hdn⟩:=hd2
  injection e with e1 e2 e3
  subst e1 e3
  clear e2
  have HDR:=hid hdr.rd
  have HDN:=hid hdn
  clear HC HD h1 h2 h3 h4 hu2 hcs hdr hdn hdl2 hc hn
  rcases Ad with _ | ad
  · obtain rfl:cd=0:=HDN.o rfl
    have hd0:d=[]:=by
      by_cases hb:d=[]
      · exact hb
      · obtain ⟨b',off,e,_⟩:=HDR.o (by simpa [bc] using hb)
        cases e
    obtain rfl:dl=0:=by rw [← HDL.o,hd0];rfl
    go_wp2_with (at_builtin;refine z2O _ rfl _ _ 22 22 rfl (.slice A cs.length c) (.slice none 0 0) rfl rfl (z6F _ _ _ _ _ HC2.o) ?_)
    go_ret
    refine ⟨rfl,S2,?_,HU.o.trans ⟨((Gr.refl w2).mod S2).set (p:=⟨b,0,none⟩) (fun _=>H.o.2.2.1) _,fun _ _ e=>e⟩⟩
    rw [HCS.o,hd0,List.append_nil]
    refine ⟨_,?_,z2J H.o.2.1 (((Gr.refl w2).mod (fun k=>k=b)).set (p:=⟨b,0,none⟩) (fun _=>rfl) _) (fun k e hk=>z78 H.o.2.1 H.o.1 (by decide) (hk▸e)),H.o.2.2.1,H.o.2.2.2⟩
    rw [setCell_eq_setRow w2 b 0 _ 153 (0,0) _ H.o.1]
    exact setRow_heap w2 b _ _ 153 _ H.o.1
  · go_wp2_with (at_builtin
                 go_loud (refine wpList_append_own_at _ rfl _ _ 22 rfl 0 5 i0 _ 1 1 Tryz.underlying22 hi0 hz0 hz1 hz2 rfl (by decide) (.slice A cs.length c) cs.length (bc cs) rfl H.o.2.1 ad dl cd (bc d) rfl (by rw [z7v,HDL.o];omega) HDR.o.add (zen d) (by have:=HCL.o;have:=HL.o;have:=HDL.o;unfold maxLen;omega) (by have:=HCL.o;have:=HL.o;have:=HDL.o;omega) (Nat.zero_le _) ?_)
                 intro v1 w1 hown1 hg1 _ hat1
                 have hown2:w1.ownsRow 0 5 1 v1 (cs++d).length (bc (cs++d)):=(by have h8:=HDL.o;simpa [bc,h8] using hown1)
                 have HG:=hid (Wr.grow (b:=b) (bs':=cs++d) H.o.1 H.o.2.1 H.o.2.2.1 H.o.2.2.2 hg1 hown2 hat1)
                 have f1:=z00 (j:=0) HG.o.1
                 have lb1:=block_lt HG.o.1
                 have b1:w1.cell? ⟨b,0,none⟩=some (.slice A cs.length c):=(by simp [World.cell?,HG.o.1])
                 obtain ⟨A1,c1,rfl,_,_⟩:=z1c hown1
                 clear hown1 hg1 hat1 hown2)
    go_ret
    obtain ⟨_,k1,k2⟩:=HG.o
    refine ⟨rfl,_,?_,HU.o.trans k2⟩
    rw [HCS.o]
    exact k1
structure Wn (w0 w:World) (S:Bl) (b:Nat) (bs:List UInt8):Prop where
 g:Gr w0 w
 r:Wr w S b bs
 s:∀ k,S k→w0.heap.size≤k
 lt:∀ k,S k→k<w.heap.size
 cl:∀ k,S k→∃ o,w.heap[k]?=some o∧o.isCells=true
def zde (w0:World) (S:Bl) (b:Nat) (bs:List UInt8) (w:World) (e:Ending) (w':World):Prop:=e=.returned (.pointer (some ⟨b,0,none⟩))∧∃ S',Wn w0 w' S' b bs∧Up S w S' w'
section
variable {w0 w w2:World} {S S':Bl} {b:Nat} {bs bs':List UInt8}
theorem Wn.gr (h:Wn w0 w S b bs) (g:Gr w w2):Wn w0 w2 S b bs:=⟨h.g.trans g,h.r.gr g,h.s,fun k e=>Nat.lt_of_lt_of_le (h.lt k e) g.size,fun k e=>by
 obtain ⟨o,h1,h2⟩:=h.cl k e
 exact ⟨o,(g.block k (h.lt k e)).trans h1,h2⟩⟩
theorem Wn.up (h:Wn w0 w S b bs):Up (fun _=>False) w0 S w:=⟨h.g.mod _,fun k hk e=>by have:=h.s k e;omega⟩
theorem Wn.step (h:Wn w0 w S b bs) (hw:Wr w2 S' b bs') (u:Up S w S' w2):∃ S'',Wn w0 w2 S'' b bs'∧Up S w S'' w2:=by
 obtain ⟨v,h1,h2,h3,h4⟩:=hw
 have hs:∀ k,k=b∨v.ownBlock=some k→S' k:=fun k e=>by
  rcases e with e | e
  ·exact e▸h3
  ·exact h4 k e
 refine ⟨fun k=>k=b∨v.ownBlock=some k,⟨z2c h.g u.mod h.s,⟨v,h1,h2,.inl rfl,fun k e=>.inr e⟩,fun k e=>?_,fun k e=>?_,fun k e=>?_⟩,u.mod,fun k hk e=>u.old k hk (hs k e)⟩
 ·by_cases hk:k<w.heap.size
  ·exact h.s k (u.old k hk (hs k e))
  ·have:=h.g.size
   omega
 ·rcases e with e | e
  ·exact e▸block_lt h1
  ·exact (h2.lt k e).2
 ·rcases e with e | e
  ·exact ⟨_,e▸h1,rfl⟩
  ·rcases h2.2 with ⟨e2,_⟩ | ⟨g,cap,cur,e2,_,hh,_⟩
   ·rw [e2] at e
    cases e
   ·rw [e2] at e
    injection e with e
    subst e
    exact ⟨_,hh,rfl⟩
theorem Wn.ret {e:Ending} (h:Wn w0 w S b bs) (hr:zb5 S b bs' w e w2):zde w0 S b bs' w e w2:=by
 obtain ⟨rfl,S',hw,hu⟩:=hr
 exact ⟨rfl,h.step hw hu⟩
theorem Wn.numbers' (h:Wn w0 w S b bs) {B:Nat} {t:TypeId} (l:List Int) (hB:w.heap[B]?=some (.cells (l.map (.int .i64)).toArray t (0,0))) (hn:¬ S B) (c:Nat) (hl:bs.length+10 * l.length≤140737488354000) :
  Calls Tryz.prog 51 #[.pointer (some ⟨b,0,none⟩),.slice (some ⟨B,0,none⟩) l.length c] w (zde w0 S b (bs++z1A l) w):=by
 refine (z8e S b bs l (some ⟨B,0,none⟩) c w h.r ?_ hl).mono fun e w3=>h.ret
 intro _
 refine ⟨B,0,rfl,hn,fun j u hj=>?_⟩
 simp only [World.cell?,hB,Nat.zero_add]
 simpa using hj
theorem Wn.numbers (h:Wn w0 w S b bs) (g:Gr w w2) {B:Nat} {t:TypeId} (l:List Int) (hB:w2.heap[B]?=some (.cells (l.map (.int .i64)).toArray t (0,0))) (hB2:w.heap.size≤B) (c:Nat) (hl:bs.length+10 * l.length≤140737488354000) :
  Calls Tryz.prog 51 #[.pointer (some ⟨b,0,none⟩),.slice (some ⟨B,0,none⟩) l.length c] w2 (zde w0 S b (bs++z1A l) w2) :=
 (h.gr g).numbers' l hB (fun e=>by have:=h.lt B e;omega) c hl
theorem Wn.bytes (h:Wn w0 w S b bs) (dv:Value) (d:List UInt8) (hd:BysM w S dv d) (hl:bs.length+10+d.length≤140737488354000) :
  Calls Tryz.prog 52 #[.pointer (some ⟨b,0,none⟩),dv] w (zde w0 S b (bs++encB d) w) :=
 (zak S b bs d dv w h.r hd hl).mono fun _ _=>h.ret
theorem Wn.new (g:Gr w0 w):Wn w0 (w.alloc (.cells #[.slice none 0 0] 153)) (fun k=>k=w.heap.size) w.heap.size [] :=
 ⟨g.alloc _,Wr.new w,fun k e=>by have:=g.size;omega,fun k e=>by simp [e],fun k e=>⟨_,e▸heap_alloc_new w _,rfl⟩⟩
end
theorem Wn.keeps {w0 w w2 w3:World} {S S':Bl} {b:Nat} {bs:List UInt8} (h:Wn w0 w S b bs) (g:Gr w w2) (u:Up S w2 S' w3):KeepsOthers w w3:=⟨Nat.le_trans g.size u.size,fun k o hk hc=>by
 have hlt:=block_lt hk
 have h2:=(g.block k hlt).trans hk
 refine (u.block (Nat.lt_of_lt_of_le hlt g.size) fun e=>?_).trans h2
 obtain ⟨o',h3,h4⟩:=h.cl k e
 rw [hk] at h3
 injection h3 with h3
 subst h3
 rw [hc] at h4
 cases h4⟩
theorem Wn.grown {w0 w w':World} {S:Bl} {b:Nat} {bs:List UInt8} {row:Option Nat} (h:Wn w0 w S b bs) (hg:w.grownBy w' row) (hr:∀ r,row=some r→w0.heap.size≤r∧∃ o:Obj,w.heap[r]?=some o∧o.isCells=false):Wn w0 w' S b bs:=by
 have hne:∀ k,S k→some k≠row:=fun k e e2=>by
  obtain ⟨_,o,h1,h2⟩:=hr k e2.symm
  obtain ⟨o',h3,h4⟩:=h.cl k e
  rw [h1] at h3
  injection h3 with h3
  subst h3
  rw [h2] at h4
  cases h4
 obtain ⟨v,h1,h2,h3,h4⟩:=h.r
 refine ⟨z39 h.g hg fun k e=>(hr k e).1,⟨v,(hg.block b (block_lt h1) (hne b h3)).trans h1,z2J (S:=fun k=>some k=row) h2 ⟨hg.os,hg.tape,hg.output,hg.size,fun k hk hn=>hg.block k hk hn⟩ fun k e=>hne k (h4 k e),h3,h4⟩,h.s,fun k e=>Nat.lt_of_lt_of_le (h.lt k e) hg.size,fun k e=>?_⟩
 obtain ⟨o,h5,h6⟩:=h.cl k e
 exact ⟨o,(hg.block k (h.lt k e) (hne k e)).trans h5,h6⟩
theorem z5H (w:World) (o:Obj):∃ w2,(w.alloc o).drew=w2∧Gr w w2∧w2.heap[w.heap.size]?=some o:=⟨_,rfl,((Gr.refl w).alloc _).drew,heap_alloc_new w o⟩
theorem z3u (w:World) (o:Obj):∃ w2,w.alloc o=w2∧Gr w w2∧w2.heap[w.heap.size]?=some o:=⟨_,rfl,(Gr.refl w).alloc _,heap_alloc_new w o⟩
theorem RetB.old {bs:List UInt8} {w0 w w2:World} {e:Ending} (g:Gr w0 w) (h:RetB bs w e w2):RetB bs w0 e w2:=by
 obtain ⟨A,c,y,rfl,rfl,h1,h2⟩:=h
 refine ⟨A,c,⟨y.val,g.trans y.gr⟩,rfl,rfl,h1,h2.1,?_⟩
 rcases h2.2 with h | ⟨g',cap,cur,h3,h4,h5⟩
 ·exact .inl h
 ·exact .inr ⟨g',cap,cur,h3,Nat.le_trans g.size h4,h5⟩
def EvAt (bx:Nat) (cs:Array Value) (W:World):Prop:=W.heap[bx]?=some (.cells cs 41 (0,0))
def zbx (e:Ev):List UInt8:=z1A [e.kind,e.tick,e.ref,e.id,e.list,e.n]++encB e.data
def z5m (l:List Ev):List UInt8:=l.flatMap zbx
def z7L (l:List Ev):List UInt8:=z1A [(l.length:Int)]++z5m l
theorem z6P (d:List UInt8):(encB d).length≤10+d.length:=by
 have:=z52 d.length
 simp only [encB,List.length_append]
 omega
theorem zby {e:Ev} (h:e.data.length≤4096):(zbx e).length≤4166:=by
 have h1:=z0Y [e.kind,e.tick,e.ref,e.id,e.list,e.n]
 have h2:=z6P e.data
 simp only [zbx,List.length_append,List.length_cons,List.length_nil] at *
 omega
theorem z5n:∀ {l:List Ev},(∀ e∈l,e.data.length≤4096)→(z5m l).length≤4166 * l.length
 | [],_=>by simp [z5m]
 | e::r,h=>by
  have h1:=zby (h e (List.mem_cons_self ..))
  have h2:=z5n (l:=r) fun x hx=>h x (List.mem_cons_of_mem _ hx)
  simp only [z5m,List.flatMap_cons,List.length_append,List.length_cons] at *
  omega
theorem zbz {l:List Ev} {i:Nat} {e:Ev} (h:l[i]?=some e):z5m (l.take (i+1))=z5m (l.take i)++zbx e:=by
 rw [List.take_add_one,h]
 simp [z5m]
theorem z5o {l:List Ev} (h:∀ e∈l,e.data.length≤4096):(z7L l).length≤10+4166 * l.length:=by
 have h1:=z0Y [(l.length:Int)]
 have h2:=z5n h
 simp only [z7L,List.length_append,List.length_cons,List.length_nil] at *
 omega
set_option maxHeartbeats 4000000 in
theorem zbA (A:Option Addr) (c:Nat) (l:List Ev) (w:World) (h:z08 evR w (fun _=>False) (.slice A l.length c) l) (hl:l.length≤100000) (hd:∀ e∈l,e.data.length≤4096) :
    Calls Tryz.prog 88 #[.slice A l.length c] w (RetB (z7L l) w):=by
  have HR:=hid h
  have HD:=hid hd
  obtain ⟨len,hn⟩:∃ n,l.length=n:=⟨_,rfl⟩
  have HN:=hid hn
  have HE:=hid (show z7L l=z1A [(len:Int)]++z5m l by rw [← hn];rfl)
  have HEL:=hid (z5o hd)
  rw [hn] at HR hl ⊢
  have H1:=hid (z0Y [(len:Int)])
  clear h hd hn
  go_enter Tryz.func88,Tryz.ntmps88
  go_wp2_with (first
    | (go_at_call 50
       refine (z58 _).mono ?_
       rintro en _ ⟨rfl,rfl⟩)
    | (go_at_call 51
       refine (Wn.numbers (Wn.new (Gr.refl w)) ((Gr.refl _).alloc (.cells #[.int .i64 len] 3)) (B:=w.heap.size+1) (t:=3) [(len:Int)] (by have:=heap_alloc_new (w.alloc (.cells #[.slice none 0 0] 153)) (.cells #[.int .i64 len] 3);simpa using this) (by simp) 1 (by simp)).mono ?_
       rintro en w2 ⟨rfl,S2,h2,-⟩
       rw [List.nil_append] at h2
       have H2:=hid h2
       clear h2))
  go_loopw [13] (fun iv wr=>∃ (i:Nat) (S:Bl),iv=.int .i64 i∧i≤len∧Wn w wr S w.heap.size (z1A [(len:Int)]++z5m (l.take i))) (fun iv _=>len-(intOf iv).toNat)
  case atStart=>exact ⟨0,S2,rfl,Nat.zero_le _,by simpa [z5m] using H2.o⟩
  case round =>
    obtain ⟨i,S,rfl,hi,hw⟩:=hrel
    have HW:=hid hw
    clear hw H2
    by_cases hlt:i<len
    · have hlz:(i:Int)<(len:Int):=by omega
      obtain ⟨e,he⟩:∃ e,l[i]?=some e:=⟨_,List.getElem?_eq_getElem (by rw [HN.o];exact hlt)⟩
      have HADD:=hid (zbz he)
      have HDE:=hid (HD.o e (List.mem_of_getElem? he))
      have HLI:=hid (show (z5m (l.take i)).length≤4166 * 100000 from Nat.le_trans (z5n fun x hx=>HD.o x (List.mem_of_mem_take hx)) (Nat.mul_le_mul_left _ (by rw [List.length_take];omega)))
      obtain ⟨b,off,A',c',rfl,hb,hdat,x0,x1,x2,x3,x4,x5,x6⟩:=z6S (HR.o.up HW.o.up) he
      have HDAT:=hid hdat
      rcases e with ⟨ek,et,er,ei,el,en_,ed⟩
      obtain ⟨dl,hdl⟩:∃ n,ed.length=n:=⟨_,rfl⟩
      have HDL:=hid hdl
      rw [hdl] at HDAT x6
      simp only at x0 x1 x2 x3 x4 x5 x6
      clear hdat he hdl
      go_upto_region 5 with fail
      obtain ⟨w1,hw1⟩:∃ w1,wr.alloc (.cells #[.int .i64 ek,.int .i64 et,.int .i64 er,.int .i64 ei,.int .i64 el,.int .i64 en_,.slice A' dl c'] 41)=w1:=⟨_,rfl⟩
      have HB1:=hid (hw1▸heap_alloc_new wr (.cells #[.int .i64 ek,.int .i64 et,.int .i64 er,.int .i64 ei,.int .i64 el,.int .i64 en_,.slice A' dl c'] 41))
      have G1:=hid (hw1▸(Gr.refl wr).alloc (.cells #[.int .i64 ek,.int .i64 et,.int .i64 er,.int .i64 ei,.int .i64 el,.int .i64 en_,.slice A' dl c'] 41))
      have NS:=hid (fun e=>Nat.lt_irrefl _ (HW.o.lt wr.heap.size e))
      rw [hw1]
      clear hw1 x0 x1 x2 x3 x4 x5 x6 hb
      generalize wr.heap.size=bx at *
      refine z01 [(0,false),(1,false),(2,false),(3,false),(4,false),(5,false),(6,false),(7,false),(8,false),(9,false),(10,false),(11,false),(12,false),(15,false),(16,false),(13,true),(14,true),(17,true)] (EvAt bx #[.int .i64 ek,.int .i64 et,.int .i64 er,.int .i64 ei,.int .i64 el,.int .i64 en_,.slice A' dl c']) (by kernel_rfl) (by kernel_rfl) (fun _ _ d _ _ h=>by cases d<;>exact h) HB1.o (fun _=>?_)
      iterate 15 (refine z03 (v:=?_) rfl (by rfl) ?_ ?_;rotate_left;(focus (intro W9 hW9;obtain ⟨x0,x1,x2,x3,x4,x5,x6⟩:=z6I hW9;have lx:=block_lt (show W9.heap[bx]?=_ from hW9);go_simp;(try with_reducible rfl);done));(try simp only [AP]))
      refine z05 rfl (by rfl) (fun K hK=>?_)
      go_simp
      refine hK.o (EvAt bx #[.int .i64 ek,.int .i64 et,.int .i64 er,.int .i64 ei,.int .i64 el,.int .i64 en_,.slice A' dl c']) _ _ ((((Gr.refl w1).alloc _).drew.block bx (block_lt HB1.o)).trans HB1.o) (fun _ h=>h) (fun _=>?_)
      clear hK K
      (try simp only [AP])
      obtain ⟨w2,hw2,g2,hb2⟩:=z5H w1 (.cells #[.int .i64 ek,.int .i64 et,.int .i64 er,.int .i64 ei,.int .i64 el,.int .i64 en_] 3)
      have G2:=hid g2
      have HB2:=hid hb2
      clear g2 hb2
      rw [hw2]
      clear hw2
      refine z05 rfl (by rfl) (fun K hK=>?_)
      go_simp
      go_at_call 51
      refine (Wn.numbers (HW.o.gr G1.o) G2.o (B:=w1.heap.size) (t:=3) [ek,et,er,ei,el,en_] HB2.o (Nat.le_refl _) 6 (by have h1:=H1.o;have h2:=HLI.o;simp only [List.length_append,List.length_cons,List.length_nil] at *;omega)).mono ?_
      rintro en w3 ⟨rfl,S3,h3,u3⟩
      have H3:=hid h3
      have HB3:=hid (show EvAt bx #[.int .i64 ek,.int .i64 et,.int .i64 er,.int .i64 ei,.int .i64 el,.int .i64 en_,.slice A' dl c'] w3 from (u3.block (Nat.lt_of_lt_of_le (block_lt HB1.o) G2.o.size) NS.o).trans ((G2.o.block bx (block_lt HB1.o)).trans HB1.o))
      have HDAT3:=hid (HDAT.o.up (((Gr.up G1.o S).gr G2.o).trans u3))
      clear h3 u3
      refine hK.o (EvAt bx #[.int .i64 ek,.int .i64 et,.int .i64 er,.int .i64 ei,.int .i64 el,.int .i64 en_,.slice A' dl c']) _ _ HB3.o (fun _ h=>h) (fun _=>?_)
      clear hK K
      (try simp only [AP])
      refine z06 rfl (by rfl) (fun K hK=>?_)
      go_simp
      go_at_call 52
      refine (Wn.bytes H3.o (.slice A' dl c') ed HDAT3.o (by have h1:=H1.o;have h2:=HLI.o;have h3:=z0Y [ek,et,er,ei,el,en_];have h4:=HDE.o;simp only [List.length_append,List.length_cons,List.length_nil] at *;omega)).mono ?_
      rintro en w4 ⟨rfl,S4,h4,-⟩
      have H4:=hid h4
      clear h4
      refine hK.o _ _ ?_
      clear hK K
      go_wp2_with fail
      go_roundw
      case rel =>
        refine ⟨i+1,S4,by go_num,by omega,?_⟩
        rw [HADD.o]
        have:=H4.o
        simpa [zbx,List.append_assoc] using this
      case measure =>
        simp [intOf]
        omega
    · have hlz:¬ (i:Int)<(len:Int):=by omega
      have HT:=hid (show l.take i=l from List.take_of_length_le (by rw [HN.o];omega))
      rw [HT.o,← HE.o] at HW
      have HC:=hid ((z5k S w.heap.size _ wr HW.o.r (by have h1:=HEL.o;have h2:=HN.o;omega)).mono fun _ _ h=>RetB.old HW.o.g h)
      go_wp2_with fail
      refine HC.o.mono ?_
      rintro en w3 ⟨A3,c3,y3,rfl,rfl,h3,h4⟩
      have H3:=hid (And.intro h3 h4)
      clear h3 h4
      go_wp2_with fail
      go_ret
      exact ⟨A3,c3,y3,rfl,rfl,H3.o⟩
end Go.Proofs.YtniknicnnaiilaaGreat
end
section
namespace Go.Proofs.YtniknicnnaiilaaGreat
set_option maxRecDepth 100000
open Go.RowKit Go.Ext Go.BigFrame Go.Maps Go.MapKept
attribute [local go_sem] Ext.cell Ext.frozen Ext.lt Ext.le s1 s2 s3 s4 s5 s6 t1 t2 t3 t4 t5 t6
attribute [local go_sem ↓] Go.wp_at_zero Go.wp_at_succ
open Go.Shelf
attribute [local go_sem] Oper.semAt_some
def allU (m:Rows) (i:Nat):List (Int × Task):=((z1j m).take i).flatMap fun x=>(rowOf m x).map fun t=>(x,t)
def allT (m:Rows):List (Int × Task):=(z1j m).flatMap fun x=>(rowOf m x).map fun t=>(x,t)
theorem zdh (m:Rows) {i:Nat} (h:(z1j m).length≤i):allU m i=allT m:=by
 unfold allU allT
 rw [List.take_of_length_le h]
theorem z9o {m:Rows} {i:Nat} {x:Int} (h:(z1j m)[i]?=some x):allU m (i+1)=allU m i++(rowOf m x).map fun t=>(x,t):=by
 unfold allU
 rw [List.take_add_one,h]
 simp
theorem zdi (m:Rows) (i:Nat):allU m i <+: allT m:=by
 have h:allT m=allU m i++((z1j m).drop i).flatMap fun x=>(rowOf m x).map fun t=>(x,t):=by
  unfold allT allU
  rw [← List.flatMap_append,List.take_append_drop]
 exact ⟨_,h.symm⟩
theorem zeK {m:Rows} {i j:Nat} {x:Int} {t:Task} (h:(z1j m)[i]?=some x) (ht:(rowOf m x)[j]?=some t):allU m i++((rowOf m x).take j).map (fun t=>(x,t))++[(x,t)] <+: allT m:=by
 refine List.IsPrefix.trans ?_ (zdi m (i+1))
 rw [z9o h,List.append_assoc]
 refine (List.prefix_append_right_inj _).2 ?_
 have:((rowOf m x).take j).map (fun t=>(x,t))++[(x,t)]=((rowOf m x).take (j+1)).map (fun t=>(x,t)):=by
  rw [List.take_add_one,ht]
  simp
 rw [this]
 exact (List.take_prefix _ _).map _
def Kq (lo hi:Nat) (W W':World):Prop:=Mod (fun b=>b<lo∨hi≤b) W W'
theorem Kq.trans {lo hi:Nat} {A B C:World} (h:Kq lo hi A B) (k:Kq lo hi B C):Kq lo hi A C:=Mod.trans h k fun _ _ e=>e
theorem kq_b {lo hi:Nat} {w:World} (hn:hi≤w.heap.size) (W:World) (l:Nat) (o o':Obj) (hl:w.heap.size≤l) (_:W.heap[l]?=some o) (_:o.isCells=false) (_:o.isWalk=false):Kq lo hi W (W.putObj l o') :=
 ⟨rfl,rfl,rfl,by simp,fun k _ hk=>World.putObj_heap_other fun e=>hk (.inr (by omega))⟩
structure AllR (w:World) (lo hi Bn Bw:Nat) (m:Rows):Prop where
 bn:lo≤Bn∧Bn<hi
 bw:lo≤Bw∧Bw<hi
 top:hi≤w.heap.size
 names:∃ An cn,w.heap[Bn]?=some (.cells #[.slice An (z1j m).length cn] 56 (0,0))∧RdM w (fun b=>b<lo∨hi≤b) An ((z1j m).map (.int .i64))
 was:∃ mw kv,(lo≤mw∧mw<hi)∧w.heap[Bw]?=some (.cells #[.map (some mw)] 133 (0,0))∧MI w mw kv∧∀ x∈z1j m,∃ A c,lk kv x=some (.slice A (rowOf m x).length c)∧RdM w (fun b=>b<lo∨hi≤b) A (tksC (rowOf m x))
theorem AllR.kq {w w':World} {lo hi Bn Bw:Nat} {m:Rows} (h:AllR w lo hi Bn Bw m) (k:Kq lo hi w w'):AllR w' lo hi Bn Bw m:=by
 have u:Up (fun b=>b<lo∨hi≤b) w (fun b=>b<lo∨hi≤b) w':=⟨k,fun _ _ e=>e⟩
 have hb:∀ b,lo≤b→b<hi→w'.heap[b]?=w.heap[b]?:=fun b h1 h2=>k.block b (by have:=h.top;omega) (by omega)
 obtain ⟨An,cn,h1,h2⟩:=h.names
 obtain ⟨mw,kv,h3,h4,h5,h6⟩:=h.was
 refine ⟨h.bn,h.bw,Nat.le_trans h.top k.size,⟨An,cn,(hb _ h.bn.1 h.bn.2).trans h1,h2.up u⟩,mw,kv,h3,(hb _ h.bw.1 h.bw.2).trans h4,h5.keep (hb _ h3.1 h3.2),fun x hx=>?_⟩
 obtain ⟨A,c,h7,h8⟩:=h6 x hx
 exact ⟨A,c,h7,h8.up u⟩
theorem AllR.look {w:World} {lo hi Bn Bw:Nat} {m:Rows} (h:AllR w lo hi Bn Bw m) {i:Nat} {x:Int} (hx:(z1j m)[i]?=some x) :
  ∃ A c mw,w.cell? ⟨Bw,0,none⟩=some (.map (some mw))∧(Instr.lookup 133 (.map (some mw)) (.int .i64 x) false).run Tryz.prog w=.ok (.slice A (rowOf m x).length c) w∧RdM w (fun b=>b<lo∨hi≤b) A (tksC (rowOf m x)):=by
 obtain ⟨mw,kv,h3,h4,h5,h6⟩:=h.was
 obtain ⟨A,c,h7,h8⟩:=h6 x (List.mem_of_getElem? hx)
 refine ⟨A,c,mw,by simp [World.cell?,h4],?_,h8⟩
 have hrun:=h5.lookup (P:=Tryz.prog) Tryz.underlying133 Tryz.underlying3 (zdc w) x false
 rw [h7] at hrun
 exact hrun
theorem zd3:∀ {l:List Task} {j:Nat} {t:Task},l[j]?=some t→∀ q v,(tkC t)[q]?=some v→(tksC l)[j * 4+q]?=some v
 | [],j,t,h,q,v,hq=>by simp at h
 | a::r,0,t,h,q,v,hq=>by
  simp only [List.getElem?_cons_zero,Option.some.injEq] at h
  subst h
  have hl:q<(tkC a).length:=(List.getElem?_eq_some_iff.1 hq).1
  rw [Nat.zero_mul,Nat.zero_add]
  simp only [tksC,List.flatMap_cons]
  rw [List.getElem?_append_left hl]
  exact hq
 | a::r,j+1,t,h,q,v,hq=>by
  have ih:=zd3 (l:=r) (j:=j) (t:=t) (by simpa using h) q v hq
  have hl:(tkC a).length=4:=rfl
  simp only [tksC,List.flatMap_cons] at ih ⊢
  rw [List.getElem?_append_right (by rw [hl];omega),hl,show (j+1) * 4+q-4=j * 4+q by omega]
  exact ih
def encT (x:Int × Task):Array Value:=#[.int .i64 x.1,tkV x.2]
set_option maxHeartbeats 4000000 in
theorem zeJ (n:Nat) (hn:1≤n) (l lo hi Bn Bw:Nat) (m:Rows) (hm:m.length≤2000000) (J Jx:List (Int × Task)→World→Prop)
  (hY:∀ pre x W,J pre W→pre.length<(allT m).length→YieldAt Fence.wide (n-1) Tryz.prog l (encT x) W fun e W' =>
   (e=.returned (.bool true)∧J (pre++[x]) W'∧Kq lo hi W W')∨(e=.returned (.bool false)∧Jx (pre++[x]) W'))
  (hJ:∀ pre W o,J pre W→J pre (W.alloc o)) (W:World) (hA:AllR W lo hi Bn Bw m) (h0:J [] W) (hrow:∀ x,(rowOf m x).length≤100000) :
  CallsIn Fence.wide n Tryz.prog 130 #[.func (.yield l) #[] #[],.pointer (some ⟨Bn,0,none⟩),.pointer (some ⟨Bw,0,none⟩)] W fun e W'=>(∃ v,e=.returned v) ∧
   (J (allT m) W'∨(∃ pre,pre <+: allT m∧Jx pre W')):=by
 obtain ⟨An,cn,hN1,hN2⟩:=hA.names
 have hkl:(z1j m).length=m.length:=by unfold z1j;rw [List.length_mergeSort,List.length_map]
 obtain ⟨len,hlen⟩:∃ k,(z1j m).length=k:=⟨_,rfl⟩
 have HLEN:=hid hlen
 have hl2:len≤2000000:=by omega
 rw [hlen] at hN1
 have c0:W.cell? ⟨Bn,0,none⟩=some (.slice An len cn):=by simp [World.cell?,hN1]
 have hlb:=block_lt hN1
 have HA:=hid hA
 have HJ0:=hid h0
 have HN2:=hid hN2
 clear hA h0 hN1 hN2 hkl hlen
 refine callsIn_of_wp Tryz.func130 rfl trivial ?_ rfl
 simp only [Tryz.ntmps130,List.size_toArray,List.length_cons,List.length_nil,Nat.reduceAdd,Nat.reduceSub,Array.replicate_succ,Array.replicate_zero,List.push_toArray,List.append_toArray,List.nil_append,List.cons_append]
 gi_wp2
 gi_loopw [10] (fun iv wr=>∃ i:Nat,iv=.int .i64 i∧i≤len∧J (allU m i) wr∧AllR wr lo hi Bn Bw m∧RdM wr (fun b=>b<lo∨hi≤b) An ((z1j m).map (.int .i64))) (fun iv _=>len-(intOf iv).toNat)
 case atStart=>exact ⟨0,rfl,Nat.zero_le _,by simpa [allU] using HJ0.o,HA.o,HN2.o⟩
 case round =>
  obtain ⟨i,rfl,hil,hj,ha,hr⟩:=hrel
  have HJ:=hid hj
  have HAR:=hid ha
  have HRN:=hid hr
  by_cases hlt:i<len
  ·have hlz:(i:Int)<(len:Int):=by omega
   obtain ⟨x,hx⟩:∃ x,(z1j m)[i]?=some x:=⟨_,List.getElem?_eq_getElem (by rw [HLEN.o];exact hlt)⟩
   obtain ⟨bn,offn,rfl,hMn,hcn⟩:=hr (by intro e;have h1:=HLEN.o;rw [List.map_eq_nil_iff.1 e] at h1;simp at h1;omega)
   have x0:=hcn i (.int .i64 x) (by simp [hx])
   obtain ⟨A,c,mw,y0,y1,hrt⟩:=ha.look hx
   have hbw:=ha.bw
   have htop:=ha.top
   have hbwl:Bw<wr.heap.size:=by omega
   obtain ⟨rl,hrl⟩:∃ k,(rowOf m x).length=k:=⟨_,rfl⟩
   have HRL:=hid hrl
   have hrl2:rl≤100000:=hrl▸hrow x
   have HX:=hid hx
   have HRT:=hid hrt
   rw [hrl] at y1
   clear hj ha hr hMn hcn hrt hrl hx hbw htop
   gi_wp2
   clear x0 y0 y1 hbwl
   gi_loopw [18] (fun jv w2=>∃ j:Nat,jv=.int .i64 j∧j≤rl∧J (allU m i++((rowOf m x).take j).map fun t=>(x,t)) w2∧AllR w2 lo hi Bn Bw m∧RdM w2 (fun b=>b<lo∨hi≤b) A (tksC (rowOf m x))∧RdM w2 (fun b=>b<lo∨hi≤b) (some ⟨bn,offn,none⟩) ((z1j m).map (.int .i64))) (fun jv _=>rl-(intOf jv).toNat)
   case atStart=>exact ⟨0,rfl,Nat.zero_le _,by simpa using HJ.o,HAR.o,HRT.o,HRN.o⟩
   case round =>
    clear HAR HRN HJ HRT
    obtain ⟨j,rfl,hjl,hj,ha,hrt,hrn⟩:=hrel
    by_cases hlt2:j<rl
    ·have hlz2:(j:Int)<(rl:Int):=by omega
     obtain ⟨t,ht⟩:∃ t,(rowOf m x)[j]?=some t:=⟨_,List.getElem?_eq_getElem (by rw [HRL.o];exact hlt2)⟩
     have hg:=zd3 ht
     obtain ⟨bt,offt,rfl,hMt,hct⟩:=hrt (by
      intro e
      have h1:=hg 0 (.int .i64 t.flow) rfl
      rw [e] at h1
      simp at h1)
     have z0:=hct _ _ (hg 0 (.int .i64 t.flow) rfl)
     have z1:=hct _ _ (hg 1 (.int .i64 t.run) rfl)
     have z2:=hct _ _ (hg 2 (.int .i64 t.ref) rfl)
     have z3:=hct _ _ (hg 3 (.int .i64 t.turn) rfl)
     rw [Nat.add_zero] at z0
     rw [← Nat.add_assoc] at z1 z2 z3
     have HPR:=hid (zeK HX.o ht)
     rcases t with ⟨tf,tr,te,tt⟩
     simp only at z0 z1 z2 z3
     obtain ⟨fn,tmps,assign,body,hy,hR⟩:=hY _ (x,⟨tf,tr,te,tt⟩) (wr.alloc (.cells #[.int .i64 tf,.int .i64 tr,.int .i64 te,.int .i64 tt] 84)) (hJ _ _ _ hj) (by
      have h1:=HPR.o.length_le
      rw [List.length_append] at h1
      simp only [List.length_cons,List.length_nil] at h1
      omega)
     dsimp only [encT,tkV] at hy
     have HR:=hid hR
     have HA2:=hid (ha.kq (((Gr.refl wr).alloc (.cells #[.int .i64 tf,.int .i64 tr,.int .i64 te,.int .i64 tt] 84)).mod _))
     have HRT2:=hid (RdM.up hrt (Gr.up ((Gr.refl wr).alloc (.cells #[.int .i64 tf,.int .i64 tr,.int .i64 te,.int .i64 tt] 84)) _))
     have HRN2:=hid (RdM.up hrn (Gr.up ((Gr.refl wr).alloc (.cells #[.int .i64 tf,.int .i64 tr,.int .i64 te,.int .i64 tt] 84)) _))
     have HT:=hid ht
     clear hR hj ha hrt hrn hMt hct ht hg
     gi_wp2
     refine HR.o.mono ?_
     rintro e W3 (⟨rfl,hJ3,hk3⟩ | ⟨rfl,hJx3⟩)
     ·have HJ3:=hid hJ3
      have HK3:=hid hk3
      clear hJ3 hk3
      gi_wp2
      go_roundw
      case rel =>
       have u:Up (fun b=>b<lo∨hi≤b) _ (fun b=>b<lo∨hi≤b) W3:=⟨HK3.o,fun _ _ e=>e⟩
       refine ⟨j+1,by go_num,by omega,?_,HA2.o.kq HK3.o,HRT2.o.up u,HRN2.o.up u⟩
       rw [List.take_add_one,HT.o]
       simpa using HJ3.o
      case measure =>
       simp [intOf]
       omega
     ·have HJ3:=hid hJx3
      clear hJx3
      gi_wp2
      refine bodyPost_ret (results_none rfl _ _ _) rfl ?_
      exact ⟨⟨_,rfl⟩,.inr ⟨_,HPR.o,HJ3.o⟩⟩
    ·have hlz2:¬ (j:Int)<(rl:Int):=by omega
     have HJ3:=hid hj
     have HA3:=hid ha
     have HRN3:=hid hrn
     have HT:=hid (List.take_of_length_le (l:=rowOf m x) (i:=j) (by rw [HRL.o];omega))
     have HADD:=hid (z9o HX.o)
     clear hj ha hrt hrn
     gi_wp2
     go_roundw
     case rel =>
      rw [HT.o,← HADD.o] at HJ3
      exact ⟨i+1,by go_num,by omega,HJ3.o,HA3.o,HRN3.o⟩
     case measure =>
      simp [intOf]
      omega
  ·have hlz:¬ (i:Int)<(len:Int):=by omega
   have HT:=hid (zdh m (i:=i) (by rw [HLEN.o];omega))
   rw [HT.o] at HJ
   clear hj ha hr
   gi_wp2
   go_end0
   exact ⟨⟨_,rfl⟩,.inl HJ.o⟩
end Go.Proofs.YtniknicnnaiilaaGreat
end
