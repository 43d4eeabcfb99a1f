/- Lemmas of the engine. -/
import Derived.Laws.BytesArg
import Derived.Laws.BytesString
import Derived.Test.YtniknicnnaiilaaGreatX05
import Derived.Test.YtniknicnnaiilaaGreatX11
import Derived.Test.YtniknicnnaiilaaGreatX17
import Derived.Test.YtniknicnnaiilaaGreatX21
import Derived.Test.YtniknicnnaiilaaGreatX22
import Derived.Test.YtniknicnnaiilaaGreatX23
section
namespace Go.Proofs.YtniknicnnaiilaaGreat
set_option maxRecDepth 100000
open Go.RowKit Go.Ext Go.BigFrame Go.Maps Go.MapKept
attribute [local go_sem] Ext.cell Ext.frozen Ext.lt Ext.le s1 s2 s3 s4 s5 s6 t1 t2 t3 t4 t5 t6
attribute [local go_sem ↓] Go.wp_at_zero Go.wp_at_succ
def RetN (M:Bl) (E:ES) (w:World) (e:Ending) (w':World):Prop :=
 ∃ M' S' k',e=.returned (.tuple #[.pointer (some ⟨k',0,none⟩),.int .i64 0])∧Gr w w'∧EngR w' M' S' k' E∧(∀ b,M b→M' b)∧(∀ b,b<w.heap.size→M' b→M b)∧∀ b,S' b→w.heap.size≤b
theorem z9U (w:World):Calls Tryz.prog 35 #[.int .i64 1024] w (fun e w'=>∃ k' mb',e=.returned (.tuple #[.pointer (some ⟨k',0,none⟩),.int .i64 0])∧TwL w (fun _=>True) [] k' mb' w'):=by
 have hmm:=@run_makeMap Tryz.prog
 go_enter Tryz.func35,Tryz.ntmps35
 go_wp2_with fail
 go_ret2
 have G:Gr w ((w.alloc (.map #[] 0)).alloc (.cells #[.int .i64 1024,.map (some w.heap.size)] 135)):=((Gr.refl w).alloc _).alloc _
 refine ⟨w.heap.size+1,w.heap.size,?_,by omega,Nat.le_refl _,by simp,by simp;omega,by omega,G,fun M' _=>⟨?_,[],?_,trivial⟩⟩
 ·simp
 ·have:=heap_alloc_new (w.alloc (.map #[] 0)) (.cells #[.int .i64 1024,.map (some w.heap.size)] 135)
  rw [show (w.alloc (.map #[] 0)).heap.size=w.heap.size+1 by simp] at this
  exact this
 ·exact (MI.made w).gr ((Gr.refl _).alloc _)
set_option maxHeartbeats 4000000 in
theorem z74 (shard groups:Int) (M:Bl) (w:World) (hM:∀ b,M b→b<w.heap.size) (hg:1≤groups∧groups≤8) (hs:0≤shard∧shard<groups):Calls Tryz.prog 17 #[.int .i64 shard,.int .i64 groups] w (RetN M (e0 shard groups) w):=by
 have hmm:=@run_makeMap Tryz.prog
 obtain ⟨n1,n2⟩:=hg
 obtain ⟨n3,n4⟩:=hs
 have HM:=hid hM
 clear hM
 go_enter Tryz.func17,Tryz.ntmps17
 go_upto_region 4 with (go_at_call 34;refine (zfx _ _ (Nat.le_refl _)).mono ?_;rintro en w2 ⟨rfl,hb2,g2⟩;have HB2:=hid hb2;have G2:=hid g2;clear hb2 g2)
 have HB3:=hid (heap_alloc_new w2 (.cells #[.pointer none,.pointer none,.int .i64 shard,.int .i64 groups,.int .i64 0,.map (some w.heap.size),.pointer (some ⟨w.heap.size+1,0,none⟩)] 79))
 have G3:=hid ((Gr.refl w2).alloc (.cells #[.pointer none,.pointer none,.int .i64 shard,.int .i64 groups,.int .i64 0,.map (some w.heap.size),.pointer (some ⟨w.heap.size+1,0,none⟩)] 79))
 obtain ⟨w3,hw3⟩:∃ w3,w2.alloc (.cells #[.pointer none,.pointer none,.int .i64 shard,.int .i64 groups,.int .i64 0,.map (some w.heap.size),.pointer (some ⟨w.heap.size+1,0,none⟩)] 79)=w3:=⟨_,rfl⟩
 rw [hw3] at HB3 G3 ⊢
 clear hw3
 obtain ⟨ke,hke⟩:∃ ke,w2.heap.size=ke:=⟨_,rfl⟩
 rw [hke] at HB3 ⊢
 have HKE:=hid hke
 clear hke
 have lke:=block_lt HB3.o
 go_upto_region 5 with (go_at_call 35;refine (z9U _).mono ?_;rintro en w4 ⟨kd,md,rfl,td⟩;(have TD:=hid td);(have HB4:=hid ((td.2.2.2.2.2.1.block ke lke).trans HB3.o));(obtain ⟨y0,y1,y2,y3,y4,y5,y6⟩:=z0p HB4.o);(have z0:=z00 (j:=0) HB4.o);(have lk4:=block_lt HB4.o);clear td)
 have M5:=hid (z0m (S:=fun b=>b=ke) ((Gr.refl w4).mod _) (b:=ke) (j:=0) (fun _=>rfl) (.pointer (some ⟨kd,0,none⟩)))
 have HB5:=hid (z02 (j:=0) HB4.o (.pointer (some ⟨kd,0,none⟩)))
 obtain ⟨w5,hw5⟩:∃ w5,w4.setCell ⟨ke,0,none⟩ (.pointer (some ⟨kd,0,none⟩))=w5:=⟨_,rfl⟩
 rw [hw5] at M5 HB5 ⊢
 clear hw5 y0 y1 y2 y3 y4 y5 y6 z0
 have lk5:=block_lt HB5.o
 go_upto_region 6 with (go_at_call 35;refine (z9U _).mono ?_;rintro en w6 ⟨ka,ma,rfl,ta⟩;(have TA:=hid ta);(have HB6:=hid ((ta.2.2.2.2.2.1.block ke lk5).trans HB5.o));(obtain ⟨y0,y1,y2,y3,y4,y5,y6⟩:=z0p HB6.o);(have z1:=z00 (j:=1) HB6.o);(have lk6:=block_lt HB6.o);clear ta)
 have M7:=hid (z0m (S:=fun b=>b=ke) ((Gr.refl w6).mod _) (b:=ke) (j:=1) (fun _=>rfl) (.pointer (some ⟨ka,0,none⟩)))
 have HB7:=hid (z02 (j:=1) HB6.o (.pointer (some ⟨ka,0,none⟩)))
 obtain ⟨w7,hw7⟩:∃ w7,w6.setCell ⟨ke,1,none⟩ (.pointer (some ⟨ka,0,none⟩))=w7:=⟨_,rfl⟩
 rw [hw7] at M7 HB7 ⊢
 clear hw7 y0 y1 y2 y3 y4 y5 y6 z1
 go_wp2_with fail
 go_ret2
 obtain ⟨td1,td2,td3,td4,td5,td6,td7⟩:=TD.o
 obtain ⟨ta1,ta2,ta3,ta4,ta5,ta6,ta7⟩:=TA.o
 have s3:=G3.o.size
 have s5:=M5.o.size
 have s7:=M7.o.size
 have s6:=ta6.size
 have s4:=td6.size
 have hke:=HKE.o
 have sz2:=G2.o.size
 simp only [World.size_alloc] at sz2
 have h2:=HB2.o
 rw [show (w.alloc (.map #[] 0)).heap.size=w.heap.size+1 by simp] at h2
 have G02:Gr w w2:=((Gr.refl w).alloc _).trans G2.o
 have G07:Gr w w7:=gr_k (gr_k (G02.trans (G3.o.trans td6)) M5.o (by omega) |>.trans ta6) M7.o (by omega)
 have m47:Mod (fun b=>b=ke) w4 w7:=((M5.o.gr ta6).trans M7.o (fun _ _ e=>e))
 have hkd:w7.heap[kd]?=w4.heap[kd]?:=m47.block kd td3 (by show ¬ kd=ke;omega)
 have hmd:w7.heap[md]?=w4.heap[md]?:=m47.block md td4 (by show ¬ md=ke;omega)
 have hka:w7.heap[ka]?=w6.heap[ka]?:=M7.o.block ka ta3 (by show ¬ ka=ke;omega)
 have hma:w7.heap[ma]?=w6.heap[ma]?:=M7.o.block ma ta4 (by show ¬ ma=ke;omega)
 have hold:∀ b,b<w.heap.size→(M b∨(b=ke∨b=md∨b=ma∨b=w.heap.size∨b=w.heap.size+1))→M b:=fun b hb e=>by
  rcases e with e | e | e | e | e | e
  ·exact e
  all_goals omega
 refine ⟨fun b=>M b∨(b=ke∨b=md∨b=ma∨b=w.heap.size∨b=w.heap.size+1),fun b=>b=ke∨b=md∨b=ma∨b=w.heap.size∨b=w.heap.size+1,ke,rfl,G07,⟨kd,ka,md,ma,w.heap.size,w.heap.size+1,.slice none 0 0,?_⟩,fun b e=>.inl e,hold,fun b e=>by rcases e with e | e | e | e | e<;>omega⟩
 have hM:=HM.o
 have LD:z1e w7 (fun b=>M b∨(b=ke∨b=md∨b=ma∨b=w.heap.size∨b=w.heap.size+1)) kd md []:=(td7 _ (fun _ _ _=>trivial)).up ⟨m47.mono (fun b _ e=>.inr (.inl e)),fun _ _ e=>e⟩ hkd hmd
 have LA:z1e w7 (fun b=>M b∨(b=ke∨b=md∨b=ma∨b=w.heap.size∨b=w.heap.size+1)) ka ma []:=(ta7 _ (fun _ _ _=>trivial)).up ⟨M7.o.mono (fun b _ e=>.inr (.inl e)),fun _ _ e=>e⟩ hka hma
 have gm:Gr (w.alloc (.map #[] 0)) w7:=gr_k (gr_k (G2.o.trans (G3.o.trans td6)) M5.o (by simp;omega) |>.trans ta6) M7.o (by simp;omega)
 have g27:Gr w2 w7:=gr_k (gr_k (G3.o.trans td6) M5.o (by omega) |>.trans ta6) M7.o (by omega)
 refine ⟨HB7.o,LD,LA,⟨[],(MI.made w).gr gm,trivial⟩,?_,.inl rfl,.inr (.inl rfl),.inr (.inr (.inl rfl)),.inr (.inr (.inr (.inl rfl))),.inr (.inr (.inr (.inr rfl))),(fun b e=>by cases e),?_,?_,by omega,by omega,by omega,fun b e=>.inr e,?_⟩
 ·exact ⟨Nat.zero_le _,(g27.block _ h2.lt).trans h2.cell,h2.row.1,.inl ⟨rfl,rfl⟩⟩
 ·rintro (e | e | e | e | e | e)
  ·have:=hM _ e;omega
  all_goals omega
 ·rintro (e | e | e | e | e | e)
  ·have:=hM _ e;omega
  all_goals omega
 ·rintro b (e | e | e | e | e | e)
  ·have:=hM _ e;omega
  all_goals omega
def sh0:Int→Int:=fun _=>0
abbrev z0z (E:ES) (c:Call):Ans × ES:=z13 sh0 E c
def k1:Ans × ES:=z0z (e0 0 1) ⟨1,3,1,5,tok0,[],[]⟩
def k2:Ans × ES:=z0z k1.2 ⟨7,0,1,0,tok0,[],[]⟩
def k3:Ans × ES:=z0z k2.2 ⟨8,0,0,0,⟨3,1,2,0⟩,[],[⟨5,0,0,0,[120]⟩]⟩
def k4:Ans × ES:=z0z k3.2 ⟨5,3,0,0,tok0,[],[]⟩
theorem zgs:k1.1.run=1:=by decide
theorem zdN:k2.1.given=true:=by decide
theorem zgt:k2.1.tok=⟨3,1,2,0⟩:=by decide
theorem zgu:k3.1.err=0:=by decide
theorem zcj:k4.1.status=2:=by decide
theorem zfn:k4.1.data=[120]:=by decide
theorem ze1 (shard groups:Int) (h:0≤shard∧shard<groups∧groups≤8):EOk (e0 shard groups):=by
 refine ⟨h,⟨Int.le_refl _,by simp [e0]⟩,List.Pairwise.nil,by simp [e0],⟨List.Pairwise.nil,by simp [e0]⟩,⟨⟨List.Pairwise.nil,by simp [e0]⟩,by simp [e0]⟩,List.Pairwise.nil⟩
def sb (bs:List UInt8):ByteArray:=if bs=[] then ByteArray.empty else strOfNums (bs.map fun b=>(b.toNat:Int))
theorem z1D {w:World} {d:Value} {bs:List UInt8} (h:Bys w d bs):(convert 22 9 d).run Tryz.prog w=.ok (.string (sb bs)) w:=by
 obtain ⟨A,c,rfl,hl,hr,hn⟩:=h
 by_cases hb:bs=[]
 ·subst hb
  rw [run_convert_bytes_string w 22 9 5 A _ c Tryz.underlying22 Tryz.underlying5 Tryz.underlying9]
  cases A with
  | none=>simp [Conv.bytesToString,sb]
  | some a =>
   have:=run_bytesToString (P:=Tryz.prog) w a 0 c [] (by have:=run_loadCells_list (P:=Tryz.prog) w a [] (by simp);simpa using this)
   simpa [sb] using this
 ·obtain ⟨b,off,rfl,hc⟩:=hr (by simpa [bc] using hb)
  unfold sb
  rw [if_neg hb]
  refine run_convert_bytes_arg w 22 5 Tryz.underlying22 Tryz.underlying5 b off bs.length c _ (by simp) (fun i hi=>?_) 9 Tryz.underlying9
  rw [hc i (.int .u8 (bs[i]'hi).toNat) (by simp [bc,hi])]
  simp [List.getD,hi]
def eqS (x y:List UInt8):Bool:=(sb x).toList==(sb y).toList
theorem z9H (x:List UInt8):eqS x x=true:=by simp [eqS]
def z5S (x y:Ev):Bool:=x.kind==y.kind && x.tick==y.tick && x.ref==y.ref && x.id==y.id && x.list==y.list && x.n==y.n && eqS x.data y.data
def z2m:List Ev→List Ev→Bool
 | [],[]=>true
 | x::xs,y::ys=>z5S x y && z2m xs ys
 | _,_=>false
def z7f (a b:Ans):Bool:=a.err==b.err && a.run==b.run && a.status==b.status && a.given==b.given && decide (a.tok=b.tok) && eqS a.data b.data && z2m a.events b.events
theorem zaV (x:Ev):z5S x x=true:=by simp [z5S,z9H]
theorem z4h:∀ l:List Ev,z2m l l=true
 | []=>rfl
 | x::xs=>by simp [z2m,zaV,z4h xs]
theorem z5r (x y:List UInt8) (vx vy:Value) (w:World) (hx:Bys w vx x) (hy:Bys w vy y):Calls Tryz.prog 39 #[vx,vy] w (RetE (.bool (eqS x y)) w):=by
 have c1:=z1D hx
 have c2:=z1D hy
 obtain ⟨A,c,rfl,_⟩:=hx
 obtain ⟨B,d,rfl,_⟩:=hy
 refine retE ?_
 unfold eqS
 go_enter Tryz.func39,Tryz.ntmps39
 go_wp2_with fail
 go_ret
 exact ⟨rfl,Gr.refl w⟩
set_option maxHeartbeats 4000000 in
theorem zcT (x y:Ev) (dx dy:Value) (w:World) (hx:Bys w dx x.data) (hy:Bys w dy y.data):Calls Tryz.prog 41 #[evV x dx,evV y dy] w (RetE (.bool (z5S x y)) w):=by
 have HEQ:=hid (fun W (g:Gr w W)=>z5r x.data y.data dx dy W (hx.gr g) (hy.gr g))
 obtain ⟨A,c,rfl,_⟩:=hx
 obtain ⟨B,d,rfl,_⟩:=hy
 rcases x with ⟨xk,xa,xr,xi,xl,xn,xd⟩
 rcases y with ⟨yk,ya,yr,yi,yl,yn,yd⟩
 obtain ⟨R,hR⟩:∃ R,z5S ⟨xk,xa,xr,xi,xl,xn,xd⟩ ⟨yk,ya,yr,yi,yl,yn,yd⟩=R:=⟨_,rfl⟩
 rw [hR]
 simp only [z5S] at hR
 simp only [evV] at *
 obtain ⟨e,he⟩:∃ e,eqS xd yd=e:=⟨_,rfl⟩
 rw [he] at hR HEQ
 clear he
 generalize xd.length=xdl at *
 generalize yd.length=ydl at *
 refine retE ?_
 cases z0:(xk==yk)
 ·rw [z0] at hR
  replace hR:false=R:=hR
  subst hR
  go_enter Tryz.func41,Tryz.ntmps41
  go_wp2_with fail
  go_ret
  exact ⟨rfl,((Gr.refl w).alloc _).alloc _⟩
 ·rw [z0] at hR
  cases z1:(xa==ya)
  ·rw [z1] at hR
   replace hR:false=R:=hR
   subst hR
   go_enter Tryz.func41,Tryz.ntmps41
   go_wp2_with fail
   go_ret
   exact ⟨rfl,((Gr.refl w).alloc _).alloc _⟩
  ·rw [z1] at hR
   cases z2:(xr==yr)
   ·rw [z2] at hR
    replace hR:false=R:=hR
    subst hR
    go_enter Tryz.func41,Tryz.ntmps41
    go_wp2_with fail
    go_ret
    exact ⟨rfl,((Gr.refl w).alloc _).alloc _⟩
   ·rw [z2] at hR
    cases z3:(xi==yi)
    ·rw [z3] at hR
     replace hR:false=R:=hR
     subst hR
     go_enter Tryz.func41,Tryz.ntmps41
     go_wp2_with fail
     go_ret
     exact ⟨rfl,((Gr.refl w).alloc _).alloc _⟩
    ·rw [z3] at hR
     cases z4:(xl==yl)
     ·rw [z4] at hR
      replace hR:false=R:=hR
      subst hR
      go_enter Tryz.func41,Tryz.ntmps41
      go_wp2_with fail
      go_ret
      exact ⟨rfl,((Gr.refl w).alloc _).alloc _⟩
     ·rw [z4] at hR
      cases z5:(xn==yn)
      ·rw [z5] at hR
       replace hR:false=R:=hR
       subst hR
       go_enter Tryz.func41,Tryz.ntmps41
       go_wp2_with fail
       go_ret
       exact ⟨rfl,((Gr.refl w).alloc _).alloc _⟩
      ·rw [z5] at hR
       replace hR:e=R:=hR
       subst hR
       go_enter Tryz.func41,Tryz.ntmps41
       go_wp2_with (go_at_call 39;refine (HEQ.o _ (((Gr.refl w).alloc _).alloc _)).mono ?_;rintro en _ ⟨rfl,y1,rfl⟩)
       go_ret
       exact ⟨rfl,(((Gr.refl w).alloc _).alloc _).ext y1⟩
theorem z6S {w:World} {M:Bl} {A:Option Addr} {n c i:Nat} {l:List Ev} {d:Ev} (h:z08 evR w M (.slice A n c) l) (hd:l[i]?=some d):∃ b off A' c',A=some ⟨b,off,none⟩∧b<w.heap.size∧BysM w M (.slice A' d.data.length c') d.data ∧
  w.cell? ⟨b,off+i * 7,none⟩=some (.int .i64 d.kind)∧w.cell? ⟨b,off+i * 7+1,none⟩=some (.int .i64 d.tick)∧w.cell? ⟨b,off+i * 7+2,none⟩=some (.int .i64 d.ref)∧w.cell? ⟨b,off+i * 7+3,none⟩=some (.int .i64 d.id)∧w.cell? ⟨b,off+i * 7+4,none⟩=some (.int .i64 d.list)∧w.cell? ⟨b,off+i * 7+5,none⟩=some (.int .i64 d.n)∧w.cell? ⟨b,off+i * 7+6,none⟩=some (.slice A' d.data.length c'):=by
 obtain ⟨b,off,v,h1,h2,h3,h4,h5⟩:=h.at_ (m:=6) (fun x=>z14 x) hd
 obtain ⟨A',c',rfl⟩:=h4.shape
 exact ⟨b,off,A',c',h1,h2,h4,h5 0 _ rfl,h5 1 _ rfl,h5 2 _ rfl,h5 3 _ rfl,h5 4 _ rfl,h5 5 _ rfl,h5 6 _ rfl⟩
theorem z4L:∀ {l m:List Ev},l.length≠m.length→z2m l m=false
 | [],[],h=>absurd rfl h
 | [],_::_,_=>rfl
 | _::_,[],_=>rfl
 | x::xs,y::ys,h=>by
  unfold z2m
  rw [z4L (l:=xs) (m:=ys) (by simpa using h),Bool.and_false]
set_option maxHeartbeats 4000000 in
theorem z6u (l m:List Ev) (vl vm:Value) (M:Bl) (w:World) (hl:z08 evR w M vl l) (hm:z08 evR w M vm m) (hll:l.length≤1000000) (_:m.length≤1000000) :
  Calls Tryz.prog 40 #[vl,vm,.func (.func 41) #[] #[]] w (RetE (.bool (z2m l m)) w):=by
 obtain ⟨A,c,rfl,hlc⟩:=hl.shape
 obtain ⟨B,d,rfl,hmd⟩:=hm.shape
 have HL:=hid hl
 have HM:=hid hm
 clear hl hm
 refine retE ?_
 by_cases hlen:l.length=m.length
 ·have HLEN:=hid hlen
  have hne:((l.length:Int) != (m.length:Int))=false:=by simp [hlen]
  clear hlen
  have hX:z2m (l.drop 0) (m.drop 0)=z2m l m:=by simp
  have HX:=hid hX
  clear hX
  go_enter Tryz.func40,Tryz.ntmps40
  go_wp2_with fail
  go_loopw [17] (fun iv wr=>∃ i:Nat,iv=.int .i64 i∧i≤l.length∧Gr w wr∧z2m (l.drop i) (m.drop i)=z2m l m) (fun iv _=>l.length-(intOf iv).toNat)
  case atStart=>exact ⟨0,rfl,Nat.zero_le _,Gr.refl w,HX.o⟩
  case round =>
   obtain ⟨i,rfl,hi,hgr,hall⟩:=hrel
   have HG:=hid hgr
   have HALL:=hid hall
   clear hgr hall
   by_cases hlt:i<l.length
   ·have hlt2:i<m.length:=by have:=HLEN.o;omega
    have hg1:l[i]?=some l[i]:=List.getElem?_eq_getElem hlt
    have hg2:m[i]?=some m[i]:=List.getElem?_eq_getElem hlt2
    have hd1:l.drop i=l[i]::l.drop (i+1):=List.drop_eq_getElem_cons hlt
    have hd2:m.drop i=m[i]::m.drop (i+1):=List.drop_eq_getElem_cons hlt2
    rw [hd1,hd2] at HALL
    obtain ⟨b,off,A',c',rfl,hb,hdat,c0,c1_,c2,c3,c4,c5,c6⟩:=z6S (HL.o.up (Gr.up HG.o M)) hg1
    obtain ⟨b2,off2,B',d',rfl,hb2,hdat2,k0,k1,k2,k3,k4,k5,k6⟩:=z6S (HM.o.up (Gr.up HG.o M)) hg2
    generalize l[i]=x at *
    generalize m[i]=y at *
    have HC:=hid (fun W (g:Gr wr W)=>zcT x y _ _ W (hdat.bys.gr g) (hdat2.bys.gr g))
    clear hdat hdat2 hg1 hg2 hd1 hd2
    have hlz:(i:Int)<(l.length:Int):=by omega
    have HS:=hid (show z2m (x::l.drop (i+1)) (y::m.drop (i+1))=(z5S x y && z2m (l.drop (i+1)) (m.drop (i+1))) from rfl)
    cases hb:z5S x y
    ·rw [hb] at HC HS
     rcases x with ⟨xk,xa,xr,xi,xl,xn,xd⟩
     rcases y with ⟨yk,ya,yr,yi,yl,yn,yd⟩
     simp only [evV] at *
     generalize xd.length=xdl at *
     generalize yd.length=ydl at *
     go_wp2_with (go_at_call 41;refine (HC.o _ (((Gr.refl wr).alloc _).alloc _)).mono ?_;rintro en _ ⟨rfl,y1,rfl⟩)
     go_ret
     exact ⟨by rw [← HALL.o,HS.o];rfl,HG.o.trans ((((Gr.refl wr).alloc _).alloc _).ext y1)⟩
    ·rw [hb] at HC HS
     rcases x with ⟨xk,xa,xr,xi,xl,xn,xd⟩
     rcases y with ⟨yk,ya,yr,yi,yl,yn,yd⟩
     simp only [evV] at *
     generalize xd.length=xdl at *
     generalize yd.length=ydl at *
     go_wp2_with (go_at_call 41;refine (HC.o _ (((Gr.refl wr).alloc _).alloc _)).mono ?_;rintro en _ ⟨rfl,y1,rfl⟩)
     go_roundw
     case rel=>exact ⟨i+1,by go_num,by omega,HG.o.trans ((((Gr.refl wr).alloc _).alloc _).ext y1),by rw [← HALL.o,HS.o,Bool.true_and]⟩
     case measure=>simp [intOf];omega
   ·have hlz:¬ (i:Int)<(l.length:Int):=by omega
    go_wp2_with fail
    go_ret
    refine ⟨?_,HG.o⟩
    rw [← HALL.o,List.drop_eq_nil_of_le (by omega),List.drop_eq_nil_of_le (by have:=HLEN.o;omega)]
    rfl
 ·have hne:((l.length:Int) != (m.length:Int))=true:=by simp;omega
  rw [z4L hlen]
  go_enter Tryz.func40,Tryz.ntmps40
  go_wp2_with fail
  go_ret
  exact ⟨rfl,Gr.refl w⟩
end Go.Proofs.YtniknicnnaiilaaGreat
end
