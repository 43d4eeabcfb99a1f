/- Lemmas of the engine. -/
import Derived.Deep.LoopGhost
import Derived.Test.YtniknicnnaiilaaGreatX11
import Derived.Test.YtniknicnnaiilaaGreatX15
import Derived.Test.YtniknicnnaiilaaGreatX20
import Derived.Test.YtniknicnnaiilaaGreatX21
section
namespace Go.Proofs.YtniknicnnaiilaaGreat
set_option maxRecDepth 100000
open Go.RowKit Go.Ext Go.BigFrame Go.Maps Go.MapKept
attribute [local go_sem] Ext.cell Ext.frozen Ext.lt Ext.le s1 s2 s3 s4 s5 s6 t1 t2 t3 t4 t5 t6
attribute [local go_sem ↓] Go.wp_at_zero Go.wp_at_succ
def RetG (M S:Bl) (k:Nat) (R:Option (Ans × ES)) (w:World) (en:Ending) (w2:World):Prop :=
 match R with
 | some (a,E')=>∃ dv M' S',en=.returned (.tuple #[ansV a dv (.slice none 0 0),.bool true])∧EngR w2 M' S' k E'∧z0j w M S w2 M' S'∧BysM w2 M' dv a.data
 | none=>∃ a A n c,en=.returned (.tuple #[ansV a (.slice A n c) (.slice none 0 0),.bool false])∧Mod S w w2
theorem RetQ.mono {M X:Bl} {k:Nat} {x:FR} {Q Q':World→Prop} {w:World} {e:Ending} {w':World} (h:RetQ M k X x Q w e w') (hq:∀ W,Q W→Q' W):RetQ M k X x Q' w e w':=by
 obtain ⟨A,c,h1,h2,h3,h4,h5⟩:=h
 exact ⟨A,c,h1,h2,h3,h4,hq _ h5⟩
theorem z9i {E:ES} {t:Task} (h:z1y E t=true):∃ r,lk E.runs t.flow=some r∧r.f.run=t.run∧z1n r.f t.ref t.turn=true:=by
 unfold z1y at h
 cases hr:lk E.runs t.flow with
 | none=>rw [hr] at h;cases h
 | some r =>
  rw [hr] at h
  simp only [Bool.and_eq_true,beq_iff_eq] at h
  exact ⟨r,rfl,h.1,h.2⟩
theorem zei {F:FS} (hF:FOk F) {ref:Int} (h:z1n F ref (-1)=true):(∃ e es,z15 F ref=e::es)∧0≤ref∧ref≤1000000:=by
 obtain ⟨o,ho,_⟩:=z7o h
 obtain ⟨h1,h2,e,h3,_⟩:=hF.i.ka ho
 have:=hF.len
 refine ⟨?_,by omega,by omega⟩
 unfold z15
 rw [if_neg (by omega),show (max ref 1-1).toNat=(ref-1).toNat by omega]
 have hlt:(ref-1).toNat<F.l.length:=by omega
 exact ⟨_,_,List.drop_eq_getElem_cons hlt⟩
theorem zb8 (w:World) (o0 o1 o2 o3 o4:Obj):∃ w1,((((w.alloc o0).alloc o1).alloc o2).alloc o3).alloc o4=w1∧Gr w w1∧w1.heap[w.heap.size]?=some o0∧w1.heap[w.heap.size+1]?=some o1∧w1.heap[w.heap.size+1+1]?=some o2∧w1.heap[w.heap.size+1+1+1]?=some o3∧w1.heap[w.heap.size+1+1+1+1]?=some o4:=by
 refine ⟨_,rfl,(((((Gr.refl w).alloc _).alloc _).alloc _).alloc _).alloc _,?_,?_,?_,?_,?_⟩
 ·exact (((((Gr.refl _).alloc o1).alloc o2).alloc o3).alloc o4).block _ (by simp) |>.trans (heap_alloc_new w o0)
 ·exact ((((Gr.refl _).alloc o2).alloc o3).alloc o4).block _ (by simp) |>.trans (by have:=heap_alloc_new (w.alloc o0) o1;simpa using this)
 ·exact (((Gr.refl _).alloc o3).alloc o4).block _ (by simp) |>.trans (by have:=heap_alloc_new ((w.alloc o0).alloc o1) o2;simpa using this)
 ·exact ((Gr.refl _).alloc o4).block _ (by simp) |>.trans (by have:=heap_alloc_new (((w.alloc o0).alloc o1).alloc o2) o3;simpa using this)
 ·have:=heap_alloc_new ((((w.alloc o0).alloc o1).alloc o2).alloc o3) o4;simpa using this
theorem z1f (w:World) (B:Nat) (u0 u1 u2 u3 u4 u5 u6 u7 u8 u9:Value):Mod (fun k=>k=B) w ((((((((((w.setCell ⟨B,0,none⟩ u0).setCell ⟨B,1,none⟩ u1).setCell ⟨B,2,none⟩ u2).setCell ⟨B,3,none⟩ u3).setCell ⟨B,4,none⟩ u4).setCell ⟨B,5,none⟩ u5).setCell ⟨B,6,none⟩ u6).setCell ⟨B,7,none⟩ u7).setCell ⟨B,8,none⟩ u8).setCell ⟨B,9,none⟩ u9):=by
 refine z0m (z0m (z0m (z0m (z0m (z0m (z0m (z0m (z0m (z0m ((Gr.refl w).mod _) ?_ _) ?_ _) ?_ _) ?_ _) ?_ _) ?_ _) ?_ _) ?_ _) ?_ _) ?_ _<;>exact fun _=>rfl
theorem EngR.setOther {w w':World} {M S:Bl} {k B:Nat} {E:ES} (h:EngR w M S k E) (m:Mod (fun b=>b=B) w w') (hB:M B) (hS:¬ S B):EngR w' M S k E :=
 h.keep (Mod.up m (fun _ _ e=>e▸hB)) (fun b e=>m.block b (h.lt.1 b (h.lt.2.1 b e)) (fun x=>hS (x▸e))) h.lt.2.1 (fun b e=>Nat.lt_of_lt_of_le (h.lt.1 b e) m.size)
theorem z5J {w w1 w4 w2 w3:World} {S:Bl} {B1 B2:Nat} (g:Gr w w1) (x:Mod (fun b=>b=B1) w1 w4) (m:Mod S w4 w2) (y:Mod (fun b=>b=B2) w2 w3) (h1:w.heap.size≤B1) (h2:w.heap.size≤B2):Mod S w w3:=by
 have gs:=g.size
 have xs:=x.size
 have ms:=m.size
 have ys:=y.size
 refine ⟨y.os.trans (m.os.trans (x.os.trans g.os)),y.tape.trans (m.tape.trans (x.tape.trans g.tape)),y.output.trans (m.output.trans (x.output.trans g.output)),by omega,fun b hb hn=>?_⟩
 exact (y.block b (by omega) (by show ¬ b=B2;omega)).trans ((m.block b (by omega) hn).trans ((x.block b (by omega) (by show ¬ b=B1;omega)).trans (g.block b hb)))
set_option maxHeartbeats 4000000 in
theorem z7W (PUT:z0e) (k:Nat) (E:ES) (c:Call) (d l:Value) (t:Task) (M S:Bl) (w:World) (h:EngR w M S k E) (hE:EOk E) (hdue:E.due.length≤998000) (hc:z0P w M c d l) (hw:z1y E t=true) (hta:(c.kind==7)=false→t.turn=-1) :
    Calls Tryz.prog 103 #[.pointer (some ⟨k,0,none⟩),z0E c d l,tkV t] w (RetG M S k (z2b E (c.kind==7) t) w):=by
  obtain ⟨r,hr,hrun,hwants⟩:=z9i hw
  obtain ⟨Ad,cd,rfl⟩:=hc.1.shape
  obtain ⟨Al,cl,rfl,_⟩:=hc.2.shape
  have HENG:=hid h
  have HLT:=hid h.lt
  have hgE:z2b E (c.kind==7) t=(match z0k E t.flow (z2s (c.kind==7) t E.now) with | (e,some E')=>if e=0 then some (z2Z (c.kind==7) t r.f,E') else none | (_,none)=>none):=by
    unfold z2b;rw [hr];rfl
  rw [hgE]
  clear hgE
  have HFOK:=hid (hE.get hr)
  have HR:=hid hr
  have HTA:=hid hta
  have HW:=hid hwants
  clear hr hta hwants hw hc
  rcases c with ⟨ck,cf,cli,cn,⟨tf,tr,te,tt⟩,cdat,cls⟩
  rcases t with ⟨af,ar,ae,at_⟩
  simp only [z0E,z1U,tkV] at *
  generalize cdat.length=dl at *
  generalize cls.length=ll at *
  obtain ⟨bb,hbb⟩:∃ bb,(ck==7)=bb:=⟨_,rfl⟩
  rw [hbb] at HTA ⊢
  have HBB:=hid hbb
  clear hbb
  have HCALL:=hid (show ∀ w1,Gr w w1→w1.heap[w.heap.size]?=some (.cells #[.pointer (some ⟨k,0,none⟩)] 24 (0,0))→w1.heap[w.heap.size+1]?=some (.cells #[.int .i64 ck,.int .i64 cf,.int .i64 cli,.int .i64 cn,.int .i64 tf,.int .i64 tr,.int .i64 te,.int .i64 tt,.slice Ad dl cd,.slice Al ll cl] 35 (0,0))→w1.heap[w.heap.size+1+1]?=some (.cells #[.int .i64 af,.int .i64 ar,.int .i64 ae,.int .i64 at_] 84 (0,0)) →
      (∃ o,w1.heap[w.heap.size+1+1+1]?=some o)→w1.heap[w.heap.size+1+1+1+1]?=some (.cells (ansC (z2Z true ⟨af,ar,ae,at_⟩ r.f) (.slice none 0 0) (.slice none 0 0)) 31 (0,0))→∃ M1:Bl,M1 (w.heap.size+1+1+1)∧M1 (w.heap.size+1+1+1+1)∧(∀ b,M b→M1 b)∧(∀ b,b<w.heap.size→M1 b→M b)∧EngR w1 M1 S k E ∧
      Calls Tryz.prog 68 #[.pointer (some ⟨k,0,none⟩),.int .i64 af,.func (.func 137) #[] #[.pointer (some ⟨w.heap.size+1,0,none⟩),.pointer (some ⟨w.heap.size+1+1,0,none⟩),.pointer (some ⟨w.heap.size,0,none⟩),.pointer (some ⟨w.heap.size+1+1+1+1,0,none⟩)]] w1 (RetC M1 S (fun b=>b=w.heap.size+1+1+1+1) k (z0k E af (z2s bb ⟨af,ar,ae,at_⟩ E.now)).2 (.tuple #[.int .i64 (z0k E af (z2s bb ⟨af,ar,ae,at_⟩ E.now)).1,.bool false]) vC (Told (w.heap.size+1+1+1+1) M1 (z2Z bb ⟨af,ar,ae,at_⟩ r.f)) w1) from by
    intro w1 g1 b0 b1 b2 b3 b4
    obtain ⟨o3,b3⟩:=b3
    have l3:w.heap.size+1+1+1<w1.heap.size:=(Array.getElem?_eq_some_iff.1 b3).1
    have l4:=block_lt b4
    have hup:Up M w (fun b=>M b∨b=w.heap.size+1+1+1∨b=w.heap.size+1+1+1+1) w1:=⟨g1.mod M,fun b hb e=>by
      rcases e with e | e | e
      · exact e
      · omega
      · omega⟩
    have hlt1:∀ b,(M b∨b=w.heap.size+1+1+1∨b=w.heap.size+1+1+1+1)→b<w1.heap.size:=fun b e=>by
      rcases e with e | e | e
      · exact Nat.lt_of_lt_of_le (HLT.o.1 b e) g1.size
      · omega
      · omega
    have heng1:EngR w1 (fun b=>M b∨b=w.heap.size+1+1+1∨b=w.heap.size+1+1+1+1) S k E:=HENG.o.keep hup (fun b e=>g1.block b (HLT.o.1 b (HLT.o.2.1 b e))) (fun b e=>.inl (HLT.o.2.1 b e)) hlt1
    refine ⟨fun b=>M b∨b=w.heap.size+1+1+1∨b=w.heap.size+1+1+1+1,.inr (.inl rfl),.inr (.inr rfl),fun b e=>.inl e,fun b hb e=>by
      rcases e with e | e | e
      · exact e
      · omega
      · omega,heng1,?_⟩
    refine zam PUT _ _ _ _ k E af (z2s bb ⟨af,ar,ae,at_⟩ E.now) _ S _ _ w1 heng1 hE hdue r HR.o (z4t _ _ _) (zaA _ _ _) (fun b e=>⟨.inr (.inr e),fun x=>by have:=HLT.o.1 b (HLT.o.2.1 b x);omega⟩) ?_
    intro W M' k' gW hMM hMb hff hltW hkM hk'
    obtain ⟨kd,ka,md,ma,mr,kh,hv,hP⟩:=heng1
    have hkW:=(gW.block k (block_lt hP.cell)).trans hP.cell
    have bsz:k<w.heap.size:=HLT.o.1 k (HLT.o.2.1 k HLT.o.2.2)
    have c0:=(gW.block _ (block_lt b0)).trans b0
    have c1:=(gW.block _ (block_lt b1)).trans b1
    have c2:=(gW.block _ (block_lt b2)).trans b2
    have c4:=(gW.block _ (block_lt b4)).trans b4
    have hall:k≠k'∧w.heap.size+1≠k'∧w.heap.size+1+1≠k'∧w.heap.size≠k'∧w.heap.size+1+1+1+1≠k'∧k≠w.heap.size+1+1+1+1∧w.heap.size+1+1≠w.heap.size+1+1+1+1∧w.heap.size≠w.heap.size+1+1+1+1:=by omega
    cases bb with
    | true =>
      have h7:ck=7:=by simpa using HBB.o
      have hq:=zfa PUT k' (w.heap.size+1) (w.heap.size+1+1) (w.heap.size) (w.heap.size+1+1+1+1) k kd ka mr kh E ⟨af,ar,ae,at_⟩ r.f ck _ M' W hkW hff hltW hkM (hMM _ (.inr (.inr rfl))) hall HFOK.o.1 c1 c2 c0 c4 h7
      exact hq.mono fun en W' hh=>hh.mono fun W'' ht=>ht.up (z1S W'' hMM) rfl
    | false =>
      have h7:ck≠7:=by simpa using HBB.o
      have htn:=HTA.o rfl
      try simp only at htn
      have hwn:=HW.o
      rw [htn] at hwn
      obtain ⟨⟨e,es,hev⟩,hrf⟩:=zei HFOK.o.1 hwn
      have hq:=zf9 PUT k' (w.heap.size+1) (w.heap.size+1+1) (w.heap.size) (w.heap.size+1+1+1+1) k kd ka mr kh E ⟨af,ar,ae,at_⟩ r.f ck _ M' W hkW hff hltW hkM (hMM _ (.inr (.inr rfl))) hall HFOK.o.1 c1 c2 c0 c4 h7 e es hev hrf
      exact hq.mono fun en W' hh=>hh.mono fun W'' ht=>ht.up (z1S W'' hMM) rfl)
  obtain ⟨aa,haa⟩:∃ aa,z2Z bb ⟨af,ar,ae,at_⟩ r.f=aa:=⟨_,rfl⟩
  rw [haa] at HCALL
  have HAA:=hid haa
  rw [haa]
  obtain ⟨x,hx⟩:∃ x,z0k E af (z2s bb ⟨af,ar,ae,at_⟩ E.now)=x:=⟨_,rfl⟩
  try simp only at hx
  rw [hx] at HCALL ⊢
  rcases x with ⟨ec,R⟩
  obtain ⟨Y,hY⟩:∃ Y:Option (Ans × ES),(match ((ec,R):Int × Option ES) with | (e,some E')=>if e=0 then some (aa,E') else none | (_,none)=>none)=Y:=⟨_,rfl⟩
  rw [hY]
  have HY:=hid hY
  clear hx hY haa HW HTA HFOK HR
  try simp only at HCALL
  cases R with
  | none =>
    have hY0:Y=none:=by rw [← HY.o]
    subst hY0
    go_enter Tryz.func103,Tryz.ntmps103
    go_wp2_with (go_at_call 68
                 generalize hmx:(if at_<0 then 0 else at_)=mx
                 have hmax:max at_ 0=mx:=by rw [← hmx];split<;>omega
                 obtain ⟨w1,hw1,g1,b0,b1,b2,b3,b4⟩:=zb8 w (.cells #[.pointer (some ⟨k,0,none⟩)] 24) (.cells #[.int .i64 ck,.int .i64 cf,.int .i64 cli,.int .i64 cn,.int .i64 tf,.int .i64 tr,.int .i64 te,.int .i64 tt,.slice Ad dl cd,.slice Al ll cl] 35) (.cells #[.int .i64 af,.int .i64 ar,.int .i64 ae,.int .i64 at_] 84) (.cells #[.int .i64 0,.int .i64 0,.int .i64 0,.bool false,.int .i64 0,.int .i64 0,.int .i64 0,.int .i64 0,.slice none 0 0,.slice none 0 0] 31) (.cells #[.int .i64 0,.int .i64 0,.int .i64 0,.bool true,.int .i64 af,.int .i64 ar,.int .i64 ae,.int .i64 mx,.slice none 0 0,.slice none 0 0] 31)
                 rw [hw1]
                 have hcall:=HCALL.o w1 g1 b0 b1 b2 ⟨_,b3⟩ (b4.trans (by simp [ansC,z2Z,hmax,ans0]))
                 obtain ⟨M1,hm3,hm4,hMM,hMo,heng1,hcall⟩:=hcall
                 refine hcall.mono ?_
                 rintro en w2 ⟨w4,htold,hmodX,hret⟩
                 have G1:=hid g1
                 have hS1:∀ b,S b→b<w.heap.size:=fun b e=>HLT.o.1 b (HLT.o.2.1 b e)
                 have MR:=hid hret.1
                 obtain ⟨dv,hdc,hdb⟩:=htold
                 obtain ⟨Adv,cdv,rfl⟩:=hdb.shape
                 have n3:¬ S (w.heap.size+1+1+1):=fun e=>by have:=hS1 _ e;omega
                 have n4:¬ S (w.heap.size+1+1+1+1):=fun e=>by have:=hS1 _ e;omega
                 have HPA:=hid ((MR.o.block _ (block_lt hdc) n4).trans hdc)
                 have hz4:=(hmodX.block _ (block_lt b3) (by show ¬ w.heap.size+1+1+1=w.heap.size+1+1+1+1;omega)).trans b3
                 have HBC:=hid ((MR.o.block _ (block_lt hz4) n3).trans hz4)
                 have HM34:=hid (And.intro hm3 hm4)
                 have HMM:=hid (And.intro hMM hMo)
                 have HE1:=hid heng1
                 have HX:=hid hmodX
                 have HDB:=hid hdb
                 have N3:=hid n3
                 have HZ:=hid (block_lt hz4)
                 clear hmax g1 b0 b1 b2 b3 b4 hm3 hm4 hMM hMo heng1 hcall hdc hdb n3 n4 hz4 hmodX hS1 hmx hw1
                 have hpal:=block_lt HPA.o
                 have hbcl:=block_lt HBC.o
                 simp only [ansC] at HPA
                 obtain ⟨a0,a1,a2,a3,a4,a5,a6,a7,a8,a9⟩:=z04 HPA.o
                 obtain ⟨q0,q1,q2,q3,q4,q5,q6,q7,q8,q9⟩:=z04 HBC.o
                 obtain ⟨z0,z1,z2,z3,z4,z5,z6,z7,z8,z9⟩:=FZ HBC.o
                 obtain ⟨_,v9,hen,⟨xe,rfl⟩,hm9⟩ | ⟨E9,M9,S9,e9,_⟩:=hret.cases
                 rotate_left
                 · cases e9
                 subst hen
                 clear hret hm9)
    all_goals (
      refine bodyPost_ret (v:=.tuple #[ansV aa (.slice Adv aa.data.length cdv) (.slice none 0 0),.bool false]) (by simp [results,Tryz.results103,go_sem,ansV,ansC,q0,q1,q2,q3,q4,q5,q6,q7,q8,q9]) rfl ?_
      exact ⟨aa,Adv,_,cdv,rfl,z5J G1.o HX.o MR.o (z1f w2 (w.heap.size+1+1+1) _ _ _ _ _ _ _ _ _ _) (by omega) (by omega)⟩)
  | some E' =>
    by_cases hec:ec=0
    · subst hec
      have hY0:Y=some (aa,E'):=by rw [← HY.o];rfl
      subst hY0
      go_enter Tryz.func103,Tryz.ntmps103
      go_wp2_with (go_at_call 68
                   generalize hmx:(if at_<0 then 0 else at_)=mx
                   have hmax:max at_ 0=mx:=by rw [← hmx];split<;>omega
                   obtain ⟨w1,hw1,g1,b0,b1,b2,b3,b4⟩:=zb8 w (.cells #[.pointer (some ⟨k,0,none⟩)] 24) (.cells #[.int .i64 ck,.int .i64 cf,.int .i64 cli,.int .i64 cn,.int .i64 tf,.int .i64 tr,.int .i64 te,.int .i64 tt,.slice Ad dl cd,.slice Al ll cl] 35) (.cells #[.int .i64 af,.int .i64 ar,.int .i64 ae,.int .i64 at_] 84) (.cells #[.int .i64 0,.int .i64 0,.int .i64 0,.bool false,.int .i64 0,.int .i64 0,.int .i64 0,.int .i64 0,.slice none 0 0,.slice none 0 0] 31) (.cells #[.int .i64 0,.int .i64 0,.int .i64 0,.bool true,.int .i64 af,.int .i64 ar,.int .i64 ae,.int .i64 mx,.slice none 0 0,.slice none 0 0] 31)
                   rw [hw1]
                   have hcall:=HCALL.o w1 g1 b0 b1 b2 ⟨_,b3⟩ (b4.trans (by simp [ansC,z2Z,hmax,ans0]))
                   obtain ⟨M1,hm3,hm4,hMM,hMo,heng1,hcall⟩:=hcall
                   refine hcall.mono ?_
                   rintro en w2 ⟨w4,htold,hmodX,hret⟩
                   have G1:=hid g1
                   have hS1:∀ b,S b→b<w.heap.size:=fun b e=>HLT.o.1 b (HLT.o.2.1 b e)
                   have MR:=hid hret.1
                   obtain ⟨dv,hdc,hdb⟩:=htold
                   obtain ⟨Adv,cdv,rfl⟩:=hdb.shape
                   have n3:¬ S (w.heap.size+1+1+1):=fun e=>by have:=hS1 _ e;omega
                   have n4:¬ S (w.heap.size+1+1+1+1):=fun e=>by have:=hS1 _ e;omega
                   have HPA:=hid ((MR.o.block _ (block_lt hdc) n4).trans hdc)
                   have hz4:=(hmodX.block _ (block_lt b3) (by show ¬ w.heap.size+1+1+1=w.heap.size+1+1+1+1;omega)).trans b3
                   have HBC:=hid ((MR.o.block _ (block_lt hz4) n3).trans hz4)
                   have HM34:=hid (And.intro hm3 hm4)
                   have HMM:=hid (And.intro hMM hMo)
                   have HE1:=hid heng1
                   have HX:=hid hmodX
                   have HDB:=hid hdb
                   have N3:=hid n3
                   have HZ:=hid (block_lt hz4)
                   clear hmax g1 b0 b1 b2 b3 b4 hm3 hm4 hMM hMo heng1 hcall hdc hdb n3 n4 hz4 hmodX hS1 hmx hw1
                   have hpal:=block_lt HPA.o
                   have hbcl:=block_lt HBC.o
                   simp only [ansC] at HPA
                   obtain ⟨a0,a1,a2,a3,a4,a5,a6,a7,a8,a9⟩:=z04 HPA.o
                   obtain ⟨q0,q1,q2,q3,q4,q5,q6,q7,q8,q9⟩:=z04 HBC.o
                   obtain ⟨z0,z1,z2,z3,z4,z5,z6,z7,z8,z9⟩:=FZ HBC.o
                   obtain ⟨e9,_⟩ | ⟨E9,M9,S9,e9,hen,he9,ha9⟩:=hret.cases
                   · cases e9
                   injection e9 with e9
                   subst e9
                   subst hen
                   have HE9:=hid he9
                   have HA9:=hid ha9
                   clear hret he9 ha9)
      refine bodyPost_ret (v:=.tuple #[ansV aa (.slice Adv aa.data.length cdv) (.slice none 0 0),.bool true]) (by simp [results,Tryz.results103,go_sem,ansV,ansC,q0,q1,q2,q3,q4,q5,q6,q7,q8,q9]) rfl ?_
      have n9:¬ S9 (w.heap.size+1+1+1):=fun e=>by
        have h2:=HA9.o.s _ (Nat.lt_of_lt_of_le (by have:=G1.o.size;have:=HX.o.size;have:=HZ.o;omega) (Nat.le_refl w4.heap.size)) e
        exact N3.o h2
      refine ⟨_,M9,S9,rfl,HE9.o.setOther (z1f w2 (w.heap.size+1+1+1) _ _ _ _ _ _ _ _ _ _) (HA9.o.mm _ HM34.o.1) n9,?_,?_⟩
      · refine ⟨z5J G1.o HX.o MR.o (z1f w2 (w.heap.size+1+1+1) _ _ _ _ _ _ _ _ _ _) (by omega) (by omega),fun b hb e=>?_,fun b hb e=>?_,fun b e=>HA9.o.mm b (HMM.o.1 b e)⟩
        · exact HA9.o.s b (by have:=G1.o.size;have:=HX.o.size;omega) e
        · exact HMM.o.2 b hb (HA9.o.m b (by have:=G1.o.size;have:=HX.o.size;omega) e)
      · exact HDB.o.up ((z0j.up HA9.o HE1.o.lt.2.1).trans (Mod.up (z1f w2 (w.heap.size+1+1+1) _ _ _ _ _ _ _ _ _ _) (fun _ _ e=>e▸HA9.o.mm _ HM34.o.1)))
    · have hY0:Y=none:=by rw [← HY.o];simp [hec]
      subst hY0
      have hec':(ec==0)=false:=by simpa using hec
      go_enter Tryz.func103,Tryz.ntmps103
      go_wp2_with (go_at_call 68
                   generalize hmx:(if at_<0 then 0 else at_)=mx
                   have hmax:max at_ 0=mx:=by rw [← hmx];split<;>omega
                   obtain ⟨w1,hw1,g1,b0,b1,b2,b3,b4⟩:=zb8 w (.cells #[.pointer (some ⟨k,0,none⟩)] 24) (.cells #[.int .i64 ck,.int .i64 cf,.int .i64 cli,.int .i64 cn,.int .i64 tf,.int .i64 tr,.int .i64 te,.int .i64 tt,.slice Ad dl cd,.slice Al ll cl] 35) (.cells #[.int .i64 af,.int .i64 ar,.int .i64 ae,.int .i64 at_] 84) (.cells #[.int .i64 0,.int .i64 0,.int .i64 0,.bool false,.int .i64 0,.int .i64 0,.int .i64 0,.int .i64 0,.slice none 0 0,.slice none 0 0] 31) (.cells #[.int .i64 0,.int .i64 0,.int .i64 0,.bool true,.int .i64 af,.int .i64 ar,.int .i64 ae,.int .i64 mx,.slice none 0 0,.slice none 0 0] 31)
                   rw [hw1]
                   have hcall:=HCALL.o w1 g1 b0 b1 b2 ⟨_,b3⟩ (b4.trans (by simp [ansC,z2Z,hmax,ans0]))
                   obtain ⟨M1,hm3,hm4,hMM,hMo,heng1,hcall⟩:=hcall
                   refine hcall.mono ?_
                   rintro en w2 ⟨w4,htold,hmodX,hret⟩
                   have G1:=hid g1
                   have hS1:∀ b,S b→b<w.heap.size:=fun b e=>HLT.o.1 b (HLT.o.2.1 b e)
                   have MR:=hid hret.1
                   obtain ⟨dv,hdc,hdb⟩:=htold
                   obtain ⟨Adv,cdv,rfl⟩:=hdb.shape
                   have n3:¬ S (w.heap.size+1+1+1):=fun e=>by have:=hS1 _ e;omega
                   have n4:¬ S (w.heap.size+1+1+1+1):=fun e=>by have:=hS1 _ e;omega
                   have HPA:=hid ((MR.o.block _ (block_lt hdc) n4).trans hdc)
                   have hz4:=(hmodX.block _ (block_lt b3) (by show ¬ w.heap.size+1+1+1=w.heap.size+1+1+1+1;omega)).trans b3
                   have HBC:=hid ((MR.o.block _ (block_lt hz4) n3).trans hz4)
                   have HM34:=hid (And.intro hm3 hm4)
                   have HMM:=hid (And.intro hMM hMo)
                   have HE1:=hid heng1
                   have HX:=hid hmodX
                   have HDB:=hid hdb
                   have N3:=hid n3
                   have HZ:=hid (block_lt hz4)
                   clear hmax g1 b0 b1 b2 b3 b4 hm3 hm4 hMM hMo heng1 hcall hdc hdb n3 n4 hz4 hmodX hS1 hmx hw1
                   have hpal:=block_lt HPA.o
                   have hbcl:=block_lt HBC.o
                   simp only [ansC] at HPA
                   obtain ⟨a0,a1,a2,a3,a4,a5,a6,a7,a8,a9⟩:=z04 HPA.o
                   obtain ⟨q0,q1,q2,q3,q4,q5,q6,q7,q8,q9⟩:=z04 HBC.o
                   obtain ⟨z0,z1,z2,z3,z4,z5,z6,z7,z8,z9⟩:=FZ HBC.o
                   obtain ⟨e9,_⟩ | ⟨E9,M9,S9,e9,hen,he9,ha9⟩:=hret.cases
                   · cases e9
                   injection e9 with e9
                   subst e9
                   subst hen
                   have HE9:=hid he9
                   have HA9:=hid ha9
                   clear hret he9 ha9)
      refine bodyPost_ret (v:=.tuple #[ansV aa (.slice Adv aa.data.length cdv) (.slice none 0 0),.bool false]) (by simp [results,Tryz.results103,go_sem,ansV,ansC,q0,q1,q2,q3,q4,q5,q6,q7,q8,q9]) rfl ?_
      exact ⟨aa,Adv,_,cdv,rfl,z5J G1.o HX.o MR.o (z1f w2 (w.heap.size+1+1+1) _ _ _ _ _ _ _ _ _ _) (by omega) (by omega)⟩
theorem TwL.back {w w1 w2 w3 wF:World} {M:Bl} {D:Rows} {k' m' B:Nat} (h:TwL w1 (fun b=>M b∨w.heap.size≤b) D k' m' w2) (g1:Gr w w1) (g3:Gr w2 w3) (hB:w.heap.size≤B) (hB1:B<w1.heap.size) (m:Mod (fun b=>b=B) w3 wF):TwL w M D k' m' wF:=by
 obtain ⟨h1,h2,h3,h4,h5,h6,h7⟩:=h
 have gs:=g1.size
 have g3s:=g3.size
 have g13:=(h6.trans g3).size
 have hms:=m.size
 have gF:Gr w wF:=gr_k (g1.trans (h6.trans g3)) m hB
 refine ⟨by omega,by omega,by omega,by omega,h5,gF,fun M' hM=>?_⟩
 have hl:=(h7 (fun b=>M' b∨b=B) (fun b hb e=>by
  rcases e with e | e
  ·by_cases hlt:b<w.heap.size
   ·exact .inl (hM b hlt e)
   ·exact .inr (by omega)
  ·exact .inr (by omega))).gr g3
 exact hl.up ⟨m.mono (fun b _ e=>.inr e),fun b _ e=>.inl e⟩ (m.block k' (by omega) (by show ¬ k'=B;omega)) (m.block m' (by omega) (by show ¬ m'=B;omega))
theorem z1e.new {w w1:World} {M:Bl} {k mb:Nat} {m:Rows} (h:z1e w M k mb m) (g:Gr w w1):z1e w1 (fun b=>M b∨w.heap.size≤b) k mb m :=
 h.upg g (fun b hb e=>by
  rcases e with e | e
  ·exact e
  ·omega)
set_option maxHeartbeats 2000000 in
theorem zd5 (kd ka md ma:Nat) (D A:Rows) (M:Bl) (w:World) (hd:z1e w M kd md D) (ha:z1e w M ka ma A) :
  Calls Tryz.prog 47 #[.agg #[.pointer (some ⟨kd,0,none⟩),.pointer (some ⟨ka,0,none⟩)]] w (fun e w'=>∃ kd' md' ka' ma',e=.returned (.agg #[.pointer (some ⟨kd',0,none⟩),.pointer (some ⟨ka',0,none⟩)])∧TwL w M D kd' md' w'∧TwL w M A ka' ma' w'∧md'≠ma'):=by
 have HD:=hid hd
 have HA:=hid ha
 have HB:=hid ((((Gr.refl _).alloc (.cells #[.pointer none,.pointer none] 75)).block w.heap.size (by simp)).trans (heap_alloc_new w (.cells #[.pointer (some ⟨kd,0,none⟩),.pointer (some ⟨ka,0,none⟩)] 75)))
 have HC:=hid (show ((w.alloc (.cells #[.pointer (some ⟨kd,0,none⟩),.pointer (some ⟨ka,0,none⟩)] 75)).alloc (.cells #[.pointer none,.pointer none] 75)).heap[w.heap.size+1]?=some (.cells #[.pointer none,.pointer none] 75 (0,0)) from by have:=heap_alloc_new (w.alloc (.cells #[.pointer (some ⟨kd,0,none⟩),.pointer (some ⟨ka,0,none⟩)] 75)) (.cells #[.pointer none,.pointer none] 75);simpa using this)
 have G1:=hid (((Gr.refl w).alloc (.cells #[.pointer (some ⟨kd,0,none⟩),.pointer (some ⟨ka,0,none⟩)] 75)).alloc (.cells #[.pointer none,.pointer none] 75))
 clear hd ha
 go_enter Tryz.func47,Tryz.ntmps47
 go_upto_region 1 with fail
 obtain ⟨w1,hw1⟩:∃ w1,(w.alloc (.cells #[.pointer (some ⟨kd,0,none⟩),.pointer (some ⟨ka,0,none⟩)] 75)).alloc (.cells #[.pointer none,.pointer none] 75)=w1:=⟨_,rfl⟩
 rw [hw1] at HB HC G1 ⊢
 clear hw1
 obtain ⟨B,hB⟩:∃ B,w.heap.size=B:=⟨_,rfl⟩
 have HBB:=hid hB
 rw [hB] at HB HC ⊢
 clear hB
 obtain ⟨x0,x1⟩:=z6c HB.o
 have hbl:=block_lt HB.o
 have hcl:=block_lt HC.o
 refine z01 [(0,false),(1,false),(3,false),(4,false),(2,true),(5,true),(6,false),(7,true)] (fun W=>Gr w1 W) (by kernel_rfl) (by kernel_rfl) (fun _ _ d _ _ h=>by cases d<;>exact h) (Gr.refl w1).drew (fun _=>?_)
 iterate 4 (refine z03 (v:=?_) rfl (by rfl) ?_ ?_;rotate_left;(focus (intro W9 hW9;obtain ⟨x9,rfl⟩:∃ x:Ext w1,W9=x.val:=⟨⟨W9,hW9⟩,rfl⟩;go_simp;(try with_reducible rfl);done));(try simp only [AP]))
 refine z05 rfl (by rfl) (fun K hK=>?_)
 go_simp
 go_at_call 83
 refine (z8s kd md D _ _ (HD.o.new (G1.o.trans (Gr.refl w1).drew))).mono ?_
 rintro en w2 ⟨kd',md',rfl,ht2⟩
 have HT2:=hid ht2
 have G2:=hid ((Gr.refl w1).drew.trans ht2.2.2.2.2.2.1)
 refine hK.o (fun W=>Gr w1 W) _ _ G2.o (fun W h=>h) (fun _=>?_)
 clear hK K ht2
 (try simp only [AP])
 refine z05 rfl (by rfl) (fun K hK=>?_)
 go_simp
 go_at_call 83
 refine (z8s ka ma A _ _ (HA.o.new (G1.o.trans G2.o))).mono ?_
 rintro en w3 ⟨ka',ma',rfl,ht3⟩
 have HT3:=hid ht3
 have G3:=hid (G2.o.trans ht3.2.2.2.2.2.1)
 refine hK.o (fun W=>Gr w1 W) _ _ G3.o (fun W h=>h) (fun _=>?_)
 clear hK K ht3
 (try simp only [AP])
 iterate 1 (refine z03 (v:=?_) rfl (by rfl) ?_ ?_;rotate_left;(focus (intro W9 hW9;obtain ⟨x9,rfl⟩:∃ x:Ext w1,W9=x.val:=⟨⟨W9,hW9⟩,rfl⟩;go_simp;(try with_reducible rfl);done));(try simp only [AP]))
 have HC3:=hid ((G3.o.block (B+1) hcl).trans HC.o)
 have hcl3:=block_lt HC3.o
 have fz0:=z00 (j:=0) HC3.o
 have fz1:=z00 (j:=1) HC3.o
 obtain ⟨p0,p1⟩:=z6c HC3.o
 have M2:=hid (z0m (S:=fun b=>b=B+1) (z0m (S:=fun b=>b=B+1) ((Gr.refl w3).mod _) (b:=B+1) (j:=0) (fun _=>rfl) (.pointer (some ⟨kd',0,none⟩))) (b:=B+1) (j:=1) (fun _=>rfl) (.pointer (some ⟨ka',0,none⟩)))
 refine z06 rfl (by rfl) (fun K hK=>?_)
 go_simp
 refine hK.o _ _ ?_
 clear hK K
 go_wp2_with fail
 refine bodyPost_ret (v:=.agg #[.pointer (some ⟨kd',0,none⟩),.pointer (some ⟨ka',0,none⟩)]) (by simp [results,Tryz.results47,go_sem,p0,p1]) rfl ⟨kd',md',ka',ma',rfl,?_,?_,?_⟩
 ·exact HT2.o.back (G1.o.trans (Gr.refl w1).drew) HT3.o.2.2.2.2.2.1 (by have:=HBB.o;omega) (by simpa using hcl) (B:=B+1) (M2.o)
 ·exact HT3.o.back (G1.o.trans G2.o) (Gr.refl w3) (by have:=HBB.o;omega) (Nat.lt_of_lt_of_le hcl G2.o.size) (B:=B+1) (M2.o)
 ·have h1:=HT2.o.2.2.2.1
  have h2:=HT3.o.2.1
  omega
theorem z0p {W:World} {B:Nat} {t:TypeId} {a b c d e f g:Value} (h:W.heap[B]?=some (.cells #[a,b,c,d,e,f,g] t (0,0))):W.cell? ⟨B,0,none⟩=some a∧W.cell? ⟨B,1,none⟩=some b∧W.cell? ⟨B,2,none⟩=some c∧W.cell? ⟨B,3,none⟩=some d∧W.cell? ⟨B,4,none⟩=some e∧W.cell? ⟨B,5,none⟩=some f∧W.cell? ⟨B,6,none⟩=some g:=by
 refine ⟨?_,?_,?_,?_,?_,?_,?_⟩<;>simp [World.cell?,h]
def zhh (M:Bl) (E:ES) (w:World) (e:Ending) (w':World):Prop :=
 ∃ M' S' k',e=.returned (.pointer (some ⟨k',0,none⟩))∧Gr w w'∧EngR w' M' S' k' E∧(∀ b,M b→M' b)∧(∀ b,b<w.heap.size→M' b→M b)∧∀ b,S' b→w.heap.size≤b
set_option maxHeartbeats 4000000 in
theorem z3U (k:Nat) (E:ES) (M S:Bl) (w:World) (h:EngR w M S k E) (hdue:E.due.length≤1000000):Calls Tryz.prog 27 #[.pointer (some ⟨k,0,none⟩)] w (zhh M E w):=by
  obtain ⟨kd,ka,md,ma,mr,kh,hv,hP⟩:=h
  have H:=hid hP
  obtain ⟨e0,e1,e2,e3,e4,e5,e6,hkl⟩:=hP.cells
  obtain ⟨kv,hmi,hrel⟩:=hP.r
  have HMI:=hid hmi
  have HREL:=hid hrel
  have HD:=hid hP.d
  have HA:=hid hP.a
  have HH:=hid hP.h
  clear hmi hrel
  have hk:=hP.cell
  have HB1:=hid (heap_alloc_new w (.cells #[.pointer (some ⟨kd,0,none⟩),.pointer (some ⟨ka,0,none⟩),.int .i64 E.shard,.int .i64 E.groups,.int .i64 E.now,.map (some mr),.pointer (some ⟨kh,0,none⟩)] 79))
  have G1:=hid ((Gr.refl w).alloc (.cells #[.pointer (some ⟨kd,0,none⟩),.pointer (some ⟨ka,0,none⟩),.int .i64 E.shard,.int .i64 E.groups,.int .i64 E.now,.map (some mr),.pointer (some ⟨kh,0,none⟩)] 79))
  have HK:=hid hk
  have hne:k≠w.heap.size:=by omega
  have hne':¬ w.heap.size=k:=by omega
  clear hP hk
  have HBK:=hid (show ∀ W,Gr w W→W.cell? ⟨k,0,none⟩=some (.pointer (some ⟨kd,0,none⟩))∧W.cell? ⟨k,1,none⟩=some (.pointer (some ⟨ka,0,none⟩))∧W.cell? ⟨k,5,none⟩=some (.map (some mr))∧W.cell? ⟨k,6,none⟩=some (.pointer (some ⟨kh,0,none⟩))∧k<W.heap.size from fun W g=>by
    obtain ⟨a0,a1,_,_,_,a5,a6,a7⟩:=(H.o.gr g).cells
    exact ⟨a0,a1,a5,a6,a7⟩)
  go_enter Tryz.func27,Tryz.ntmps27
  go_wp2_with (first
    | (go_at_call 47
       refine (zd5 kd ka md ma E.dec E.act _ _ (HD.o.new G1.o) (HA.o.new G1.o)).mono ?_
       rintro en w2 ⟨kd',md',ka',ma',rfl,td,ta,hmm⟩
       have TD:=hid td
       have TA:=hid ta
       have MM:=hid hmm
       have G2:=hid (G1.o.trans td.2.2.2.2.2.1)
       have HB2:=hid ((td.2.2.2.2.2.1.block w.heap.size (by simp)).trans HB1.o)
       obtain ⟨p0,p1,p2,p3,p4,p5,p6⟩:=z0p HB2.o
       have hb2:=block_lt HB2.o
       have z0:=z00 (j:=0) HB2.o
       have z1:=z00 (j:=1) HB2.o
       obtain ⟨y0,y1,y5,y6,yk⟩:=HBK.o w2 G2.o
       clear td ta hmm)
    | (go_at_call 48
       obtain ⟨w3,hw3⟩:∃ w3,(w2.setCell ⟨w.heap.size,0,none⟩ (.pointer (some ⟨kd',0,none⟩))).setCell ⟨w.heap.size,1,none⟩ (.pointer (some ⟨ka',0,none⟩))=w3:=⟨_,rfl⟩
       have m3:=z0m (S:=fun b=>b=w.heap.size) (z0m (S:=fun b=>b=w.heap.size) ((Gr.refl w2).mod _) (b:=w.heap.size) (j:=0) (fun _=>rfl) (.pointer (some ⟨kd',0,none⟩))) (b:=w.heap.size) (j:=1) (fun _=>rfl) (.pointer (some ⟨ka',0,none⟩))
       have hb3:=z02 (j:=1) (z02 (j:=0) HB2.o (.pointer (some ⟨kd',0,none⟩))) (.pointer (some ⟨ka',0,none⟩))
       rw [hw3] at m3 hb3 ⊢
       clear hw3
       have M3:=hid m3
       have G3:=hid (gr_k G2.o m3 (Nat.le_refl _))
       refine (z8C mr kv w3 (HMI.o.gr G3.o)).mono ?_
       rintro en w4 ⟨mr',rfl,hmr,g4,hmi4⟩
       have G4:=hid (G3.o.trans g4)
       have M4:=hid (m3.trans (g4.mod _) (fun _ _ e=>e))
       have HMR:=hid hmr
       have HMI4:=hid hmi4
       have HB4:=hid ((g4.block w.heap.size (block_lt hb3)).trans hb3)
       obtain ⟨_,_,_,_,_,r5,_⟩:=z0p HB4.o
       have hb4:=block_lt HB4.o
       have z5:=z00 (j:=5) HB4.o
       obtain ⟨v0,v1,v5,v6,vk⟩:=HBK.o w4 G4.o
       clear m3 hb3 hmr g4 hmi4)
    | (go_at_call 49
       obtain ⟨w5,hw5⟩:∃ w5,w4.setCell ⟨w.heap.size,5,none⟩ (.map (some mr'))=w5:=⟨_,rfl⟩
       have m5:=z0m (S:=fun b=>b=w.heap.size) ((Gr.refl w4).mod _) (b:=w.heap.size) (j:=5) (fun _=>rfl) (.map (some mr'))
       have hb5:=z02 (j:=5) HB4.o (.map (some mr'))
       rw [hw5] at m5 hb5 ⊢
       clear hw5
       have G5:=hid (gr_k G4.o m5 (Nat.le_refl _))
       refine (zd4 kh hv E.due w5 (H.o.gr G5.o).h hdue).mono ?_
       rintro en w6 ⟨kh',hv',rfl,ht⟩
       have HT:=hid ht
       have G6:=hid (G5.o.trans ht.2.2.1)
       have M46:=hid (m5.trans (ht.2.2.1.mod _) (fun _ _ e=>e))
       have HB6:=hid ((ht.2.2.1.block w.heap.size (block_lt hb5)).trans hb5)
       obtain ⟨_,_,_,_,_,_,s6⟩:=z0p HB6.o
       have hb6:=block_lt HB6.o
       have z6:=z00 (j:=6) HB6.o
       have S5:=hid m5.size
       clear m5 hb5 ht))
  have M7:=hid (z0m (S:=fun b=>b=w.heap.size) ((Gr.refl w6).mod _) (b:=w.heap.size) (j:=6) (fun _=>rfl) (.pointer (some ⟨kh',0,none⟩)))
  have HB7:=hid (z02 (j:=6) HB6.o (.pointer (some ⟨kh',0,none⟩)))
  obtain ⟨w7,hw7⟩:∃ w7,w6.setCell ⟨w.heap.size,6,none⟩ (.pointer (some ⟨kh',0,none⟩))=w7:=⟨_,rfl⟩
  rw [hw7] at M7 HB7 ⊢
  clear hw7
  go_ret
  have M27:=hid ((M4.o.trans M46.o (fun _ _ e=>e)).trans M7.o (fun _ _ e=>e))
  have M47:=hid (M46.o.trans M7.o (fun _ _ e=>e))
  have G7:=gr_k G6.o M7.o (Nat.le_refl _)
  have bd:=TD.o.back G1.o (Gr.refl w2) (Nat.le_refl _) (by simp) M27.o
  have ba:=TA.o.back G1.o (Gr.refl w2) (Nat.le_refl _) (by simp) M27.o
  have mrl:=HMI4.o.lt
  have sz3:=M3.o.size
  have sz2:=G2.o.size
  have sz5:=S5.o
  have sz46:=M46.o.size
  have sz7:=M7.o.size
  have s27:=M27.o.size
  have mr3:=HMR.o
  have h57:w6.heap.size≤w7.heap.size:=sz7
  have kh5:=HT.o.1
  have hvb:=HT.o.2.1
  have h56:=HT.o.2.2.1.size
  have hwl:=H.o.lt
  have hB1:w.heap.size<w2.heap.size:=block_lt HB2.o
  obtain ⟨td1,td2,td3,td4,td5,_,td7⟩:=TD.o
  obtain ⟨ta1,ta2,ta3,ta4,ta5,_,ta7⟩:=TA.o
  simp only [World.size_alloc] at td1 td2 ta1 ta2
  have hold:∀ b,b<w.heap.size→(M b∨(b=w.heap.size∨b=md'∨b=ma'∨b=mr'∨b=kh'∨hv'.ownBlock=some b))→M b:=fun b hb e=>by
    rcases e with e | e | e | e | e | e | e
    · exact e
    · omega
    · omega
    · omega
    · omega
    · omega
    · have:=hvb b e;omega
  have LD:=bd.2.2.2.2.2.2 _ hold
  have LA:=ba.2.2.2.2.2.2 _ hold
  have hmi7:MI w7 mr' kv:=HMI4.o.keep (M47.o.block mr' mrl (by show ¬ mr'=w.heap.size;omega))
  have hh6:=HT.o.2.2.2
  have hhb:∀ b,hv'.ownBlock=some b→b<w6.heap.size:=fun b e=>by
    rcases hh6.row.2 with ⟨rfl,_⟩ | ⟨g',cap,cur,hv2,hb,hh,r⟩
    · cases e
    · rw [hv2] at e
      injection e with e
      exact e▸block_lt hh
  have hh7:HB 0 w7 kh' hv' E.due:=by
    refine ⟨hh6.lo,(M7.o.block kh' hh6.lt (by show ¬ kh'=w.heap.size;omega)).trans hh6.cell,hh6.row.1,?_⟩
    rcases hh6.row.2 with h3 | ⟨g',cap,cur,hv2,hb,hh,r⟩
    · exact .inl h3
    · exact .inr ⟨g',cap,cur,hv2,hb,(M7.o.block g' (block_lt hh) (by
        have:=hvb g' (by rw [hv2];rfl)
        show ¬ g'=w.heap.size
        omega)).trans hh,r⟩
  have hup:Up M w (fun b=>M b∨(b=w.heap.size∨b=md'∨b=ma'∨b=mr'∨b=kh'∨hv'.ownBlock=some b)) w7:=⟨G7.mod M,hold⟩
  have hdm:kd'≠ma':=by
    obtain ⟨kva,hma,_⟩:=LA.map
    exact (z0u hma LD.cell).symm
  have ham:ka'≠md':=by
    obtain ⟨kva,hma,_⟩:=LD.map
    exact (z0u hma LA.cell).symm
  refine ⟨fun b=>M b∨(b=w.heap.size∨b=md'∨b=ma'∨b=mr'∨b=kh'∨hv'.ownBlock=some b),fun b=>b=w.heap.size∨b=md'∨b=ma'∨b=mr'∨b=kh'∨hv'.ownBlock=some b,w.heap.size,rfl,G7,⟨kd',ka',md',ma',mr',kh',hv',?_⟩,fun b e=>.inl e,hold,fun b e=>?_⟩
  · refine ⟨HB7.o,LD,LA,⟨kv,hmi7,HREL.o.mono fun a v hr=>hr.up hup⟩,hh7,.inl rfl,.inr (.inl rfl),.inr (.inr (.inl rfl)),.inr (.inr (.inr (.inl rfl))),.inr (.inr (.inr (.inr (.inl rfl)))),fun b e=>.inr (.inr (.inr (.inr (.inr e)))),?_,?_,MM.o,by omega,by omega,fun b e=>.inr e,?_⟩
    · rintro (e | e | e | e | e | e | e)
      · have:=hwl _ e;omega
      · omega
      · exact td5 e
      · exact hdm e
      · omega
      · omega
      · have:=hvb _ e;omega
    · rintro (e | e | e | e | e | e | e)
      · have:=hwl _ e;omega
      · omega
      · exact ham e
      · exact ta5 e
      · omega
      · omega
      · have:=hvb _ e;omega
    · rintro b (e | e | e | e | e | e | e)
      · have:=hwl _ e;omega
      · omega
      · omega
      · omega
      · omega
      · have:=hh6.lt;omega
      · have:=hhb _ e;omega
  · rcases e with e | e | e | e | e | e
    · omega
    · omega
    · omega
    · omega
    · omega
    · have:=hvb b e;omega
theorem z4Q (w:World) (o0 o1:Obj):∃ w1,(w.alloc o0).alloc o1=w1∧Gr w w1∧w1.heap[w.heap.size]?=some o0∧w1.heap[w.heap.size+1]?=some o1:=by
 refine ⟨_,rfl,((Gr.refl w).alloc _).alloc _,?_,?_⟩
 ·exact ((Gr.refl _).alloc o1).block _ (by simp) |>.trans (heap_alloc_new w o0)
 ·have:=heap_alloc_new (w.alloc o0) o1;simpa using this
theorem z2c {w w1 w2:World} {S:Bl} (g:Gr w w1) (m:Mod S w1 w2) (hS:∀ b,S b→w.heap.size≤b):Gr w w2:=by
 have gs:=g.size
 have ms:=m.size
 refine ⟨m.os.trans g.os,m.tape.trans g.tape,m.output.trans g.output,by omega,fun b hb=>?_⟩
 exact (m.block b (by omega) (fun e=>by have:=hS b e;omega)).trans (g.block b hb)
theorem EngR.more {w w1:World} {M S:Bl} {k B:Nat} {E:ES} (h:EngR w M S k E) (g:Gr w w1) (h1:w.heap.size≤B) (h2:B<w1.heap.size):EngR w1 (fun b=>M b∨b=B) S k E:=by
 refine h.keep ⟨g.mod M,fun b hb e=>?_⟩ (fun b e=>g.block b (h.lt.1 b (h.lt.2.1 b e))) (fun b e=>.inl (h.lt.2.1 b e)) (fun b e=>?_)
 ·rcases e with e | e
  ·exact e
  ·omega
 ·rcases e with e | e
  ·exact Nat.lt_of_lt_of_le (h.lt.1 b e) g.size
  ·omega
theorem EngP.move {w w':World} {M S:Bl} {k k' kd ka md ma mr kh:Nat} {hv:Value} {E:ES} (h:EngP w M S k' E kd ka md ma mr kh hv) (m:Mod (fun b=>b=k) w w')
  (hc:w'.heap[k]?=some (.cells (engC E kd ka mr kh) 79 (0,0))) (hk:M k) (hS:¬ S k):EngP w' M (fun b=>S b∨b=k) k E kd ka md ma mr kh hv:=by
 have u:Up M w M w':=Mod.up m (fun _ _ e=>e▸hk)
 have hb:∀ b,S b→w'.heap[b]?=w.heap[b]?:=fun b e=>m.block b (h.lt b (h.SM b e)) (fun x=>hS (x▸e))
 have p:=h.keep u hb h.SM (fun b e=>Nat.lt_of_lt_of_le (h.lt b e) m.size)
 exact ⟨hc,p.d,p.a,p.r,p.h,.inr rfl,.inl p.smd,.inl p.sma,.inl p.smr,.inl p.skh,fun b e=>.inl (p.shv b e),p.nd,p.na,p.ne1,p.ne2,p.ne3,fun b e=>by
  rcases e with e | e
  ·exact p.SM b e
  ·exact e▸hk,p.lt⟩
set_option maxHeartbeats 1000000 in
theorem z4z {w:World} {k:Nat} {a b c d e f g a' b' c' d' e' f' g':Value} {t:TypeId} (h:w.heap[k]?=some (.cells #[a,b,c,d,e,f,g] t (0,0))) :
  ∃ w',((((((w.setCell ⟨k,0,none⟩ a').setCell ⟨k,1,none⟩ b').setCell ⟨k,2,none⟩ c').setCell ⟨k,3,none⟩ d').setCell ⟨k,4,none⟩ e').setCell ⟨k,5,none⟩ f').setCell ⟨k,6,none⟩ g'=w' ∧
   Mod (fun x=>x=k) w w'∧w'.heap[k]?=some (.cells #[a',b',c',d',e',f',g'] t (0,0)):=by
 refine ⟨_,rfl,?_,?_⟩
 ·refine z0m (z0m (z0m (z0m (z0m (z0m (z0m ((Gr.refl w).mod _) ?_ _) ?_ _) ?_ _) ?_ _) ?_ _) ?_ _) ?_ _<;>exact fun _=>rfl
 ·have:=z02 (j:=6) (z02 (j:=5) (z02 (j:=4) (z02 (j:=3) (z02 (j:=2) (z02 (j:=1) (z02 (j:=0) h a') b') c') d') e') f') g'
  simpa only [List.setIfInBounds_toArray,List.set_cons_zero,List.set_cons_succ] using this
def z4D (M S:Bl) (k:Nat) (a:Ans) (E':ES) (w:World) (en:Ending) (w2:World):Prop :=
 ∃ dv ev M' S',en=.returned (ansV a dv ev)∧EngR w2 M' S' k E'∧z0j w M S w2 M' S'∧BysM w2 M' dv a.data∧z08 evR w2 M' ev a.events
def RetF (M S:Bl) (k:Nat) (x:Ans × Option ES) (w:World) (en:Ending) (w2:World):Prop :=
 match x with
 | (a,some E')=>∃ dv ev M' S',en=.returned (.tuple #[ansV a dv ev,.bool false])∧EngR w2 M' S' k E'∧z0j w M S w2 M' S'∧BysM w2 M' dv a.data∧z08 evR w2 M' ev a.events
 | (_,none)=>∃ a A n c A' n' c',en=.returned (.tuple #[ansV a (.slice A n c) (.slice A' n' c'),.bool true])∧Mod S w w2
theorem z0F {w w1 w2 w3:World} {M S M2 S2:Bl} {k b4:Nat} {E':ES} {a:Ans} {dv ev:Value} (hS:∀ b,S b→b<w.heap.size) (g1:Gr w w1) (hb4:w.heap.size≤b4) (hb41:b4<w1.heap.size)
  (heng:EngR w2 M2 S2 k E') (hal:z0j w1 (fun b=>M b∨b=b4) S w2 M2 S2) (hd:BysM w2 M2 dv a.data) (he:z08 evR w2 M2 ev a.events) (m:Mod (fun x=>x=b4) w2 w3) :
  EngR w3 M2 S2 k E'∧z0j w M S w3 M2 S2∧BysM w3 M2 dv a.data∧z08 evR w3 M2 ev a.events:=by
 have h4:M2 b4:=hal.mm b4 (.inr rfl)
 have n4:¬ S2 b4:=fun e=>by have:=hS b4 (hal.s b4 hb41 e);omega
 have u:Up M2 w2 M2 w3:=Mod.up m (fun _ _ e=>e▸h4)
 refine ⟨heng.setOther m h4 n4,⟨?_,fun b hb e=>hal.s b (Nat.lt_of_lt_of_le hb g1.size) e,fun b hb e=>?_,fun b e=>hal.mm b (.inl e)⟩,hd.up u,he.up u⟩
 ·have h1:Mod S w w2:=(g1.mod S).trans hal.mod (fun _ _ e=>e)
  exact h1.trans m (fun b hb e=>by omega)
 ·rcases hal.m b (Nat.lt_of_lt_of_le hb g1.size) e with h | h
  ·exact h
  ·omega
theorem z3W {w1 wr w6 w7 w8 w9:World} {M1 S1 Mi Si M7 S7 M8 S8:Bl} {k:Nat} (hal:z0j w1 M1 S1 wr Mi Si) (g6:Gr wr w6) (g7:Gr w6 w7) (hMM:∀ b,Mi b→M7 b) (hMo:∀ b,b<w6.heap.size→M7 b→Mi b) (hS7:∀ b,S7 b→w6.heap.size≤b)
  (hal8:z0j w7 M7 S7 w8 M8 S8) (m9:Mod (fun b=>b=k) w8 w9) (hk:Si k):z0j w1 M1 S1 w9 M8 (fun b=>S8 b∨b=k):=by
 have s1:=hal.mod.size
 have s6:=g6.size
 have s7:=g7.size
 refine ⟨?_,fun b hb e=>?_,fun b hb e=>?_,fun b e=>hal8.mm b (hMM b (hal.mm b e))⟩
 ·have h1:Mod S1 w1 w7:=hal.mod.trans ((g6.trans g7).mod S1) (fun _ _ e=>e)
  have h2:Mod S1 w1 w8:=h1.trans hal8.mod (fun b hb e=>by have:=hS7 b e;omega)
  exact h2.trans m9 (fun b hb e=>hal.s b hb (e▸hk))
 ·rcases e with e | e
  ·have:=hS7 b (hal8.s b (by omega) e)
   omega
  ·exact hal.s b hb (e▸hk)
 ·exact hal.m b hb (hMo b (by omega) (hal8.m b (by omega) e))
theorem z4q {w w1 w2 w3:World} {S:Bl} {b4:Nat} (g1:Gr w w1) (hb4:w.heap.size≤b4) (h:Mod S w1 w2) (m:Mod (fun x=>x=b4) w2 w3):Mod S w w3 :=
 ((g1.mod S).trans h (fun _ _ e=>e)).trans m (fun b hb e=>by omega)
end Go.Proofs.YtniknicnnaiilaaGreat
end
