/- Lemmas of the engine. -/
import Derived.Test.YtniknicnnaiilaaGreatX04
import Derived.Test.YtniknicnnaiilaaGreatX05
import Derived.Test.YtniknicnnaiilaaGreatX11
import Derived.Test.YtniknicnnaiilaaGreatX17
import Derived.Test.YtniknicnnaiilaaGreatX22
import Derived.Test.YtniknicnnaiilaaGreatX30
import Derived.Test.YtniknicnnaiilaaGreatX36
section
namespace Go.Proofs.YtniknicnnaiilaaGreat
set_option maxRecDepth 100000
open Go.RowKit Go.Ext Go.BigFrame Go.Maps Go.MapKept
attribute [local go_sem] Ext.cell Ext.frozen Ext.lt Ext.le s1 s2 s3 s4 s5 s6 t1 t2 t3 t4 t5 t6
attribute [local go_sem ↓] Go.wp_at_zero Go.wp_at_succ
theorem z8O (a b c d e f g h i j:Value) (w:World):(Instr.field 31 (.agg #[a,b,c,d,e,f,g,h,i,j]) 0).run Tryz.prog w=.ok a w:=by kernel_rfl
theorem z3L (a b c d e f g h i j:Value) (w:World):(Instr.field 31 (.agg #[a,b,c,d,e,f,g,h,i,j]) 3).run Tryz.prog w=.ok d w:=by kernel_rfl
theorem z1E (a b c d e f g h i j:Value) (w:World):(Instr.field 31 (.agg #[a,b,c,d,e,f,g,h,i,j]) 6).run Tryz.prog w=.ok j w:=by kernel_rfl
structure Lw (w0 w:World) (M S:Bl) (k:Nat) (E:ES) (n:Nat):Prop where
 law:Law w0 w M S k E n
 m:∀ b,M b→w0.heap.size≤b
section
variable {w0 w w' w2:World} {M S M2 S2:Bl} {k n:Nat} {E E':ES}
theorem Lw.gr (h:Lw w0 w M S k E n) (g:Gr w w'):Lw w0 w' M S k E n:=⟨h.law.gr g,h.m⟩
theorem Lw.step {m:Nat} (h:Lw w0 w M S k E n) (hal:z0j w M S w2 M2 S2) (heng:EngR w2 M2 S2 k E') (he:E1 E' m):Lw w0 w2 M2 S2 k E' m :=
 ⟨h.law.step hal heng he,fun b e=>by
  by_cases hb:b<w.heap.size
  ·exact h.m b (hal.m b hb e)
  ·have:=h.law.g.size
   omega⟩
end
def zeH (w0:World) (M S:Bl) (k:Nat) (x:Ans × ES) (n:Nat) (w:World) (en:Ending) (w2:World):Prop :=
 ∃ A c A' c' M' S',en=.returned (ansV x.1 (.slice A x.1.data.length c) (.slice A' x.1.events.length c'))∧Lw w0 w2 M' S' k x.2 (n+100)∧z0j w M S w2 M' S'∧BysM w2 M' (.slice A x.1.data.length c) x.1.data∧z08 evR w2 M' (.slice A' x.1.events.length c') x.1.events
theorem Lw.call {w0 w:World} {M S:Bl} {k n:Nat} {E:ES} (h:Lw w0 w M S k E n) (c:Call) (d l:Value) (hn:n≤998000) (hc:z0P w M c d l) (hll:c.l.length≤140737488351232) (hdd:∀ d∈c.l,d.data.length≤140737488351232) :
  Calls Tryz.prog 14 #[.pointer (some ⟨k,0,none⟩),z0E c d l] w (zeH w0 M S k (z0z E c) n w):=by
 refine (z4n k E c d l M S w h.law.eng h.law.e1 hn hc hll hdd).mono ?_
 rintro en w2 ⟨dv,ev,M2,S2,rfl,h2,hal2,hd2,he2⟩
 obtain ⟨A,ca,rfl⟩:=hd2.shape
 obtain ⟨A',ca',rfl,_⟩:=he2.shape
 exact ⟨A,ca,A',ca',M2,S2,rfl,h.step hal2 h2 (h.law.e1.call c),hal2,hd2,he2⟩
theorem z56 (w:World):Calls Tryz.prog 13 #[] w (fun en w'=>∃ k M S,en=.returned (.pointer (some ⟨k,0,none⟩))∧Lw w w' M S k (e0 0 1) 0):=by
 go_enter Tryz.func13,Tryz.ntmps13
 go_wp2_with fail
 refine (z4x (fun _=>False) w (fun _ e=>e.elim)).mono ?_
 rintro en w1 ⟨M1,S1,k,rfl,g,he,-,hm,hs⟩
 have L1:=hid (show Lw w w1 M1 S1 k (e0 0 1) 0 from ⟨⟨he,zbu,g,hs⟩,fun b e=>Nat.le_of_not_lt fun hb=>hm b hb e⟩)
 clear g he hm hs
 go_wp2_with fail
 go_ret
 exact ⟨k,M1,S1,rfl,L1.o⟩
set_option maxHeartbeats 4000000 in
theorem z3b {w0 w:World} {M S:Bl} {k n:Nat} {E:ES} (h:Lw w0 w M S k E n) (list:Int) (hn:n≤998000) :
  Calls Tryz.prog 16 #[.pointer (some ⟨k,0,none⟩),.int .i64 list] w (zeH w0 M S k (z0z E ⟨7,0,list,0,tok0,[],[]⟩) n w):=by
 have HL:=hid h
 have HS:=hid (show ∀ b,S b→b<w.heap.size from fun b e=>h.law.eng.lt.1 b (h.law.eng.lt.2.1 b e))
 have HN:=hid (h.law.eng.nS (Nat.le_refl w.heap.size))
 obtain ⟨w1,hw1⟩:∃ w1,w.alloc (.cells #[.int .i64 0,.int .i64 0,.int .i64 0,.bool false,.int .i64 0,.int .i64 0,.int .i64 0,.int .i64 0,.slice none 0 0,.slice none 0 0] 31)=w1:=⟨_,rfl⟩
 have HB:=hid (hw1▸heap_alloc_new w (.cells #[.int .i64 0,.int .i64 0,.int .i64 0,.bool false,.int .i64 0,.int .i64 0,.int .i64 0,.int .i64 0,.slice none 0 0,.slice none 0 0] 31))
 have G1:=hid (hw1▸(Gr.refl w).alloc (.cells #[.int .i64 0,.int .i64 0,.int .i64 0,.bool false,.int .i64 0,.int .i64 0,.int .i64 0,.int .i64 0,.slice none 0 0,.slice none 0 0] 31))
 have HM:=hid (show EngR w1 (fun b=>M b∨b=w.heap.size) S k E from h.law.eng.more G1.o (Nat.le_refl _) (block_lt HB.o))
 have HW1:=hid hw1
 have HC:=hid (z4n k E ⟨7,0,list,0,tok0,[],[]⟩ (.slice none 0 0) (.slice none 0 0) _ S w1 HM.o h.law.e1 hn (z0q _ _ _ rfl rfl) (by simp) (by simp))
 have HE1:=hid (h.law.e1.call ⟨7,0,list,0,tok0,[],[]⟩)
 obtain ⟨⟨a,E'⟩,hx⟩:∃ x,z0z E ⟨7,0,list,0,tok0,[],[]⟩=x:=⟨_,rfl⟩
 rw [hx] at HC HE1 ⊢
 clear hx hw1 h
 go_enter Tryz.func16,Tryz.ntmps16
 go_upto_region 1 with fail
 rw [HW1.o]
 go_wp2_with fail
 refine HC.o.mono ?_
 rintro en w2 ⟨dv,ev,M2,S2,rfl,h2,hal2,hd2,he2⟩
 obtain ⟨A,ca,rfl⟩:=hd2.shape
 obtain ⟨A',ca',rfl,_⟩:=he2.shape
 have H2:=hid h2
 have HAL:=hid hal2
 have HD:=hid hd2
 have HEV:=hid he2
 have hb2:=(hal2.keepb HB.o HN.o).1
 clear h2 hal2 hd2 he2
 rcases a with ⟨v0,v1,v2,v3,⟨v4,v5,v6,v7⟩,v8,v9⟩
 simp only [ansV,ansC] at *
 obtain ⟨n8,hn8⟩:∃ n,v8.length=n:=⟨_,rfl⟩
 obtain ⟨n9,hn9⟩:∃ n,v9.length=n:=⟨_,rfl⟩
 have HN8:=hid hn8
 have HN9:=hid hn9
 rw [hn8,hn9]
 clear hn8 hn9
 obtain ⟨b0,b1,b2,b3,b4,b5,b6,b7,b8,b9⟩:=z04 hb2
 have lb:=block_lt hb2
 obtain ⟨f0,f1,f2,f3,f4,f5,f6,f7,f8,f9⟩:=FZ hb2
 have HF:=hid (show ∀ w3,Mod (fun x=>x=w.heap.size) w2 w3→zeH w0 M S k (⟨v0,v1,v2,v3,⟨v4,v5,v6,v7⟩,v8,v9⟩,E') n w (.returned (ansV ⟨v0,v1,v2,v3,⟨v4,v5,v6,v7⟩,v8,v9⟩ (.slice A n8 ca) (.slice A' n9 ca'))) w3 from fun w3 m=>by
  have hfin:=z0F (a:=⟨v0,v1,v2,v3,⟨v4,v5,v6,v7⟩,v8,v9⟩) HS.o G1.o (Nat.le_refl _) (block_lt HB.o) H2.o HAL.o HD.o HEV.o m
  refine ⟨A,ca,A',ca',M2,S2,?_,HL.o.step hfin.2.1 hfin.1 HE1.o,hfin.2.1,hfin.2.2.1,hfin.2.2.2⟩
  rw [← HN8.o,← HN9.o])
 clear hb2
 go_wp2_with fail
 refine bodyPost_ret (v:=ansV ⟨v0,v1,v2,v3,⟨v4,v5,v6,v7⟩,v8,v9⟩ (.slice A n8 ca) (.slice A' n9 ca')) (by simp [results,Tryz.results16,go_sem,ansV,ansC,b0,b1,b2,b3,b4,b5,b6,b7,b8,b9]) rfl ?_
 refine HF.o _ ?_
 exact z1f w2 w.heap.size _ _ _ _ _ _ _ _ _ _
def zh8 (w0:World) (M S:Bl) (k:Nat) (x:Ans × ES) (n:Nat) (w:World) (en:Ending) (w2:World):Prop:=∃ M' S',en=.returned (.int .i64 x.1.err)∧Lw w0 w2 M' S' k x.2 (n+100)∧z0j w M S w2 M' S'
set_option maxHeartbeats 4000000 in
theorem z1q {w0 w:World} {M S:Bl} {k n:Nat} {E:ES} (h:Lw w0 w M S k E n) (t:Tok) (l:List Dec) (lv:Value) (hn:n≤998000) (hl:z08 decR w M lv l) (hll:l.length≤100000) (hdd:∀ d∈l,d.data.length≤1000000) :
  Calls Tryz.prog 15 #[.pointer (some ⟨k,0,none⟩),.agg #[.int .i64 t.flow,.int .i64 t.run,.int .i64 t.event,.int .i64 t.turn],lv] w
   (zh8 w0 M S k (z0z E ⟨8,0,0,0,t,[],l⟩) n w):=by
 obtain ⟨Al,cl,rfl,_⟩:=hl.shape
 rcases t with ⟨t0,t1,t2,t3⟩
 have hg:=(Gr.refl w).alloc (.cells #[.int .i64 t0,.int .i64 t1,.int .i64 t2,.int .i64 t3] 28)
 have hc:=(h.gr hg).call ⟨8,0,0,0,⟨t0,t1,t2,t3⟩,[],l⟩ (.slice none 0 0) (.slice Al l.length cl) hn ⟨BysM.none _ _,hl.up (Gr.up hg M)⟩ (by simp only;omega) (fun d hd=>Nat.le_trans (hdd d hd) (by omega))
 have HC:=hid hc
 have G:=hid hg
 obtain ⟨⟨a,E'⟩,hx⟩:∃ x,z0z E ⟨8,0,0,0,⟨t0,t1,t2,t3⟩,[],l⟩=x:=⟨_,rfl⟩
 rw [hx] at HC ⊢
 clear hx h hl hc hg hll hdd
 go_enter Tryz.func15,Tryz.ntmps15
 simp only [z0E,z1U] at HC
 generalize l.length=ll at *
 go_wp2_with fail
 refine HC.o.mono ?_
 rintro en w2 ⟨A,c,A',c',M2,S2,rfl,l2,hal2,-,-⟩
 have L2:=hid l2
 have AL:=hid ((z0j.refl w M S).gr G.o |>.trans hal2)
 clear l2 hal2
 rcases a with ⟨v0,v1,v2,v3,⟨v4,v5,v6,v7⟩,v8,v9⟩
 simp only [ansV,ansC]
 generalize v8.length=n8 at *
 generalize v9.length=n9 at *
 have hfld:=z8O
 go_wp2_with fail
 go_ret
 exact ⟨M2,S2,rfl,L2.o,AL.o⟩
abbrev e1 (list n:Int) (d:List UInt8):Ev:=⟨1,0,0,0,list,n,d⟩
abbrev e2 (list:Int):Ev:=⟨2,0,0,0,list,0,[]⟩
abbrev e3:Ev:=⟨3,0,2,0,0,0,[]⟩
abbrev e4:Ev:=⟨4,0,3,0,0,0,[]⟩
abbrev e17 (C n:Int) (d:List UInt8):Ev:=⟨17,0,0,C,2,n,d⟩
abbrev e18 (C st:Int) (d:List UInt8):Ev:=⟨18,0,5,C,0,st,d⟩
abbrev FL (id run list n task place begun:Int) (l:List Ev) (op:List (Int × Opn)):FS:=⟨id,run,list,n,l,task,place,begun,0,false,false,op⟩
abbrev St (runs:List (Int × RunS)) (dec:Rows) (due:List It):ES:=⟨0,1,0,runs,dec,[],due⟩
abbrev gA (id run ref:Int):Ans:={ ans0 with given:=true,tok:=⟨id,run,ref,0⟩ }
abbrev nF (id run list n:Int) (d:List UInt8):FS:=FL id run list n 1 2 0 [e1 list n d,e2 list] []
abbrev bF (id run list n:Int) (d:List UInt8):FS:=FL id run list n 2 2 3 [e1 list n d,e2 list,e3] []
abbrev wF (P C n:Int) (d:List UInt8):FS:=FL P 1 1 50 0 2 3 [e1 1 50 [],e2 1,e3,e4,e17 C n d] [(5,⟨17,C,0⟩)]
abbrev tF (P C n:Int) (d:List UInt8) (st:Int) (x:List UInt8):FS:=FL P 1 1 50 1 7 0 [e1 1 50 [],e2 1,e3,e4,e17 C n d,e18 C st x,e2 1] []
def S1 (P:Int):ES:=St [(P,⟨nF P 1 1 50 [],0,0⟩)] [(1,[⟨P,1,2,0⟩])] []
def S2 (P:Int) (D:List It):ES:=St [(P,⟨bF P 1 1 50 [],0,0⟩)] [] D
def S3 (P C n:Int) (d0:List UInt8) (r:Int) (d:List UInt8) (D:List It):ES:=St [(P,⟨wF P C n d0,0,0⟩),(C,⟨nF C r 2 n d,P,1⟩)] [(2,[⟨C,r,2,0⟩])] D
def S4 (P C n:Int) (d0:List UInt8) (r:Int) (d:List UInt8) (D:List It):ES:=St [(P,⟨wF P C n d0,0,0⟩),(C,⟨bF C r 2 n d,P,1⟩)] [] D
def S5 (P C n:Int) (d0:List UInt8) (st:Int) (x:List UInt8) (X:RunS) (D:List It):ES:=St [(P,⟨tF P C n d0 st x,0,0⟩),(C,X)] [(1,[⟨P,1,7,0⟩])] D
def R1 (C:Int):ES:=St [(C,⟨nF C 1 5 50 [],0,0⟩)] [(5,[⟨C,1,2,0⟩])] []
def R2 (P C:Int):ES:=St [(C,⟨nF C 1 5 50 [],0,0⟩),(P,⟨nF P 1 1 50 [],0,0⟩)] [(5,[⟨C,1,2,0⟩]),(1,[⟨P,1,2,0⟩])] []
def R3 (P C:Int) (D:List It):ES:=St [(C,⟨nF C 1 5 50 [],0,0⟩),(P,⟨bF P 1 1 50 [],0,0⟩)] [(5,[⟨C,1,2,0⟩])] D
def R4 (P C:Int) (d:List UInt8) (D:List It):ES:=St [(C,⟨nF C 1 5 50 [],0,0⟩),(P,⟨tF P C 50 d 0 [],0,0⟩)] [(5,[⟨C,1,2,0⟩]),(1,[⟨P,1,7,0⟩])] D
attribute [local simp] z13 z1Q z2l z3f sh0 doE z2n z0U newF z1L z07 putF z3h out0 z38 rowOf lk up rm popE z3A z2L popR setR z3G z1v z1y z2b z0k z2s z2Z z1z tryF z0Q z1n z2F outE z2P z3g z3j z0h z0x z2r ok z0T z0B z1P ans0 z0b tok0 e0 f0 numB z2o z18 z19 hasN z1J z17 hasL z16 z1Z askE z2p z1p badF badL z2j mayF takeB z37 isOf z2t zaO z0n z0d z0J z2X atF z1a z1m z15 z6R z0y
abbrev Nm (x:Int):Prop:=0≤x∧x≤1048576
def cntD (end_:Int) (L:List It):Nat:=(L.filter fun x=>decide (x.1≤end_)).length
theorem zeS (end_:Int) (L:List It):cntD end_ L≤L.length:=List.length_filter_le _ _
theorem zaE (p:It→Bool) (x:It) (hx:p x=false) (L:List It):(ins L x).filter p=L.filter p:=by
 unfold ins
 rw [List.filter_append,List.filter_cons,hx]
 simp only [Bool.false_eq_true,if_false]
 rw [← List.filter_append,List.take_append_drop]
theorem z9u (end_:Int) (L:List It) (y:Int × Int × Int × Int × Int):cntD end_ (addD L (end_+1,y))=cntD end_ L:=by
 unfold addD cntD
 split
 ·rfl
 ·rw [zaE]
  simp
  omega
theorem z2G {end_:Int} {E:ES} (h:due E.due end_=false):∀ n,z1t end_ n E=E
 | 0=>rfl
 | n+1=>by
  unfold z1t
  split
  ·rfl
  ·rename_i i r e
   rw [e] at h
   simp [due,hd] at h
   rw [if_pos h]
theorem z3i {end_:Int} {E:ES} {i:It} {r:List It} (e:E.due=i::r) (h:i.1≤end_) (n:Nat) :
  z1t end_ (n+1) E=match z1M { E with due:=r } i with | some E'=>z1t end_ n E' | none=>z1t end_ n { E with due:=addD r (end_+1,i.2) }:=by
 rw [z1t]
 rw [e]
 simp only
 rw [if_neg (by omega)]
 rfl
theorem z4o {end_:Int} {i:It} {r:List It} (h:i.1≤end_):cntD end_ (i::r)=cntD end_ r+1:=by
 unfold cntD
 simp [h]
def z0S (E:ES) (n:Int):Int × ES :=
 if n<1∨1048576<n then (1,E) else if 1099511627776-n<E.now then (4,E) else (0,{ z1t (E.now+n) E.due.length E with now:=E.now+n })
structure HS where
 n:Int
 at_:Int
 closed:Int
 kinds:List (Int × Int)
 ids:List (Int × Int)
 task:Int
 begun:Bool
 wof:List (Int × Int)
 wfr:List (Int × Int)
def h00:HS:=⟨0,0,0,[],[],0,false,[],[]⟩
def lz (l:List (Int × Int)) (k:Int):Int:=(lk l k).getD 0
def addH (H:HS) (e:Ev):HS :=
 if e.kind=2∨e.kind=3 then { H with n:=H.n+1,at_:=e.tick,task:=H.n+1,begun:=e.kind==3 } else
 if e.kind=4∨e.kind=5∨e.kind=6 then { H with n:=H.n+1,at_:=e.tick,task:=0,begun:=false } else
 if e.kind=7∨e.kind=12∨e.kind=17 then { H with n:=H.n+1,at_:=e.tick,kinds:=up H.kinds (H.n+1) e.kind,ids:=up H.ids (H.n+1) e.id } else
 if e.kind=8 then { H with n:=H.n+1,at_:=e.tick,wof:=up H.wof (H.n+1) e.ref,wfr:=up H.wfr e.ref (H.n+1) } else
 if e.kind=9∨e.kind=10∨e.kind=11 then { H with n:=H.n+1,at_:=e.tick,wof:=rm H.wof e.ref,wfr:=rm H.wfr (lz H.wof e.ref),kinds:=rm H.kinds (lz H.wof e.ref),ids:=rm H.ids (lz H.wof e.ref) } else
 if e.kind=13∨e.kind=14∨e.kind=18 then { H with n:=H.n+1,at_:=e.tick,kinds:=rm H.kinds e.ref,ids:=rm H.ids e.ref } else
 if 19≤e.kind then { H with n:=H.n+1,at_:=e.tick,closed:=e.kind } else
 { H with n:=H.n+1,at_:=e.tick }
def RefP (H:HS) (e:Ev):Prop :=
 if e.kind=3 then H.task≠0∧H.begun=false∧e.ref=H.task else
 if e.kind=4∨e.kind=5∨e.kind=6 then H.task≠0∧H.begun=true∧e.ref=H.task else
 if e.kind=8 then lk H.kinds e.ref=some 7∧lk H.wfr e.ref=none else
 if e.kind=9∨e.kind=10∨e.kind=11 then lz H.wof e.ref≠0 else
 if e.kind=13∨e.kind=14 then lk H.kinds e.ref=some 12 else
 if e.kind=18 then lk H.kinds e.ref=some 17 else e.ref=0
structure FitP (H:HS) (e:Ev):Prop where
 k:1≤e.kind∧e.kind≤23
 tick:0≤e.tick∧e.tick≤1099511627776
 ref:0≤e.ref∧e.ref≤1099511627776
 id:0≤e.id∧e.id≤1099511627776
 list:0≤e.list∧e.list≤1099511627776
 n:0≤e.n∧e.n≤1099511627776
 data:e.data.length≤4096
 at_:H.at_≤e.tick
 first:H.n=0↔e.kind=1
 cl:H.closed=0
 rf:RefP H e
 t2:e.kind=2→H.task=0
 us:e.kind=7∨e.kind=12∨e.kind=17→∀ x∈H.kinds,x.2=e.kind→lz H.ids x.1≠e.id
def ChkP:HS→List Ev→Prop
 | _,[]=>True
 | H,e::r=>FitP H e∧ChkP (addH H e) r
theorem ChkP.app:∀ {l:List Ev} {H:HS} {e:Ev},ChkP H l→FitP (l.foldl addH H) e→ChkP H (l++[e])
 | [],_,_,_,h=>⟨h,trivial⟩
 | _::_,_,_,h,h'=>⟨h.1,ChkP.app h.2 h'⟩
abbrev fin (l:List Ev):HS:=l.foldl addH h00
theorem zbH (l:List Ev) (e:Ev):fin (l++[e])=addH (fin l) e:=by simp [fin]
structure Rl (F:FS) (H:HS):Prop where
 n:H.n=F.l.length
 at_:H.at_=match F.l.getLast? with | none=>0 | some e=>e.tick
 cl:H.closed=0
 t0:F.task=0→H.task=0
 t1:F.task=1→H.task=F.place∧H.begun=false∧1≤H.task
 t2:F.task=2→H.task=F.begun∧H.begun=true∧1≤H.task
 tn:0≤H.task∧H.task≤H.n
 ki:H.kinds=mp (·.kind) F.op
 id:H.ids=mp (·.id) F.op
 w7:∀ x∈F.op,x.2.works≠0→x.2.kind=7
 fr:∀ k,lk H.wfr k=(lk F.op k).bind fun o=>if o.works=0 then none else some o.works
 wf:∀ j k,lk H.wof j=some k↔∃ o,lk F.op k=some o∧o.works=j∧j≠0
 nf:(H.wfr.map (·.1)).Nodup
 no:(H.wof.map (·.1)).Nodup
 li:0≤F.list∧F.list≤1048576
theorem z9g {α:Type}:∀ {l:List (Int × α)} {k:Int} {v:α},lk l k=some v→up l k v=l
 | [],_,_,h=>by simp [lk] at h
 | x::r,k,v,h=>by
  simp only [lk] at h
  simp only [up]
  split at h
  ·rename_i e
   injection h with h
   rw [if_pos e,← h,← e]
  ·rename_i e
   rw [if_neg e,z9g h]
theorem z4w (l:List Ev) (e:Ev):(match (l++[e]).getLast? with | none=>0 | some e=>e.tick)=e.tick:=by simp
theorem Rl.plain {F F':FS} {H:HS} {e:Ev} (h:Rl F H) (hl:F'.l=F.l++[e]) (ho:F'.op=F.op) (hli:0≤F'.list∧F'.list≤1048576) (T:Int) (B:Bool) (ht0:F'.task=0→T=0) (ht1:F'.task=1→T=F'.place∧B=false∧1≤T)
  (ht2:F'.task=2→T=F'.begun∧B=true∧1≤T) (htn:0≤T∧T≤H.n+1):Rl F' { H with n:=H.n+1,at_:=e.tick,task:=T,begun:=B } :=
 ⟨by simp only [hl,List.length_append,List.length_cons,List.length_nil,h.n];omega,by simp only [hl,z4w],h.cl,ht0,ht1,ht2,htn,by rw [ho];exact h.ki,by rw [ho];exact h.id,by rw [ho];exact h.w7,by rw [ho];exact h.fr,by rw [ho];exact h.wf,h.nf,h.no,hli⟩
theorem Rl.drop {F F':FS} {H:HS} {e:Ev} {k:Int} {o:Opn} (hi:FI F) (h:Rl F H) (hk:lk F.op k=some o) (hw:o.works=0) (hl:F'.l=F.l++[e]) (ho:F'.op=rm F.op k) (hli:F'.list=F.list) (ht:F'.task=F.task) (hp:F'.place=F.place) (hb:F'.begun=F.begun) :
  Rl F' { H with n:=H.n+1,at_:=e.tick,kinds:=rm H.kinds k,ids:=rm H.ids k }:=by
 refine ⟨by simp only [hl,List.length_append,List.length_cons,List.length_nil,h.n];omega,by simp only [hl,z4w],h.cl,by rw [ht];exact h.t0,by rw [ht,hp];exact h.t1,by rw [ht,hb];exact h.t2,by have:=h.tn;simp only;omega,by rw [ho,h.ki];exact z4Z _ _ _,by rw [ho,h.id];exact z4Z _ _ _,
  fun x hx=>h.w7 x ((z2Q _ _).subset (ho▸hx)),fun q=>?_,fun j q=>?_,h.nf,h.no,by rw [hli];exact h.li⟩
 ·rw [h.fr q,ho]
  by_cases e:q=k
  ·subst e
   rw [hk,z1G hi.nodup]
   simp [hw]
  ·rw [z1V _ e]
 ·rw [h.wf j q,ho]
  by_cases e:q=k
  ·subst e
   rw [hk,z1G hi.nodup]
   constructor
   ·rintro ⟨o',e1,e2,e3⟩
    injection e1 with e1
    subst e1
    exact absurd (e2.symm.trans hw) e3
   ·rintro ⟨o',e1,_⟩
    cases e1
  ·rw [z1V _ e]
theorem ze0 {F:FS} (hi:FI F) {k j:Int} {o:Opn} (hk:lk F.op k=some o) (h7:o.kind=7) (hw:o.works=j) (hj:j≠0):ofF F.op j=k:=by
 unfold ofF
 cases hf:F.op.find? fun x=>x.2.kind==7 && x.2.works==j with
 | none =>
  rw [List.find?_eq_none] at hf
  exact absurd (by simp [h7,hw]) (hf _ (z0K hk))
 | some x =>
  have h1:=List.find?_some hf
  have h2:=List.mem_of_find?_eq_some hf
  simp only [Bool.and_eq_true,beq_iff_eq] at h1
  have:=hi.wuniq x h2 (k,o) (z0K hk) (by rw [h1.2];exact hj) (h1.2.trans hw.symm)
  rw [this]
  rfl
theorem Rl.put {F:FS} {H:HS} {e:Ev} (hi:FI F) (hp:z3p F e) (h:Rl F H) (hf:FitP H e) (hk:e.kind<19) (hl1:e.kind=1→e.list≤1048576):Rl (putF F e) (addH H e):=by
 have htn:=h.tn
 have hn:=h.n
 have hat:(atF F)=H.n+1:=by unfold atF;rw [hn]
 have rf:=hf.rf
 unfold RefP at rf
 have hk1:=hf.k.1
 have hkk:e.kind=1∨e.kind=2∨e.kind=3∨(e.kind=4∨e.kind=5∨e.kind=6)∨(e.kind=7∨e.kind=12∨e.kind=17)∨e.kind=8∨(e.kind=9∨e.kind=10∨e.kind=11)∨(e.kind=13∨e.kind=18)∨e.kind=14∨e.kind=15∨e.kind=16:=by omega
 have same:∀ T:HS→HS,True:=fun _=>trivial
 clear same
 rcases hkk with e1 | e1 | e1 | e1 | e1 | e1 | e1 | e1 | e1 | e1 | e1
 ·have h':=hf.list
  have h1:=hl1 e1
  exact (show addH H e={ H with n:=H.n+1,at_:=e.tick,task:=H.task,begun:=H.begun } by simp [addH,e1])▸(show putF F e={ F with l:=F.l++[e],list:=e.list,n:=e.n } by simp [putF,e1])▸h.plain (F':={ F with l:=F.l++[e],list:=e.list,n:=e.n }) rfl rfl ⟨h'.1,h1⟩ _ _ h.t0 h.t1 h.t2 (by omega)
 ·exact (show addH H e={ H with n:=H.n+1,at_:=e.tick,task:=H.n+1,begun:=false } by simp [addH,e1])▸(show putF F e={ F with l:=F.l++[e],task:=1,place:=atF F,begun:=0,turn:=e.n,late:=false } by simp [putF,e1]) ▸
   h.plain (F':={ F with l:=F.l++[e],task:=1,place:=atF F,begun:=0,turn:=e.n,late:=false }) rfl rfl h.li _ _ (fun e=>by simp at e) (fun _=>⟨hat.symm,rfl,by omega⟩) (fun e=>by simp at e) (by omega)
 ·exact (show addH H e={ H with n:=H.n+1,at_:=e.tick,task:=H.n+1,begun:=true } by simp [addH,e1])▸(show putF F e={ F with l:=F.l++[e],task:=2,begun:=atF F,late:=false } by simp [putF,e1]) ▸
   h.plain (F':={ F with l:=F.l++[e],task:=2,begun:=atF F,late:=false }) rfl rfl h.li _ _ (fun e=>by simp at e) (fun e=>by simp at e) (fun _=>⟨hat.symm,rfl,by omega⟩) (by omega)
 ·have ha:addH H e={ H with n:=H.n+1,at_:=e.tick,task:=0,begun:=false }:=by
   unfold addH
   rw [if_neg (by omega),if_pos e1]
  rw [ha]
  have ht:(putF F e).task=0∧(putF F e).l=F.l++[e]∧(putF F e).op=F.op∧(putF F e).list=F.list:=by
   rcases e1 with e1 | e1 | e1<;>simp [putF,e1]
  exact h.plain ht.2.1 ht.2.2.1 (by rw [ht.2.2.2];exact h.li) _ _ (fun _=>rfl) (fun e=>by rw [ht.1] at e;simp at e) (fun e=>by rw [ht.1] at e;simp at e) (by omega)
 ·have ha:addH H e={ H with n:=H.n+1,at_:=e.tick,kinds:=up H.kinds (H.n+1) e.kind,ids:=up H.ids (H.n+1) e.id }:=by
   unfold addH
   rw [if_neg (by omega),if_neg (by omega),if_pos e1]
  have hpu:putF F e={ F with l:=F.l++[e],op:=up F.op (atF F) ⟨e.kind,e.id,0⟩ }:=by
   rcases e1 with e1 | e1 | e1<;>simp [putF,e1]
  have hfresh:lk F.op (atF F)=none:=by
   cases hx:lk F.op (atF F) with
   | none=>rfl
   | some v=>have:=(hi.keys _ (z0K hx)).2.1;unfold atF at this;simp only at this;omega
  rw [ha,hpu]
  refine ⟨by simp only [List.length_append,List.length_cons,List.length_nil,hn];omega,by simp only [z4w],h.cl,h.t0,h.t1,h.t2,by simp only;omega,by simp only;rw [h.ki,← hat];exact z7n _ _ (⟨e.kind,e.id,0⟩:Opn) _,by simp only;rw [h.id,← hat];exact z7n _ _ (⟨e.kind,e.id,0⟩:Opn) _,
   fun x hx hw=>?_,fun q=>?_,fun j q=>?_,h.nf,h.no,h.li⟩
  ·rcases z1K hx with rfl | hx
   ·exact absurd rfl hw
   ·exact h.w7 x hx hw
  ·simp only
   rw [h.fr q]
   by_cases e:q=atF F
   ·subst e
    rw [hfresh,z0g]
    rfl
   ·rw [z0G _ _ e]
  ·simp only
   rw [h.wf j q]
   by_cases e:q=atF F
   ·subst e
    rw [hfresh,z0g]
    constructor
    ·rintro ⟨_,e1,_⟩;cases e1
    ·rintro ⟨o,e1,e2,e3⟩
     injection e1 with e1
     subst e1
     exact absurd e2.symm e3
   ·rw [z0G _ _ e]
 ·have h8:=hp.k8 e1
  have ha:addH H e={ H with n:=H.n+1,at_:=e.tick,wof:=up H.wof (H.n+1) e.ref,wfr:=up H.wfr e.ref (H.n+1) }:=by simp [addH,e1]
  have hpu:putF F e={ F with l:=F.l++[e],op:=up F.op e.ref ⟨7,e.id,atF F⟩ }:=by simp [putF,e1]
  have hk8:mp (fun x:Opn=>x.kind) (up F.op e.ref ⟨7,e.id,atF F⟩)=mp (·.kind) F.op:=by
   rw [← z7n]
   exact z9g (by rw [z45,h8];rfl)
  have hi8:mp (fun x:Opn=>x.id) (up F.op e.ref ⟨7,e.id,atF F⟩)=mp (·.id) F.op:=by
   rw [← z7n]
   exact z9g (by rw [z45,h8];rfl)
  have hnew:∀ q o,lk F.op q=some o→o.works≠atF F:=fun q o hq e=>by
   have:=(hi.keys _ (z0K hq)).2.2.2.2.1
   unfold atF at e
   simp only at this
   omega
  rw [ha,hpu]
  refine ⟨by simp only [List.length_append,List.length_cons,List.length_nil,hn];omega,by simp only [z4w],h.cl,h.t0,h.t1,h.t2,by simp only;omega,by simp only;rw [hk8];exact h.ki,by simp only;rw [hi8];exact h.id,
   fun x hx hw=>?_,fun q=>?_,fun j q=>?_,z3d h.nf _ _,z3d h.no _ _,h.li⟩
  ·rcases z1K hx with rfl | hx
   ·rfl
   ·exact h.w7 x hx hw
  ·simp only
   by_cases e:q=e.ref
   ·subst e
    rw [z0g,z0g]
    simp only [Option.bind_some]
    rw [if_neg (by omega),hat]
   ·rw [z0G _ _ e,z0G _ _ e,h.fr q]
  ·simp only
   by_cases ej:j=H.n+1
   ·subst ej
    rw [z0g]
    constructor
    ·intro e
     injection e with e
     subst e
     exact ⟨_,z0g _ _ _,hat,by omega⟩
    ·rintro ⟨o,e2,e3,_⟩
     by_cases eq:q=e.ref
     ·rw [eq]
     ·rw [z0G _ _ eq] at e2
      exact absurd (e3.trans hat.symm) (hnew q o e2)
   ·rw [z0G _ _ ej,h.wf j q]
    by_cases eq:q=e.ref
    ·subst eq
     rw [z0g,h8]
     constructor
     ·rintro ⟨o,e2,e3,e4⟩
      injection e2 with e2
      subst e2
      exact absurd e3.symm e4
     ·rintro ⟨o,e2,e3,e4⟩
      injection e2 with e2
      subst e2
      exact absurd (e3.symm.trans hat) ej
    ·rw [z0G _ _ eq]
 ·rw [if_neg (by omega),if_neg (by omega),if_neg (by omega),if_pos e1] at rf
  have hwl:∃ k,lk H.wof e.ref=some k:=by
   unfold lz at rf
   cases hx:lk H.wof e.ref with
   | none=>rw [hx] at rf;exact absurd rfl rf
   | some k=>exact ⟨k,rfl⟩
  obtain ⟨k,hwk⟩:=hwl
  obtain ⟨o,ho,how,hne⟩:=(h.wf _ _).1 hwk
  have ho7:=h.w7 _ (z0K ho) (by rw [how];exact hne)
  have hof:=ze0 hi ho ho7 how hne
  have hlz:lz H.wof e.ref=k:=by unfold lz;rw [hwk];rfl
  have ha:addH H e={ H with n:=H.n+1,at_:=e.tick,wof:=rm H.wof e.ref,wfr:=rm H.wfr k,kinds:=rm H.kinds k,ids:=rm H.ids k }:=by
   unfold addH
   rw [if_neg (by omega),if_neg (by omega),if_neg (by omega),if_neg (by omega),if_pos e1,hlz]
  have hpu:putF F e={ F with l:=F.l++[e],op:=rm F.op k,late:=F.late || F.task==2 }:=by
   rw [← hof]
   rcases e1 with e1 | e1 | e1<;>simp [putF,e1]
  rw [ha,hpu]
  refine ⟨by simp only [List.length_append,List.length_cons,List.length_nil,hn];omega,by simp only [z4w],h.cl,h.t0,h.t1,h.t2,by simp only;omega,by simp only;rw [h.ki];exact z4Z _ _ _,by simp only;rw [h.id];exact z4Z _ _ _,
   fun x hx=>h.w7 x ((z2Q _ _).subset hx),fun q=>?_,fun j q=>?_,z5a h.nf _,z5a h.no _,h.li⟩
  ·simp only
   by_cases eq:q=k
   ·subst eq
    rw [z1G h.nf,z1G hi.nodup]
    rfl
   ·rw [z1V _ eq,z1V _ eq,h.fr q]
  ·simp only
   by_cases ej:j=e.ref
   ·subst ej
    rw [z1G h.no]
    constructor
    ·intro e;cases e
    ·rintro ⟨o',e2,e3,e4⟩
     by_cases eq:q=k
     ·subst eq
      rw [z1G hi.nodup] at e2
      cases e2
     ·rw [z1V _ eq] at e2
      have:=hi.wuniq (q,o') (z0K e2) (k,o) (z0K ho) (by simp only;rw [e3];exact e4) (by simp only;rw [e3,how])
      exact absurd (congrArg Prod.fst this) eq
   ·rw [z1V _ ej,h.wf j q]
    by_cases eq:q=k
    ·subst eq
     rw [z1G hi.nodup]
     constructor
     ·rintro ⟨o',e2,e3,e4⟩
      rw [ho] at e2
      injection e2 with e2
      subst e2
      exact absurd (e3.symm.trans how) ej
     ·rintro ⟨o',e2,_⟩
      cases e2
    ·rw [z1V _ eq]
 ·have hr:∃ K,lk H.kinds e.ref=some K∧K≠7:=by
   rcases e1 with e1 | e1
   ·rw [if_neg (by omega),if_neg (by omega),if_neg (by omega),if_neg (by omega),if_pos (by omega)] at rf
    exact ⟨_,rf,by decide⟩
   ·rw [if_neg (by omega),if_neg (by omega),if_neg (by omega),if_neg (by omega),if_neg (by omega),if_pos e1] at rf
    exact ⟨_,rf,by decide⟩
  obtain ⟨K,hK,hK7⟩:=hr
  rw [h.ki,z45] at hK
  obtain ⟨o,ho,hoK⟩:=Option.map_eq_some_iff.1 hK
  have hw:o.works=0:=Decidable.byContradiction fun hw=>hK7 (hoK▸h.w7 _ (z0K ho) hw)
  have ha:addH H e={ H with n:=H.n+1,at_:=e.tick,kinds:=rm H.kinds e.ref,ids:=rm H.ids e.ref }:=by
   unfold addH
   rw [if_neg (by omega),if_neg (by omega),if_neg (by omega),if_neg (by omega),if_neg (by omega),if_pos (by omega)]
  have hpu:putF F e={ F with l:=F.l++[e],op:=rm F.op e.ref,late:=F.late || F.task==2 }:=by
   rcases e1 with e1 | e1<;>simp [putF,e1]
  rw [ha,hpu]
  exact h.drop hi ho hw rfl rfl rfl rfl rfl rfl
 ·rw [if_neg (by omega),if_neg (by omega),if_neg (by omega),if_neg (by omega),if_pos (by omega)] at rf
  rw [h.ki,z45] at rf
  obtain ⟨o,ho,hoK⟩:=Option.map_eq_some_iff.1 rf
  have hw:o.works=0:=Decidable.byContradiction fun hw=>by have:=h.w7 _ (z0K ho) hw;simp only at this;omega
  have ha:addH H e={ H with n:=H.n+1,at_:=e.tick,kinds:=rm H.kinds e.ref,ids:=rm H.ids e.ref }:=by simp [addH,e1]
  have hpu:putF F e={ F with l:=F.l++[e],op:=rm F.op e.ref }:=by simp [putF,e1]
  rw [ha,hpu]
  exact h.drop hi ho hw rfl rfl rfl rfl rfl rfl
 ·exact (show addH H e={ H with n:=H.n+1,at_:=e.tick,task:=H.task,begun:=H.begun } by simp [addH,e1])▸(show putF F e={ F with l:=F.l++[e],late:=F.late || F.task==2 } by simp [putF,e1])▸h.plain (F':={ F with l:=F.l++[e],late:=F.late || F.task==2 }) rfl rfl h.li _ _ h.t0 h.t1 h.t2 (by omega)
 ·rw [if_neg (by omega),if_neg (by omega),if_neg (by omega),if_neg (by omega),if_neg (by omega),if_neg (by omega)] at rf
  have hrm:rm F.op e.ref=F.op:=by
   refine zcS ?_
   cases hx:lk F.op e.ref with
   | none=>rfl
   | some v=>have:=(hi.keys _ (z0K hx)).1;simp only at this;omega
  exact (show addH H e={ H with n:=H.n+1,at_:=e.tick,task:=H.task,begun:=H.begun } by simp [addH,e1])▸(show putF F e={ F with l:=F.l++[e],asked:=true,op:=F.op,late:=F.late || F.task==2 } by simp [putF,e1,hrm])▸h.plain (F':={ F with l:=F.l++[e],asked:=true,op:=F.op,late:=F.late || F.task==2 }) rfl rfl h.li _ _ h.t0 h.t1 h.t2 (by omega)
end Go.Proofs.YtniknicnnaiilaaGreat
end
