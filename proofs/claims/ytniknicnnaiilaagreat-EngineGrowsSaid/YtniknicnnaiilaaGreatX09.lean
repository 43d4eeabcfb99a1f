/- Lemmas of the engine. -/
import Derived.Test.YtniknicnnaiilaaGreatX07
import Derived.Test.YtniknicnnaiilaaGreatX08
section
namespace Go.Proofs.YtniknicnnaiilaaGreat
set_option maxRecDepth 100000
open Go.RowKit Go.Ext Go.BigFrame Go.Maps Go.MapKept
attribute [local go_sem] Ext.cell Ext.frozen Ext.lt Ext.le s1 s2 s3 s4 s5 s6 t1 t2 t3 t4 t5 t6
attribute [local go_sem ↓] Go.wp_at_zero Go.wp_at_succ
theorem zcF:∀ (L:Nat) (l:List Int),l.Nodup→(∀ x∈l,1≤x∧x≤(L:Int))→l.length≤L
 | 0,l,_,h=>by
  rcases l with _ | ⟨x,r⟩
  ·simp
  ·have:=h x (List.mem_cons_self ..);omega
 | L+1,l,hn,h=>by
  by_cases hm:((L+1:Nat):Int)∈l
  ·have h1:=zcF L (l.erase ((L+1:Nat):Int)) (hn.erase _) (fun x hx=>by
    have h2:=h x (List.mem_of_mem_erase hx)
    have h3:x≠((L+1:Nat):Int):=fun e=>by subst e;exact absurd hx (List.Nodup.not_mem_erase hn)
    omega)
   rw [List.length_erase_of_mem hm] at h1
   omega
  ·have:=zcF L l hn (fun x hx=>by
    have h2:=h x hx
    have h3:x≠((L+1:Nat):Int):=fun e=>hm (e▸hx)
    omega)
   omega
theorem FI.oplen {F:FS} (h:FI F):F.op.length≤F.l.length:=by
 have:=zcF F.l.length (F.op.map (·.1)) h.nodup (fun x hx=>by
  obtain ⟨y,hy,rfl⟩:=List.mem_map.1 hx
  exact ⟨(h.keys y hy).1,(h.keys y hy).2.1⟩)
 simpa using this
theorem MI.size {α:Type} {f:α→Value} {w:World} {mb clock:Nat} {es:Array MapEntry} {op:List (Int × α)} (h:MI w mb (mp f op)) (hb:w.heap[mb]?=some (.map es clock)):es.size=op.length:=by
 obtain ⟨es',c',h0,h1,_⟩:=h
 rw [hb] at h0
 injection h0 with h0
 injection h0 with h0 _
 subst h0
 have:=congrArg List.length h1
 simpa [kvs,mp] using this
theorem z4T {a w w':World} {b:Nat} (g:Gr a w) (m:Mod (fun q=>q=b) w w') (hb:a.heap.size≤b):Gr a w' :=
 ⟨m.os.trans g.os,m.tape.trans g.tape,m.output.trans g.output,Nat.le_trans g.size m.size,fun q hq=>(m.block q (Nat.lt_of_lt_of_le hq g.size) (by omega)).trans (g.block q hq)⟩
theorem zaI {P:Program} {w wr:World} {r mb clock:Nat} {es:Array MapEntry} {seen:Array Nat} (hit:wr.heap[r]?=some (.mapIter (some mb) clock seen clock)) (hm:w.heap[mb]?=some (.map es clock)) (hst:Stamped es clock) (hr:w.heap.size≤r) (hg:Gr w wr) :
  ((leftOf es seen).size=0∧(∀ ty,(Instr.next (.pointer (some ⟨r,0,none⟩)) false ty).run P wr=.ok (.tuple #[.bool false]) wr)) ∨
  ∃ e∈(leftOf es seen).toList,∃ W2,Gr w W2∧Mod (fun q=>q=r) wr W2∧W2.heap[r]?=some (.mapIter (some mb) clock (seen.push e.born) clock)∧(∀ ty,(Instr.next (.pointer (some ⟨r,0,none⟩)) false ty).run P wr=.ok (.tuple #[.bool true,e.key,e.val]) W2) ∧
   (Instr.entry (.pointer (some ⟨r,0,none⟩))).run P W2=.ok (.tuple #[e.key,e.val]) W2:=by
 have hlt:mb<w.heap.size:=(Array.getElem?_eq_some_iff.1 hm).1
 have hb:wr.heap[mb]?=some (.map es clock):=(hg.block mb hlt).trans hm
 rcases run_next_at (P:=P) wr 0 r mb clock clock seen es clock hit hb hst.1 (Nat.le_refl _) with ⟨h0,hrun⟩ | ⟨e,he,w1,hal,hrun⟩
 ·exact .inl ⟨h0,fun _=>hrun⟩
 ·refine .inr ⟨e,he,_,?_,?_,?_,fun _=>hrun,?_⟩
  rotate_left
  ·have hh:∀ q,q≠r→(ChangeMaps.setBlock w1 r (.mapIter (some mb) clock (seen.push e.born) clock)).heap[q]?=w1.heap[q]?:=fun q hq=>by
    simp only [ChangeMaps.setBlock]
    rw [Array.getElem?_setIfInBounds_ne (fun e=>hq e.symm)]
   rcases hal with rfl | rfl
   ·exact ⟨rfl,rfl,rfl,by simp [ChangeMaps.setBlock],fun q _ hq=>hh q hq⟩
   ·exact ⟨rfl,rfl,rfl,by simp [ChangeMaps.setBlock],fun q _ hq=>hh q hq⟩
  rotate_right
  ·refine z5C ?_ hr _
   rcases hal with rfl | rfl
   ·exact hg
   ·exact hg.drew
  ·refine z3z (x:=.mapIter (some mb) clock seen clock) ?_ _
   rcases hal with rfl | rfl<;>exact hit
  ·refine run_entry_at _ r mb clock seen es clock e (z3z (x:=.mapIter (some mb) clock seen clock) ?_ _) ?_ (mem_left he).1 hst.2.1
   ·rcases hal with rfl | rfl<;>exact hit
   ·have:(ChangeMaps.setBlock w1 r (.mapIter (some mb) clock (seen.push e.born) clock)).heap[mb]?=w1.heap[mb]?:=by
     simp only [ChangeMaps.setBlock]
     rw [Array.getElem?_setIfInBounds_ne (by omega)]
    rw [this]
    rcases hal with rfl | rfl<;>exact hb
theorem z6g {w:World} {M:Bl} {A:Option Addr} {n c i:Nat} {l:List Dec} {d:Dec} (h:z08 decR w M (.slice A n c) l) (hd:l[i]?=some d):∃ b off A' c',A=some ⟨b,off,none⟩∧b<w.heap.size∧¬ M b∧BysM w M (.slice A' d.data.length c') d.data ∧
  w.cell? ⟨b,off+i * 5,none⟩=some (.int .i64 d.kind)∧w.cell? ⟨b,off+i * 5+1,none⟩=some (.int .i64 d.id)∧w.cell? ⟨b,off+i * 5+2,none⟩=some (.int .i64 d.list)∧w.cell? ⟨b,off+i * 5+3,none⟩=some (.int .i64 d.n)∧w.cell? ⟨b,off+i * 5+4,none⟩=some (.slice A' d.data.length c'):=by
 obtain ⟨b,off,v,h1,h2,h3,h4,h5⟩:=h.at_ (m:=4) (fun x=>z9x x) hd
 obtain ⟨A',c',rfl⟩:=h4.shape
 exact ⟨b,off,A',c',h1,h2,h3,h4,h5 0 _ rfl,h5 1 _ rfl,h5 2 _ rfl,h5 3 _ rfl,h5 4 _ rfl⟩
set_option maxHeartbeats 4000000 in
theorem zeM (k mb:Nat) (F:FS) (M Ml:Bl) (l:List Dec) (v:Value) (w:World) (h:z0H w M k mb F) (hi:FI F) (hlF:F.l.length≤100000) (hl:z08 decR w Ml v l) :
  Calls Tryz.prog 149 #[.pointer (some ⟨k,0,none⟩),v] w (RetE (.bool (badF F l)) w):=by
 obtain ⟨A,c,rfl,hlc⟩:=hl.shape
 have HL:=hid hl
 have H:=hid h
 have hi0:=hid hi
 refine retE ?_
 unfold badF
 by_cases hlong:32<l.length
 ·have hlz:(32:Int)<(l.length:Int):=by omega
  rw [decide_eq_true hlong,Bool.true_or]
  clear h hl hi
  go_enter Tryz.func149,Tryz.ntmps149
  go_wp2_with fail
  go_ret
  exact ⟨rfl,Gr.refl w⟩
 have hlz:¬ (32:Int)<(l.length:Int):=by omega
 rw [decide_eq_false hlong,Bool.false_or]
 obtain ⟨A0,c0_,_,⟨c0,c1,c2,c3,c4,c5,c6,c7,c8,c9,c10,c11⟩,_,hk⟩:=h.parts
 obtain ⟨es,clock,hm,hst,he1,he2⟩:=MI.entries h.map
 have hes:=MI.size h.map hm
 have hop:=hi.oplen
 have hrg:=run_range_map (P:=Tryz.prog) (w.alloc (.map #[] 0)) 155 3 185 mb es clock Tryz.underlying155 ((((Gr.refl w).alloc (.map #[] 0)).block mb (block_lt hm)).trans hm)
 have hsz0:(w.alloc (.map #[] 0)).heap.size=w.heap.size+1:=by simp
 rw [hsz0] at hrg
 have hmm:=@run_makeMap Tryz.prog
 obtain ⟨bv,hbv⟩:∃ bv,badL F.id F.asked (isOf F.op) l=bv:=⟨_,rfl⟩
 rw [hbv]
 have HBV:=hid hbv
 clear h hl hi hbv hsz0
 go_enter Tryz.func149,Tryz.ntmps149
 go_wp2_with fail
 go_loopw [] (fun wr=>∃ (seen:Array Nat) (n:Nat) (S:IdS),Gr w wr∧wr.heap[w.heap.size+1]?=some (.mapIter (some mb) clock seen clock)∧MP wr w.heap.size n S∧n+(leftOf es seen).size≤es.size∧w.heap.size+1<wr.heap.size ∧
   (∀ p,S p=true↔∃ e∈es.toList,seen.contains e.born=true∧∃ x∈F.op,e.val=opV x.2∧x.2.kind=p.1∧x.2.id=p.2)) (fun wr=>(leftOf es (wr.iterSeen (w.heap.size+1))).size)
 case atStart =>
  refine ⟨#[],0,fun _=>false,((Gr.refl w).alloc _).alloc _,?_,(MP.made w).gr ((Gr.refl _).alloc _),?_,by simp,fun p=>?_⟩
  ·have:=heap_alloc_new (w.alloc (.map #[] 0)) (.mapIter (some mb) clock #[] clock)
   rw [show (w.alloc (.map #[] 0)).heap.size=w.heap.size+1 by simp] at this
   exact this
  ·rw [Nat.zero_add]
   unfold leftOf
   exact Array.size_filter_le
  ·constructor
   ·intro e;cases e
   ·rintro ⟨e,_,hc,_⟩;simp at hc
 case round =>
  obtain ⟨seen,n,S,hg,hit,hmp,hn,hsz,hS⟩:=hrel
  have HSN:=hid (z0Z hit)
  rcases zaI (P:=Tryz.prog) hit hm hst (by omega) hg with ⟨h0,hnx⟩ | ⟨e,he,W2,hg2,hm2,hit2,hnx,hen⟩
  ·have hSF:∀ p,S p=isOf F.op p:=fun p=>by
    refine z50 ((hS p).trans ?_)
    rw [z2d]
    constructor
    ·rintro ⟨_,_,_,x,hx,_,h1,h2⟩
     exact ⟨x,hx,h1,h2⟩
    ·rintro ⟨x,hx,h1,h2⟩
     obtain ⟨e,he,_,hev⟩:=he2 x hx
     exact ⟨e,he,all_seen es seen h0 e he,x,hx,hev,h1,h2⟩
   have HMP:=hid (hmp.ext hSF)
   clear hS hSF hmp hit he1 he2 hrg hst
   have HG:=hid hg
   clear hg
   go_wp2_with fail
   go_loopw [8,31] (fun _ iv w3=>∃ (i m:Nat) (S:IdS),iv=.int .i64 i∧i≤l.length∧Gr w w3∧MP w3 w.heap.size m S∧m≤100000+i∧badL F.id F.asked S (l.drop i)=bv) (fun _ iv _=>l.length-(intOf iv).toNat)
   case atStart=>exact ⟨0,n,_,rfl,Nat.zero_le _,HG.o,HMP.o,by omega,by rw [List.drop_zero];exact HBV.o⟩
   case round =>
    obtain ⟨i,m,S2,rfl,hi,hg3,hmp3,hm,hbad⟩:=hrel
    by_cases hlt:i<l.length
    ·have hget:l[i]?=some l[i]:=List.getElem?_eq_getElem hlt
     have hdrop:l.drop i=l[i]::l.drop (i+1):=List.drop_eq_getElem_cons hlt
     rw [hdrop] at hbad
     obtain ⟨d,hd⟩:∃ d,l[i]=d:=⟨_,rfl⟩
     rw [hd] at hget hbad
     obtain ⟨b,off,Ad,cd,rfl,hb,hMb,hdat,c0',c1',c2',c3',c4'⟩:=z6g (HL.o.up (Gr.up hg3 Ml)) hget
     have hemp:(l.drop (i+1)).isEmpty=decide (i+1=l.length):=by
      have:=List.length_drop (i:=i+1) (l:=l)
      rcases hh:l.drop (i+1) with _ | ⟨x,r⟩<;>rw [hh] at this<;>simp at this ⊢<;>omega
     rcases d with ⟨dk,di,dl,dn,dd⟩
     have HMAY0:=hid (fun (W:World) (g:Gr wr W)=>zfw ⟨dk,di,dl,dn,dd⟩ (.slice Ad dd.length cd) W (hdat.bys.gr g))
     have HTK0:=hid (fun (W:World) (g:Gr wr W) (hid0:0≤di∧di≤1048576)=>zef w.heap.size m S2 dk di dl dn (.slice Ad dd.length cd) Ad dd.length cd rfl dd W (hmp3.gr g) (by omega) hid0)
     have HBAD:=hid hbad
     have HEMP:=hid hemp
     have hwm:=hmp3.lt
     have HG3:=hid hg3
     have hlz2:(i:Int)<(l.length:Int):=by omega
     clear hdat hget hdrop hd hbad hemp hg3 hmp3
     simp only at c0' c1' c2' c3' c4' HMAY0
     obtain ⟨dlen,hdlen⟩:∃ x,dd.length=x:=⟨_,rfl⟩
     rw [hdlen] at HMAY0 HTK0 c4'
     clear hdlen
     go_upto_region 11 with fail
     have HB4:=hid (heap_alloc_new wr (.cells #[.int .i64 dk,.int .i64 di,.int .i64 dl,.int .i64 dn,.slice Ad dlen cd] 39))
     have G4':=hid ((Gr.refl wr).alloc (.cells #[.int .i64 dk,.int .i64 di,.int .i64 dl,.int .i64 dn,.slice Ad dlen cd] 39))
     obtain ⟨w4,hw4⟩:∃ w4,wr.alloc (.cells #[.int .i64 dk,.int .i64 di,.int .i64 dl,.int .i64 dn,.slice Ad dlen cd] 39)=w4:=⟨_,rfl⟩
     obtain ⟨B4,hb4⟩:∃ B4,wr.heap.size=B4:=⟨_,rfl⟩
     rw [hw4] at HB4 G4' ⊢
     rw [hb4] at HB4 hwm ⊢
     have G4:=hid (HG3.o.trans G4'.o)
     clear hw4 hb4
     have HMAY:=hid (fun (W:World) (g:Gr w4 W)=>HMAY0.o W (G4'.o.trans g))
     have HS:=hid (show ∀ W,Mod (fun q=>q=w.heap.size) w4 W→(W.cell? ⟨B4,0,none⟩=some (.int .i64 dk)∧W.cell? ⟨B4,1,none⟩=some (.int .i64 di)∧W.cell? ⟨B4,2,none⟩=some (.int .i64 dl)∧W.cell? ⟨B4,3,none⟩=some (.int .i64 dn)∧W.cell? ⟨B4,4,none⟩=some (.slice Ad dlen cd))∧W.cell? ⟨k,0,none⟩=some (.int .i64 F.id)∧W.cell? ⟨k,10,none⟩=some (.bool F.asked) from fun W mm=>by
      have q4:=(mm.block B4 (block_lt HB4.o) (by show ¬ B4=w.heap.size;omega)).trans HB4.o
      have qk:W.heap[k]?=w.heap[k]?:=(mm.block k (Nat.lt_of_lt_of_le hk G4.o.size) (by show ¬ k=w.heap.size;omega)).trans (G4.o.block k hk)
      obtain ⟨x0,x1,x2,x3,x4⟩:=cells5 q4
      exact ⟨⟨x0,x1,x2,x3,x4⟩,(World.cell?_of_block (a:=⟨k,0,none⟩) qk).trans c0,(World.cell?_of_block (a:=⟨k,10,none⟩) qk).trans c10⟩)
     clear HMAY0
     have kw:IntKind.i64.wrap ((l.length:Int)-1)=(l.length:Int)-1:=IntWalk.i64_in _ (by omega)
     cases hmay:mayF ⟨dk,di,dl,dn,dd⟩
     ·rw [hmay] at HMAY
      obtain rfl:bv=true:=by rw [← HBAD.o];simp [badL,z2j,hmay]
      clear hmay
      refine z0w [(0,false),(1,true),(2,false),(3,false),(4,false),(5,false),(6,false),(7,false),(8,false),(9,false),(10,false),(11,false),(12,false),(13,false),(14,false),(15,false),(16,false),(17,false),(18,true),(19,false),(20,false),(21,false),(22,false),(23,false),(24,false),(25,false),(26,false),(27,false),(28,false),(29,false),(30,false),(31,false),(32,false),(33,false),(34,false),(35,false),(36,false),(37,false),(38,false),(39,false),(40,false),(41,false),(42,false),(43,false),(44,false),(45,false),(46,false)] (fun W=>(W.cell? ⟨B4,0,none⟩=some (.int .i64 dk)∧W.cell? ⟨B4,1,none⟩=some (.int .i64 di)∧W.cell? ⟨B4,2,none⟩=some (.int .i64 dl)∧W.cell? ⟨B4,3,none⟩=some (.int .i64 dn)∧W.cell? ⟨B4,4,none⟩=some (.slice Ad dlen cd))∧W.cell? ⟨k,0,none⟩=some (.int .i64 F.id)∧W.cell? ⟨k,10,none⟩=some (.bool F.asked)) (by kernel_rfl) (by kernel_rfl) (fun _ _ d _ _ h=>by cases d<;>exact h) (HS.o _ ((Gr.refl w4).drew.mod _)) (fun _=>?_)
      iterate 1 (first | (refine z0A (v:=?_) rfl (by rfl) ?_ ?_;rotate_left;(focus (intro W9 hW9;obtain ⟨⟨v0,v1,v2,v3,v4⟩,v5,v6⟩:=hW9;go_simp;(try with_reducible rfl);done));(try simp only [AP])) | (refine z0D rfl (by rfl) ?_;(try simp only [AP])))
      refine z1s rfl (by rfl) (fun K hK=>?_)
      go_simp
      go_at_call 185
      refine (HMAY.o _ (Gr.refl w4).drew).mono ?_
      rintro en _ ⟨rfl,y5,rfl⟩
      have G5:=hid ((Gr.refl w4).drew.ext y5)
      refine hK.o (fun W=>(W.cell? ⟨B4,0,none⟩=some (.int .i64 dk)∧W.cell? ⟨B4,1,none⟩=some (.int .i64 di)∧W.cell? ⟨B4,2,none⟩=some (.int .i64 dl)∧W.cell? ⟨B4,3,none⟩=some (.int .i64 dn)∧W.cell? ⟨B4,4,none⟩=some (.slice Ad dlen cd))∧W.cell? ⟨k,0,none⟩=some (.int .i64 F.id)∧W.cell? ⟨k,10,none⟩=some (.bool F.asked)) _ _ (HS.o _ (G5.o.mod _)) (fun W h=>h) (fun _=>?_)
      clear hK K
      (try simp only [AP])
      iterate 16 (first | (refine z0A (v:=?_) rfl (by rfl) ?_ ?_;rotate_left;(focus (intro W9 hW9;obtain ⟨⟨v0,v1,v2,v3,v4⟩,v5,v6⟩:=hW9;go_simp;(try with_reducible rfl);done));(try simp only [AP])) | (refine z0D rfl (by rfl) ?_;(try simp only [AP])))
      refine z7a rfl (by rfl) ?_
      (try simp only [AP])
      iterate 28 (first | (refine z0A (v:=?_) rfl (by rfl) ?_ ?_;rotate_left;(focus (intro W9 hW9;obtain ⟨⟨v0,v1,v2,v3,v4⟩,v5,v6⟩:=hW9;go_simp;(try with_reducible rfl);done));(try simp only [AP])) | (refine z0D rfl (by rfl) ?_;(try simp only [AP])))
      refine z2K ?_
      go_wp2_with fail
      go_ret
      exact ⟨rfl,(G4.o.trans G5.o)⟩
     have hidr:=(z0L hmay).2.2.2.2.2
     have hkr:=z0L hmay
     have HTAKE:=hid (fun (W:World) (g:Gr w4 W)=>HTK0.o W (G4'.o.trans g) hidr)
     rw [hmay] at HMAY
     have HM0:=hid hmay
     clear HTK0 hmay
     obtain ⟨hk1,hk8,_⟩:=hkr
     simp only at hk1 hk8
     rcases Int.lt_or_le dk 5 with h5 | h5
     ·have h5':¬ 5≤dk:=by omega
      have HK7:=hid (show (dk==7)=false by have:dk≠7:=(by omega);simpa using this)
      have k7:=HK7.o
      cases htk:takeB S2 ⟨dk,di,dl,dn,dd⟩
      ·rw [htk] at HTAKE
       obtain rfl:bv=true:=by rw [← HBAD.o];simp [badL,z2j,htk]
       clear htk
       refine z0w [(0,false),(1,true),(2,false),(3,false),(4,false),(5,false),(6,false),(7,false),(8,false),(9,false),(10,false),(11,false),(12,false),(13,false),(14,false),(15,false),(16,false),(17,false),(18,true),(19,false),(20,false),(21,false),(22,false),(23,false),(24,false),(25,false),(26,false),(27,false),(28,false),(29,false),(30,false),(31,false),(32,false),(33,false),(34,false),(35,false),(36,false),(37,false),(38,false),(39,false),(40,false),(41,false),(42,false),(43,false),(44,false),(45,false),(46,false)] (fun W=>(W.cell? ⟨B4,0,none⟩=some (.int .i64 dk)∧W.cell? ⟨B4,1,none⟩=some (.int .i64 di)∧W.cell? ⟨B4,2,none⟩=some (.int .i64 dl)∧W.cell? ⟨B4,3,none⟩=some (.int .i64 dn)∧W.cell? ⟨B4,4,none⟩=some (.slice Ad dlen cd))∧W.cell? ⟨k,0,none⟩=some (.int .i64 F.id)∧W.cell? ⟨k,10,none⟩=some (.bool F.asked)) (by kernel_rfl) (by kernel_rfl) (fun _ _ d _ _ h=>by cases d<;>exact h) (HS.o _ ((Gr.refl w4).drew.mod _)) (fun _=>?_)
       iterate 1 (first | (refine z0A (v:=?_) rfl (by rfl) ?_ ?_;rotate_left;(focus (intro W9 hW9;obtain ⟨⟨v0,v1,v2,v3,v4⟩,v5,v6⟩:=hW9;go_simp;(try with_reducible rfl);done));(try simp only [AP])) | (refine z0D rfl (by rfl) ?_;(try simp only [AP])))
       refine z1s rfl (by rfl) (fun K hK=>?_)
       go_simp
       go_at_call 185
       refine (HMAY.o _ (Gr.refl w4).drew).mono ?_
       rintro en _ ⟨rfl,y5,rfl⟩
       have G5:=hid ((Gr.refl w4).drew.ext y5)
       refine hK.o (fun W=>(W.cell? ⟨B4,0,none⟩=some (.int .i64 dk)∧W.cell? ⟨B4,1,none⟩=some (.int .i64 di)∧W.cell? ⟨B4,2,none⟩=some (.int .i64 dl)∧W.cell? ⟨B4,3,none⟩=some (.int .i64 dn)∧W.cell? ⟨B4,4,none⟩=some (.slice Ad dlen cd))∧W.cell? ⟨k,0,none⟩=some (.int .i64 F.id)∧W.cell? ⟨k,10,none⟩=some (.bool F.asked)) _ _ (HS.o _ (G5.o.mod _)) (fun W h=>h) (fun _=>?_)
       clear hK K
       (try simp only [AP])
       iterate 16 (first | (refine z0A (v:=?_) rfl (by rfl) ?_ ?_;rotate_left;(focus (intro W9 hW9;obtain ⟨⟨v0,v1,v2,v3,v4⟩,v5,v6⟩:=hW9;go_simp;(try with_reducible rfl);done));(try simp only [AP])) | (refine z0D rfl (by rfl) ?_;(try simp only [AP])))
       refine z1s rfl (by rfl) (fun K hK=>?_)
       go_simp
       go_at_call 186
       refine (HTAKE.o _ G5.o).mono ?_
       rintro en w6 ⟨rfl,hmp6,hm6⟩
       have HMP6:=hid hmp6
       have HM6:=hid ((G5.o.mod (fun q=>q=w.heap.size)).trans hm6 (fun _ _ e=>e))
       clear hmp6 hm6
       refine hK.o (fun W=>(W.cell? ⟨B4,0,none⟩=some (.int .i64 dk)∧W.cell? ⟨B4,1,none⟩=some (.int .i64 di)∧W.cell? ⟨B4,2,none⟩=some (.int .i64 dl)∧W.cell? ⟨B4,3,none⟩=some (.int .i64 dn)∧W.cell? ⟨B4,4,none⟩=some (.slice Ad dlen cd))∧W.cell? ⟨k,0,none⟩=some (.int .i64 F.id)∧W.cell? ⟨k,10,none⟩=some (.bool F.asked)) _ _ (HS.o _ HM6.o) (fun W h=>h) (fun _=>?_)
       clear hK K
       (try simp only [AP])
       iterate 28 (first | (refine z0A (v:=?_) rfl (by rfl) ?_ ?_;rotate_left;(focus (intro W9 hW9;obtain ⟨⟨v0,v1,v2,v3,v4⟩,v5,v6⟩:=hW9;go_simp;(try with_reducible rfl);done));(try simp only [AP])) | (refine z0D rfl (by rfl) ?_;(try simp only [AP])))
       refine z2K ?_
       go_wp2_with fail
       go_ret
       exact ⟨rfl,(z4T G4.o HM6.o (Nat.le_refl _))⟩
      ·rw [htk] at HTAKE
       have HT:=hid htk
       clear htk
       cases k4:(dk==4)
       ·have HK4:=hid k4
        have HB:=hid (show badL F.id F.asked (z37 S2 ⟨dk,di,dl,dn,dd⟩) (l.drop (i+1))=bv by rw [← HBAD.o];simp [badL,z2j,HM0.o,HT.o,HK4.o,HK7.o,h5'])
        refine z0w [(0,false),(1,true),(2,false),(3,false),(4,false),(5,false),(6,false),(7,false),(8,false),(9,false),(10,false),(11,false),(12,false),(13,false),(14,false),(15,false),(16,false),(17,false),(18,true),(19,false),(20,false),(21,false),(22,false),(23,false),(24,false),(25,false),(26,false),(27,false),(28,false),(29,false),(30,false),(31,false),(32,false),(33,false),(34,false),(35,false),(36,false),(37,false),(38,false),(39,false),(40,false),(41,false),(42,false),(43,false),(44,false),(45,false),(46,false)] (fun W=>(W.cell? ⟨B4,0,none⟩=some (.int .i64 dk)∧W.cell? ⟨B4,1,none⟩=some (.int .i64 di)∧W.cell? ⟨B4,2,none⟩=some (.int .i64 dl)∧W.cell? ⟨B4,3,none⟩=some (.int .i64 dn)∧W.cell? ⟨B4,4,none⟩=some (.slice Ad dlen cd))∧W.cell? ⟨k,0,none⟩=some (.int .i64 F.id)∧W.cell? ⟨k,10,none⟩=some (.bool F.asked)) (by kernel_rfl) (by kernel_rfl) (fun _ _ d _ _ h=>by cases d<;>exact h) (HS.o _ ((Gr.refl w4).drew.mod _)) (fun _=>?_)
        iterate 1 (first | (refine z0A (v:=?_) rfl (by rfl) ?_ ?_;rotate_left;(focus (intro W9 hW9;obtain ⟨⟨v0,v1,v2,v3,v4⟩,v5,v6⟩:=hW9;go_simp;(try with_reducible rfl);done));(try simp only [AP])) | (refine z0D rfl (by rfl) ?_;(try simp only [AP])))
        refine z1s rfl (by rfl) (fun K hK=>?_)
        go_simp
        go_at_call 185
        refine (HMAY.o _ (Gr.refl w4).drew).mono ?_
        rintro en _ ⟨rfl,y5,rfl⟩
        have G5:=hid ((Gr.refl w4).drew.ext y5)
        refine hK.o (fun W=>(W.cell? ⟨B4,0,none⟩=some (.int .i64 dk)∧W.cell? ⟨B4,1,none⟩=some (.int .i64 di)∧W.cell? ⟨B4,2,none⟩=some (.int .i64 dl)∧W.cell? ⟨B4,3,none⟩=some (.int .i64 dn)∧W.cell? ⟨B4,4,none⟩=some (.slice Ad dlen cd))∧W.cell? ⟨k,0,none⟩=some (.int .i64 F.id)∧W.cell? ⟨k,10,none⟩=some (.bool F.asked)) _ _ (HS.o _ (G5.o.mod _)) (fun W h=>h) (fun _=>?_)
        clear hK K
        (try simp only [AP])
        iterate 16 (first | (refine z0A (v:=?_) rfl (by rfl) ?_ ?_;rotate_left;(focus (intro W9 hW9;obtain ⟨⟨v0,v1,v2,v3,v4⟩,v5,v6⟩:=hW9;go_simp;(try with_reducible rfl);done));(try simp only [AP])) | (refine z0D rfl (by rfl) ?_;(try simp only [AP])))
        refine z1s rfl (by rfl) (fun K hK=>?_)
        go_simp
        go_at_call 186
        refine (HTAKE.o _ G5.o).mono ?_
        rintro en w6 ⟨rfl,hmp6,hm6⟩
        have HMP6:=hid hmp6
        have HM6:=hid ((G5.o.mod (fun q=>q=w.heap.size)).trans hm6 (fun _ _ e=>e))
        clear hmp6 hm6
        refine hK.o (fun W=>(W.cell? ⟨B4,0,none⟩=some (.int .i64 dk)∧W.cell? ⟨B4,1,none⟩=some (.int .i64 di)∧W.cell? ⟨B4,2,none⟩=some (.int .i64 dl)∧W.cell? ⟨B4,3,none⟩=some (.int .i64 dn)∧W.cell? ⟨B4,4,none⟩=some (.slice Ad dlen cd))∧W.cell? ⟨k,0,none⟩=some (.int .i64 F.id)∧W.cell? ⟨k,10,none⟩=some (.bool F.asked)) _ _ (HS.o _ HM6.o) (fun W h=>h) (fun _=>?_)
        clear hK K
        (try simp only [AP])
        iterate 28 (first | (refine z0A (v:=?_) rfl (by rfl) ?_ ?_;rotate_left;(focus (intro W9 hW9;obtain ⟨⟨v0,v1,v2,v3,v4⟩,v5,v6⟩:=hW9;go_simp;(try with_reducible rfl);done));(try simp only [AP])) | (refine z0D rfl (by rfl) ?_;(try simp only [AP])))
        refine z2K ?_
        go_wp2_with fail
        go_roundw
        case rel=>exact ⟨i+1,m+1,_,by go_num,by omega,(z4T G4.o HM6.o (Nat.le_refl _)),HMP6.o,by omega,HB.o⟩
        case measure=>simp [intOf];omega
       ·have HK4:=hid k4
        cases kid:(di==F.id)
        ·have HKI:=hid kid
         have HB:=hid (show badL F.id F.asked (z37 S2 ⟨dk,di,dl,dn,dd⟩) (l.drop (i+1))=bv by rw [← HBAD.o];simp [badL,z2j,HM0.o,HT.o,HK4.o,HK7.o,HKI.o,h5'])
         refine z0w [(0,false),(1,true),(2,false),(3,false),(4,false),(5,false),(6,false),(7,false),(8,false),(9,false),(10,false),(11,false),(12,false),(13,false),(14,false),(15,false),(16,false),(17,false),(18,true),(19,false),(20,false),(21,false),(22,false),(23,false),(24,false),(25,false),(26,false),(27,false),(28,false),(29,false),(30,false),(31,false),(32,false),(33,false),(34,false),(35,false),(36,false),(37,false),(38,false),(39,false),(40,false),(41,false),(42,false),(43,false),(44,false),(45,false),(46,false)] (fun W=>(W.cell? ⟨B4,0,none⟩=some (.int .i64 dk)∧W.cell? ⟨B4,1,none⟩=some (.int .i64 di)∧W.cell? ⟨B4,2,none⟩=some (.int .i64 dl)∧W.cell? ⟨B4,3,none⟩=some (.int .i64 dn)∧W.cell? ⟨B4,4,none⟩=some (.slice Ad dlen cd))∧W.cell? ⟨k,0,none⟩=some (.int .i64 F.id)∧W.cell? ⟨k,10,none⟩=some (.bool F.asked)) (by kernel_rfl) (by kernel_rfl) (fun _ _ d _ _ h=>by cases d<;>exact h) (HS.o _ ((Gr.refl w4).drew.mod _)) (fun _=>?_)
         iterate 1 (first | (refine z0A (v:=?_) rfl (by rfl) ?_ ?_;rotate_left;(focus (intro W9 hW9;obtain ⟨⟨v0,v1,v2,v3,v4⟩,v5,v6⟩:=hW9;go_simp;(try with_reducible rfl);done));(try simp only [AP])) | (refine z0D rfl (by rfl) ?_;(try simp only [AP])))
         refine z1s rfl (by rfl) (fun K hK=>?_)
         go_simp
         go_at_call 185
         refine (HMAY.o _ (Gr.refl w4).drew).mono ?_
         rintro en _ ⟨rfl,y5,rfl⟩
         have G5:=hid ((Gr.refl w4).drew.ext y5)
         refine hK.o (fun W=>(W.cell? ⟨B4,0,none⟩=some (.int .i64 dk)∧W.cell? ⟨B4,1,none⟩=some (.int .i64 di)∧W.cell? ⟨B4,2,none⟩=some (.int .i64 dl)∧W.cell? ⟨B4,3,none⟩=some (.int .i64 dn)∧W.cell? ⟨B4,4,none⟩=some (.slice Ad dlen cd))∧W.cell? ⟨k,0,none⟩=some (.int .i64 F.id)∧W.cell? ⟨k,10,none⟩=some (.bool F.asked)) _ _ (HS.o _ (G5.o.mod _)) (fun W h=>h) (fun _=>?_)
         clear hK K
         (try simp only [AP])
         iterate 16 (first | (refine z0A (v:=?_) rfl (by rfl) ?_ ?_;rotate_left;(focus (intro W9 hW9;obtain ⟨⟨v0,v1,v2,v3,v4⟩,v5,v6⟩:=hW9;go_simp;(try with_reducible rfl);done));(try simp only [AP])) | (refine z0D rfl (by rfl) ?_;(try simp only [AP])))
         refine z1s rfl (by rfl) (fun K hK=>?_)
         go_simp
         go_at_call 186
         refine (HTAKE.o _ G5.o).mono ?_
         rintro en w6 ⟨rfl,hmp6,hm6⟩
         have HMP6:=hid hmp6
         have HM6:=hid ((G5.o.mod (fun q=>q=w.heap.size)).trans hm6 (fun _ _ e=>e))
         clear hmp6 hm6
         refine hK.o (fun W=>(W.cell? ⟨B4,0,none⟩=some (.int .i64 dk)∧W.cell? ⟨B4,1,none⟩=some (.int .i64 di)∧W.cell? ⟨B4,2,none⟩=some (.int .i64 dl)∧W.cell? ⟨B4,3,none⟩=some (.int .i64 dn)∧W.cell? ⟨B4,4,none⟩=some (.slice Ad dlen cd))∧W.cell? ⟨k,0,none⟩=some (.int .i64 F.id)∧W.cell? ⟨k,10,none⟩=some (.bool F.asked)) _ _ (HS.o _ HM6.o) (fun W h=>h) (fun _=>?_)
         clear hK K
         (try simp only [AP])
         iterate 28 (first | (refine z0A (v:=?_) rfl (by rfl) ?_ ?_;rotate_left;(focus (intro W9 hW9;obtain ⟨⟨v0,v1,v2,v3,v4⟩,v5,v6⟩:=hW9;go_simp;(try with_reducible rfl);done));(try simp only [AP])) | (refine z0D rfl (by rfl) ?_;(try simp only [AP])))
         refine z2K ?_
         go_wp2_with fail
         go_roundw
         case rel=>exact ⟨i+1,m+1,_,by go_num,by omega,(z4T G4.o HM6.o (Nat.le_refl _)),HMP6.o,by omega,HB.o⟩
         case measure=>simp [intOf];omega
        ·have HKI:=hid kid
         obtain rfl:bv=true:=by rw [← HBAD.o];simp [badL,z2j,HM0.o,HT.o,HK4.o,HKI.o]
         refine z0w [(0,false),(1,true),(2,false),(3,false),(4,false),(5,false),(6,false),(7,false),(8,false),(9,false),(10,false),(11,false),(12,false),(13,false),(14,false),(15,false),(16,false),(17,false),(18,true),(19,false),(20,false),(21,false),(22,false),(23,false),(24,false),(25,false),(26,false),(27,false),(28,false),(29,false),(30,false),(31,false),(32,false),(33,false),(34,false),(35,false),(36,false),(37,false),(38,false),(39,false),(40,false),(41,false),(42,false),(43,false),(44,false),(45,false),(46,false)] (fun W=>(W.cell? ⟨B4,0,none⟩=some (.int .i64 dk)∧W.cell? ⟨B4,1,none⟩=some (.int .i64 di)∧W.cell? ⟨B4,2,none⟩=some (.int .i64 dl)∧W.cell? ⟨B4,3,none⟩=some (.int .i64 dn)∧W.cell? ⟨B4,4,none⟩=some (.slice Ad dlen cd))∧W.cell? ⟨k,0,none⟩=some (.int .i64 F.id)∧W.cell? ⟨k,10,none⟩=some (.bool F.asked)) (by kernel_rfl) (by kernel_rfl) (fun _ _ d _ _ h=>by cases d<;>exact h) (HS.o _ ((Gr.refl w4).drew.mod _)) (fun _=>?_)
         iterate 1 (first | (refine z0A (v:=?_) rfl (by rfl) ?_ ?_;rotate_left;(focus (intro W9 hW9;obtain ⟨⟨v0,v1,v2,v3,v4⟩,v5,v6⟩:=hW9;go_simp;(try with_reducible rfl);done));(try simp only [AP])) | (refine z0D rfl (by rfl) ?_;(try simp only [AP])))
         refine z1s rfl (by rfl) (fun K hK=>?_)
         go_simp
         go_at_call 185
         refine (HMAY.o _ (Gr.refl w4).drew).mono ?_
         rintro en _ ⟨rfl,y5,rfl⟩
         have G5:=hid ((Gr.refl w4).drew.ext y5)
         refine hK.o (fun W=>(W.cell? ⟨B4,0,none⟩=some (.int .i64 dk)∧W.cell? ⟨B4,1,none⟩=some (.int .i64 di)∧W.cell? ⟨B4,2,none⟩=some (.int .i64 dl)∧W.cell? ⟨B4,3,none⟩=some (.int .i64 dn)∧W.cell? ⟨B4,4,none⟩=some (.slice Ad dlen cd))∧W.cell? ⟨k,0,none⟩=some (.int .i64 F.id)∧W.cell? ⟨k,10,none⟩=some (.bool F.asked)) _ _ (HS.o _ (G5.o.mod _)) (fun W h=>h) (fun _=>?_)
         clear hK K
         (try simp only [AP])
         iterate 16 (first | (refine z0A (v:=?_) rfl (by rfl) ?_ ?_;rotate_left;(focus (intro W9 hW9;obtain ⟨⟨v0,v1,v2,v3,v4⟩,v5,v6⟩:=hW9;go_simp;(try with_reducible rfl);done));(try simp only [AP])) | (refine z0D rfl (by rfl) ?_;(try simp only [AP])))
         refine z1s rfl (by rfl) (fun K hK=>?_)
         go_simp
         go_at_call 186
         refine (HTAKE.o _ G5.o).mono ?_
         rintro en w6 ⟨rfl,hmp6,hm6⟩
         have HMP6:=hid hmp6
         have HM6:=hid ((G5.o.mod (fun q=>q=w.heap.size)).trans hm6 (fun _ _ e=>e))
         clear hmp6 hm6
         refine hK.o (fun W=>(W.cell? ⟨B4,0,none⟩=some (.int .i64 dk)∧W.cell? ⟨B4,1,none⟩=some (.int .i64 di)∧W.cell? ⟨B4,2,none⟩=some (.int .i64 dl)∧W.cell? ⟨B4,3,none⟩=some (.int .i64 dn)∧W.cell? ⟨B4,4,none⟩=some (.slice Ad dlen cd))∧W.cell? ⟨k,0,none⟩=some (.int .i64 F.id)∧W.cell? ⟨k,10,none⟩=some (.bool F.asked)) _ _ (HS.o _ HM6.o) (fun W h=>h) (fun _=>?_)
         clear hK K
         (try simp only [AP])
         iterate 28 (first | (refine z0A (v:=?_) rfl (by rfl) ?_ ?_;rotate_left;(focus (intro W9 hW9;obtain ⟨⟨v0,v1,v2,v3,v4⟩,v5,v6⟩:=hW9;go_simp;(try with_reducible rfl);done));(try simp only [AP])) | (refine z0D rfl (by rfl) ?_;(try simp only [AP])))
         refine z2K ?_
         go_wp2_with fail
         go_ret
         exact ⟨rfl,(z4T G4.o HM6.o (Nat.le_refl _))⟩
     ·have HK4:=hid (show (dk==4)=false by have:dk≠4:=(by omega);simpa using this)
      have k4:=HK4.o
      have HT:=hid (show takeB S2 ⟨dk,di,dl,dn,dd⟩=true by unfold takeB;rw [if_neg (by dsimp only;omega),if_neg (by dsimp only;omega)])
      rw [HT.o] at HTAKE
      by_cases hla:i+1=l.length
      ·have HLA:=hid hla
       have hl9:¬ (i:Int)<(l.length:Int)-1:=by omega
       clear hla
       cases k7:(dk==7)
       ·have HK7:=hid k7
        have HB:=hid (show badL F.id F.asked (z37 S2 ⟨dk,di,dl,dn,dd⟩) (l.drop (i+1))=bv by rw [← HBAD.o];simp [badL,z2j,HM0.o,HT.o,HK4.o,HK7.o,HLA.o])
        refine z0w [(0,false),(1,true),(2,false),(3,false),(4,false),(5,false),(6,false),(7,false),(8,false),(9,false),(10,false),(11,false),(12,false),(13,false),(14,false),(15,false),(16,false),(17,false),(18,true),(19,false),(20,false),(21,false),(22,false),(23,false),(24,false),(25,false),(26,false),(27,false),(28,false),(29,false),(30,false),(31,false),(32,false),(33,false),(34,false),(35,false),(36,false),(37,false),(38,false),(39,false),(40,false),(41,false),(42,false),(43,false),(44,false),(45,false),(46,false)] (fun W=>(W.cell? ⟨B4,0,none⟩=some (.int .i64 dk)∧W.cell? ⟨B4,1,none⟩=some (.int .i64 di)∧W.cell? ⟨B4,2,none⟩=some (.int .i64 dl)∧W.cell? ⟨B4,3,none⟩=some (.int .i64 dn)∧W.cell? ⟨B4,4,none⟩=some (.slice Ad dlen cd))∧W.cell? ⟨k,0,none⟩=some (.int .i64 F.id)∧W.cell? ⟨k,10,none⟩=some (.bool F.asked)) (by kernel_rfl) (by kernel_rfl) (fun _ _ d _ _ h=>by cases d<;>exact h) (HS.o _ ((Gr.refl w4).drew.mod _)) (fun _=>?_)
        iterate 1 (first | (refine z0A (v:=?_) rfl (by rfl) ?_ ?_;rotate_left;(focus (intro W9 hW9;obtain ⟨⟨v0,v1,v2,v3,v4⟩,v5,v6⟩:=hW9;go_simp;(try with_reducible rfl);done));(try simp only [AP])) | (refine z0D rfl (by rfl) ?_;(try simp only [AP])))
        refine z1s rfl (by rfl) (fun K hK=>?_)
        go_simp
        go_at_call 185
        refine (HMAY.o _ (Gr.refl w4).drew).mono ?_
        rintro en _ ⟨rfl,y5,rfl⟩
        have G5:=hid ((Gr.refl w4).drew.ext y5)
        refine hK.o (fun W=>(W.cell? ⟨B4,0,none⟩=some (.int .i64 dk)∧W.cell? ⟨B4,1,none⟩=some (.int .i64 di)∧W.cell? ⟨B4,2,none⟩=some (.int .i64 dl)∧W.cell? ⟨B4,3,none⟩=some (.int .i64 dn)∧W.cell? ⟨B4,4,none⟩=some (.slice Ad dlen cd))∧W.cell? ⟨k,0,none⟩=some (.int .i64 F.id)∧W.cell? ⟨k,10,none⟩=some (.bool F.asked)) _ _ (HS.o _ (G5.o.mod _)) (fun W h=>h) (fun _=>?_)
        clear hK K
        (try simp only [AP])
        iterate 16 (first | (refine z0A (v:=?_) rfl (by rfl) ?_ ?_;rotate_left;(focus (intro W9 hW9;obtain ⟨⟨v0,v1,v2,v3,v4⟩,v5,v6⟩:=hW9;go_simp;(try with_reducible rfl);done));(try simp only [AP])) | (refine z0D rfl (by rfl) ?_;(try simp only [AP])))
        refine z1s rfl (by rfl) (fun K hK=>?_)
        go_simp
        go_at_call 186
        refine (HTAKE.o _ G5.o).mono ?_
        rintro en w6 ⟨rfl,hmp6,hm6⟩
        have HMP6:=hid hmp6
        have HM6:=hid ((G5.o.mod (fun q=>q=w.heap.size)).trans hm6 (fun _ _ e=>e))
        clear hmp6 hm6
        refine hK.o (fun W=>(W.cell? ⟨B4,0,none⟩=some (.int .i64 dk)∧W.cell? ⟨B4,1,none⟩=some (.int .i64 di)∧W.cell? ⟨B4,2,none⟩=some (.int .i64 dl)∧W.cell? ⟨B4,3,none⟩=some (.int .i64 dn)∧W.cell? ⟨B4,4,none⟩=some (.slice Ad dlen cd))∧W.cell? ⟨k,0,none⟩=some (.int .i64 F.id)∧W.cell? ⟨k,10,none⟩=some (.bool F.asked)) _ _ (HS.o _ HM6.o) (fun W h=>h) (fun _=>?_)
        clear hK K
        (try simp only [AP])
        iterate 28 (first | (refine z0A (v:=?_) rfl (by rfl) ?_ ?_;rotate_left;(focus (intro W9 hW9;obtain ⟨⟨v0,v1,v2,v3,v4⟩,v5,v6⟩:=hW9;go_simp;(try with_reducible rfl);done));(try simp only [AP])) | (refine z0D rfl (by rfl) ?_;(try simp only [AP])))
        refine z2K ?_
        go_wp2_with fail
        go_roundw
        case rel=>exact ⟨i+1,m+1,_,by go_num,by omega,(z4T G4.o HM6.o (Nat.le_refl _)),HMP6.o,by omega,HB.o⟩
        case measure=>simp [intOf];omega
       ·have HK7:=hid k7
        cases hask:F.asked
        ·have HAS:=hid hask
         obtain rfl:bv=true:=by rw [← HBAD.o];simp [badL,z2j,HM0.o,HK7.o,HAS.o]
         rw [hask] at HS
         clear hask
         refine z0w [(0,false),(1,true),(2,false),(3,false),(4,false),(5,false),(6,false),(7,false),(8,false),(9,false),(10,false),(11,false),(12,false),(13,false),(14,false),(15,false),(16,false),(17,false),(18,true),(19,false),(20,false),(21,false),(22,false),(23,false),(24,false),(25,false),(26,false),(27,false),(28,false),(29,false),(30,false),(31,false),(32,false),(33,false),(34,false),(35,false),(36,false),(37,false),(38,false),(39,false),(40,false),(41,false),(42,false),(43,false),(44,false),(45,false),(46,false)] (fun W=>(W.cell? ⟨B4,0,none⟩=some (.int .i64 dk)∧W.cell? ⟨B4,1,none⟩=some (.int .i64 di)∧W.cell? ⟨B4,2,none⟩=some (.int .i64 dl)∧W.cell? ⟨B4,3,none⟩=some (.int .i64 dn)∧W.cell? ⟨B4,4,none⟩=some (.slice Ad dlen cd))∧W.cell? ⟨k,0,none⟩=some (.int .i64 F.id)∧W.cell? ⟨k,10,none⟩=some (.bool false)) (by kernel_rfl) (by kernel_rfl) (fun _ _ d _ _ h=>by cases d<;>exact h) (HS.o _ ((Gr.refl w4).drew.mod _)) (fun _=>?_)
         iterate 1 (first | (refine z0A (v:=?_) rfl (by rfl) ?_ ?_;rotate_left;(focus (intro W9 hW9;obtain ⟨⟨v0,v1,v2,v3,v4⟩,v5,v6⟩:=hW9;go_simp;(try with_reducible rfl);done));(try simp only [AP])) | (refine z0D rfl (by rfl) ?_;(try simp only [AP])))
         refine z1s rfl (by rfl) (fun K hK=>?_)
         go_simp
         go_at_call 185
         refine (HMAY.o _ (Gr.refl w4).drew).mono ?_
         rintro en _ ⟨rfl,y5,rfl⟩
         have G5:=hid ((Gr.refl w4).drew.ext y5)
         refine hK.o (fun W=>(W.cell? ⟨B4,0,none⟩=some (.int .i64 dk)∧W.cell? ⟨B4,1,none⟩=some (.int .i64 di)∧W.cell? ⟨B4,2,none⟩=some (.int .i64 dl)∧W.cell? ⟨B4,3,none⟩=some (.int .i64 dn)∧W.cell? ⟨B4,4,none⟩=some (.slice Ad dlen cd))∧W.cell? ⟨k,0,none⟩=some (.int .i64 F.id)∧W.cell? ⟨k,10,none⟩=some (.bool false)) _ _ (HS.o _ (G5.o.mod _)) (fun W h=>h) (fun _=>?_)
         clear hK K
         (try simp only [AP])
         iterate 16 (first | (refine z0A (v:=?_) rfl (by rfl) ?_ ?_;rotate_left;(focus (intro W9 hW9;obtain ⟨⟨v0,v1,v2,v3,v4⟩,v5,v6⟩:=hW9;go_simp;(try with_reducible rfl);done));(try simp only [AP])) | (refine z0D rfl (by rfl) ?_;(try simp only [AP])))
         refine z1s rfl (by rfl) (fun K hK=>?_)
         go_simp
         go_at_call 186
         refine (HTAKE.o _ G5.o).mono ?_
         rintro en w6 ⟨rfl,hmp6,hm6⟩
         have HMP6:=hid hmp6
         have HM6:=hid ((G5.o.mod (fun q=>q=w.heap.size)).trans hm6 (fun _ _ e=>e))
         clear hmp6 hm6
         refine hK.o (fun W=>(W.cell? ⟨B4,0,none⟩=some (.int .i64 dk)∧W.cell? ⟨B4,1,none⟩=some (.int .i64 di)∧W.cell? ⟨B4,2,none⟩=some (.int .i64 dl)∧W.cell? ⟨B4,3,none⟩=some (.int .i64 dn)∧W.cell? ⟨B4,4,none⟩=some (.slice Ad dlen cd))∧W.cell? ⟨k,0,none⟩=some (.int .i64 F.id)∧W.cell? ⟨k,10,none⟩=some (.bool false)) _ _ (HS.o _ HM6.o) (fun W h=>h) (fun _=>?_)
         clear hK K
         (try simp only [AP])
         iterate 28 (first | (refine z0A (v:=?_) rfl (by rfl) ?_ ?_;rotate_left;(focus (intro W9 hW9;obtain ⟨⟨v0,v1,v2,v3,v4⟩,v5,v6⟩:=hW9;go_simp;(try with_reducible rfl);done));(try simp only [AP])) | (refine z0D rfl (by rfl) ?_;(try simp only [AP])))
         refine z2K ?_
         go_wp2_with fail
         go_ret
         exact ⟨rfl,(z4T G4.o HM6.o (Nat.le_refl _))⟩
        ·have HAS:=hid hask
         have HB:=hid (show badL F.id F.asked (z37 S2 ⟨dk,di,dl,dn,dd⟩) (l.drop (i+1))=bv by rw [← HBAD.o];simp [badL,z2j,HM0.o,HT.o,HK4.o,HK7.o,HAS.o,HLA.o])
         rw [hask] at HS
         clear hask
         refine z0w [(0,false),(1,true),(2,false),(3,false),(4,false),(5,false),(6,false),(7,false),(8,false),(9,false),(10,false),(11,false),(12,false),(13,false),(14,false),(15,false),(16,false),(17,false),(18,true),(19,false),(20,false),(21,false),(22,false),(23,false),(24,false),(25,false),(26,false),(27,false),(28,false),(29,false),(30,false),(31,false),(32,false),(33,false),(34,false),(35,false),(36,false),(37,false),(38,false),(39,false),(40,false),(41,false),(42,false),(43,false),(44,false),(45,false),(46,false)] (fun W=>(W.cell? ⟨B4,0,none⟩=some (.int .i64 dk)∧W.cell? ⟨B4,1,none⟩=some (.int .i64 di)∧W.cell? ⟨B4,2,none⟩=some (.int .i64 dl)∧W.cell? ⟨B4,3,none⟩=some (.int .i64 dn)∧W.cell? ⟨B4,4,none⟩=some (.slice Ad dlen cd))∧W.cell? ⟨k,0,none⟩=some (.int .i64 F.id)∧W.cell? ⟨k,10,none⟩=some (.bool true)) (by kernel_rfl) (by kernel_rfl) (fun _ _ d _ _ h=>by cases d<;>exact h) (HS.o _ ((Gr.refl w4).drew.mod _)) (fun _=>?_)
         iterate 1 (first | (refine z0A (v:=?_) rfl (by rfl) ?_ ?_;rotate_left;(focus (intro W9 hW9;obtain ⟨⟨v0,v1,v2,v3,v4⟩,v5,v6⟩:=hW9;go_simp;(try with_reducible rfl);done));(try simp only [AP])) | (refine z0D rfl (by rfl) ?_;(try simp only [AP])))
         refine z1s rfl (by rfl) (fun K hK=>?_)
         go_simp
         go_at_call 185
         refine (HMAY.o _ (Gr.refl w4).drew).mono ?_
         rintro en _ ⟨rfl,y5,rfl⟩
         have G5:=hid ((Gr.refl w4).drew.ext y5)
         refine hK.o (fun W=>(W.cell? ⟨B4,0,none⟩=some (.int .i64 dk)∧W.cell? ⟨B4,1,none⟩=some (.int .i64 di)∧W.cell? ⟨B4,2,none⟩=some (.int .i64 dl)∧W.cell? ⟨B4,3,none⟩=some (.int .i64 dn)∧W.cell? ⟨B4,4,none⟩=some (.slice Ad dlen cd))∧W.cell? ⟨k,0,none⟩=some (.int .i64 F.id)∧W.cell? ⟨k,10,none⟩=some (.bool true)) _ _ (HS.o _ (G5.o.mod _)) (fun W h=>h) (fun _=>?_)
         clear hK K
         (try simp only [AP])
         iterate 16 (first | (refine z0A (v:=?_) rfl (by rfl) ?_ ?_;rotate_left;(focus (intro W9 hW9;obtain ⟨⟨v0,v1,v2,v3,v4⟩,v5,v6⟩:=hW9;go_simp;(try with_reducible rfl);done));(try simp only [AP])) | (refine z0D rfl (by rfl) ?_;(try simp only [AP])))
         refine z1s rfl (by rfl) (fun K hK=>?_)
         go_simp
         go_at_call 186
         refine (HTAKE.o _ G5.o).mono ?_
         rintro en w6 ⟨rfl,hmp6,hm6⟩
         have HMP6:=hid hmp6
         have HM6:=hid ((G5.o.mod (fun q=>q=w.heap.size)).trans hm6 (fun _ _ e=>e))
         clear hmp6 hm6
         refine hK.o (fun W=>(W.cell? ⟨B4,0,none⟩=some (.int .i64 dk)∧W.cell? ⟨B4,1,none⟩=some (.int .i64 di)∧W.cell? ⟨B4,2,none⟩=some (.int .i64 dl)∧W.cell? ⟨B4,3,none⟩=some (.int .i64 dn)∧W.cell? ⟨B4,4,none⟩=some (.slice Ad dlen cd))∧W.cell? ⟨k,0,none⟩=some (.int .i64 F.id)∧W.cell? ⟨k,10,none⟩=some (.bool true)) _ _ (HS.o _ HM6.o) (fun W h=>h) (fun _=>?_)
         clear hK K
         (try simp only [AP])
         iterate 28 (first | (refine z0A (v:=?_) rfl (by rfl) ?_ ?_;rotate_left;(focus (intro W9 hW9;obtain ⟨⟨v0,v1,v2,v3,v4⟩,v5,v6⟩:=hW9;go_simp;(try with_reducible rfl);done));(try simp only [AP])) | (refine z0D rfl (by rfl) ?_;(try simp only [AP])))
         refine z2K ?_
         go_wp2_with fail
         go_roundw
         case rel=>exact ⟨i+1,m+1,_,by go_num,by omega,(z4T G4.o HM6.o (Nat.le_refl _)),HMP6.o,by omega,HB.o⟩
         case measure=>simp [intOf];omega
      ·have hl9:(i:Int)<(l.length:Int)-1:=by omega
       have HLA:=hid hla
       clear hla
       obtain rfl:bv=true:=by rw [← HBAD.o];simp [badL,z2j,HM0.o,HEMP.o,HLA.o,h5]
       refine z0w [(0,false),(1,true),(2,false),(3,false),(4,false),(5,false),(6,false),(7,false),(8,false),(9,false),(10,false),(11,false),(12,false),(13,false),(14,false),(15,false),(16,false),(17,false),(18,true),(19,false),(20,false),(21,false),(22,false),(23,false),(24,false),(25,false),(26,false),(27,false),(28,false),(29,false),(30,false),(31,false),(32,false),(33,false),(34,false),(35,false),(36,false),(37,false),(38,false),(39,false),(40,false),(41,false),(42,false),(43,false),(44,false),(45,false),(46,false)] (fun W=>(W.cell? ⟨B4,0,none⟩=some (.int .i64 dk)∧W.cell? ⟨B4,1,none⟩=some (.int .i64 di)∧W.cell? ⟨B4,2,none⟩=some (.int .i64 dl)∧W.cell? ⟨B4,3,none⟩=some (.int .i64 dn)∧W.cell? ⟨B4,4,none⟩=some (.slice Ad dlen cd))∧W.cell? ⟨k,0,none⟩=some (.int .i64 F.id)∧W.cell? ⟨k,10,none⟩=some (.bool F.asked)) (by kernel_rfl) (by kernel_rfl) (fun _ _ d _ _ h=>by cases d<;>exact h) (HS.o _ ((Gr.refl w4).drew.mod _)) (fun _=>?_)
       iterate 1 (first | (refine z0A (v:=?_) rfl (by rfl) ?_ ?_;rotate_left;(focus (intro W9 hW9;obtain ⟨⟨v0,v1,v2,v3,v4⟩,v5,v6⟩:=hW9;go_simp;(try with_reducible rfl);done));(try simp only [AP])) | (refine z0D rfl (by rfl) ?_;(try simp only [AP])))
       refine z1s rfl (by rfl) (fun K hK=>?_)
       go_simp
       go_at_call 185
       refine (HMAY.o _ (Gr.refl w4).drew).mono ?_
       rintro en _ ⟨rfl,y5,rfl⟩
       have G5:=hid ((Gr.refl w4).drew.ext y5)
       refine hK.o (fun W=>(W.cell? ⟨B4,0,none⟩=some (.int .i64 dk)∧W.cell? ⟨B4,1,none⟩=some (.int .i64 di)∧W.cell? ⟨B4,2,none⟩=some (.int .i64 dl)∧W.cell? ⟨B4,3,none⟩=some (.int .i64 dn)∧W.cell? ⟨B4,4,none⟩=some (.slice Ad dlen cd))∧W.cell? ⟨k,0,none⟩=some (.int .i64 F.id)∧W.cell? ⟨k,10,none⟩=some (.bool F.asked)) _ _ (HS.o _ (G5.o.mod _)) (fun W h=>h) (fun _=>?_)
       clear hK K
       (try simp only [AP])
       iterate 16 (first | (refine z0A (v:=?_) rfl (by rfl) ?_ ?_;rotate_left;(focus (intro W9 hW9;obtain ⟨⟨v0,v1,v2,v3,v4⟩,v5,v6⟩:=hW9;go_simp;(try with_reducible rfl);done));(try simp only [AP])) | (refine z0D rfl (by rfl) ?_;(try simp only [AP])))
       refine z7a rfl (by rfl) ?_
       (try simp only [AP])
       iterate 28 (first | (refine z0A (v:=?_) rfl (by rfl) ?_ ?_;rotate_left;(focus (intro W9 hW9;obtain ⟨⟨v0,v1,v2,v3,v4⟩,v5,v6⟩:=hW9;go_simp;(try with_reducible rfl);done));(try simp only [AP])) | (refine z0D rfl (by rfl) ?_;(try simp only [AP])))
       refine z2K ?_
       go_wp2_with fail
       go_ret
       exact ⟨rfl,(G4.o.trans G5.o)⟩
    ·have hnil:l.drop i=[]:=List.drop_eq_nil_of_le (by omega)
     rw [hnil] at hbad
     obtain rfl:bv=false:=hbad.symm
     have hlz2:¬ (i:Int)<(l.length:Int):=by omega
     have HG3:=hid hg3
     go_wp2_with fail
     go_ret
     exact ⟨rfl,HG3.o⟩
  ·obtain ⟨x,hx,ek,ev⟩:=he1 e (mem_left he).1
   have HE:=hid he
   have HEV:=hid ev
   have HS:=hid hS
   rw [ek,ev] at hnx hen
   rcases x with ⟨q,o⟩
   obtain ⟨hk1,hk2,hkk,_⟩:=hi0.o.keys _ hx
   have hids:=hi0.o.ids _ hx
   rcases o with ⟨xk,xi,xw⟩
   simp only [opV] at hnx hen
   simp only at hkk hids
   have ik:I64 xk:=⟨by omega,by omega⟩
   have ii:I64 xi:=⟨by omega,by omega⟩
   have hlt2:w.heap.size+1<W2.heap.size:=(Array.getElem?_eq_some_iff.1 hit2).1
   have hshr:=left_shrinks es seen e he
   obtain ⟨w3,hup,h3,m3⟩:=((hmp.keep (hm2.block w.heap.size hmp.lt (by show ¬ w.heap.size=w.heap.size+1;omega))).gr ((Gr.refl W2).alloc (.cells #[.int .i64 xk,.int .i64 xi,.int .i64 xw] 185))).set (by omega) (x:=(xk,xi)) ik ii
   simp only [pv] at hup
   have H3:=hid h3
   have M3:=hid m3
   have HIT2:=hid hit2
   have g3:Gr w w3:=z4T (hg2.alloc _) m3 (Nat.le_refl _)
   have G3:=hid g3
   have it3:w3.heap[w.heap.size+1]?=some (.mapIter (some mb) clock (seen.push e.born) clock):=(m3.block _ (by simp;omega) (by show ¬ w.heap.size+1=w.heap.size;omega)).trans ((((Gr.refl _).alloc _).block _ hlt2).trans hit2)
   have IT3:=hid it3
   clear hit hit2 he ek ev hS hmp h3 m3 g3 it3 hm2
   go_wp2_with fail
   go_roundw
   case rel =>
    refine ⟨seen.push e.born,n+1,_,G3.o,IT3.o,H3.o,by omega,block_lt IT3.o,fun p=>?_⟩
    rw [Bool.or_eq_true,decide_eq_true_eq,HS.o p]
    constructor
    ·rintro (rfl | ⟨e',he',hc,hr⟩)
     ·exact ⟨e,(mem_left HE.o).1,by rw [contains_push];simp,_,hx,HEV.o,rfl,rfl⟩
     ·exact ⟨e',he',by rw [contains_push,hc];rfl,hr⟩
    ·rintro ⟨e',he',hc,y,hy,hyv,h1,h2⟩
     rw [contains_push] at hc
     rcases Bool.or_eq_true _ _▸hc with hc | hc
     ·exact .inr ⟨e',he',hc,y,hy,hyv,h1,h2⟩
     ·have:e'=e:=born_inj hst.2.1 he' (mem_left HE.o).1 (beq_iff_eq.1 hc)
      subst this
      rw [HEV.o] at hyv
      unfold opV at hyv
      injection hyv with hyv
      injection hyv with hyv
      injection hyv with e3 hyv
      injection hyv with e4 hyv
      injection e3 with _ e3
      injection e4 with _ e4
      left
      obtain ⟨p1,p2⟩:=p
      simp only at h1 h2 e3 e4 ⊢
      rw [← h1,← h2,← e3,← e4]
   case measure =>
    rw [HSN.o,z0Z IT3.o]
    exact hshr
end Go.Proofs.YtniknicnnaiilaaGreat
end
