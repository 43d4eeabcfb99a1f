/- Lemmas of the engine. -/
import Derived.Test.YtniknicnnaiilaaGreatX12
import Derived.Test.YtniknicnnaiilaaGreatX13
import Derived.Test.YtniknicnnaiilaaGreatX14
section
namespace Go.Proofs.YtniknicnnaiilaaGreat
set_option maxRecDepth 100000
open Go.RowKit Go.Ext Go.BigFrame Go.Maps Go.MapKept
attribute [local go_sem] Ext.cell Ext.frozen Ext.lt Ext.le s1 s2 s3 s4 s5 s6 t1 t2 t3 t4 t5 t6
attribute [local go_sem ↓] Go.wp_at_zero Go.wp_at_succ
set_option maxHeartbeats 2000000 in
theorem z6J (PUT:z0e) (k:Nat) (F:FS) (id status:Int) (d:Value) (data:List UInt8) (now:Int) (M:Bl) (w:World) (h:z0O w M k F) (hM:∀ b,M b→b<w.heap.size) (hk:M k) (hF:FOk F) (hd:BysM w M d data) :
  Calls Tryz.prog 192 #[.pointer (some ⟨k,0,none⟩),.int .i64 id,.int .i64 status,d,.int .i64 now] w (RetT M k (z0h F id status data now) w):=by
 obtain ⟨Ad,cd,rfl⟩:∃ A c,d=.slice A data.length c:=by
  obtain ⟨A,c,e,_⟩:=hd
  exact ⟨A,c,e⟩
 have b0:=heap_alloc_new w (.cells #[.int .i64 id] 3)
 have HB0:=hid ((((((Gr.refl _).alloc (.cells #[.int .i64 status] 3)).alloc (.cells #[.slice Ad data.length cd] 22)).alloc (.cells #[.int .i64 now] 3)).block _ (block_lt b0)).trans b0)
 clear b0
 have b1:=heap_alloc_new (w.alloc (.cells #[.int .i64 id] 3)) (.cells #[.int .i64 status] 3)
 rw [show (w.alloc (.cells #[.int .i64 id] 3)).heap.size=w.heap.size+1 by simp] at b1
 have HB1:=hid (((((Gr.refl _).alloc (.cells #[.slice Ad data.length cd] 22)).alloc (.cells #[.int .i64 now] 3)).block _ (block_lt b1)).trans b1)
 clear b1
 have b2:=heap_alloc_new ((w.alloc (.cells #[.int .i64 id] 3)).alloc (.cells #[.int .i64 status] 3)) (.cells #[.slice Ad data.length cd] 22)
 rw [show ((w.alloc (.cells #[.int .i64 id] 3)).alloc (.cells #[.int .i64 status] 3)).heap.size=w.heap.size+1+1 by simp] at b2
 have HB2:=hid ((((Gr.refl _).alloc (.cells #[.int .i64 now] 3)).block _ (block_lt b2)).trans b2)
 clear b2
 have b3:=heap_alloc_new (((w.alloc (.cells #[.int .i64 id] 3)).alloc (.cells #[.int .i64 status] 3)).alloc (.cells #[.slice Ad data.length cd] 22)) (.cells #[.int .i64 now] 3)
 rw [show (((w.alloc (.cells #[.int .i64 id] 3)).alloc (.cells #[.int .i64 status] 3)).alloc (.cells #[.slice Ad data.length cd] 22)).heap.size=w.heap.size+1+1+1 by simp] at b3
 have HB3:=hid (((Gr.refl _).block _ (block_lt b3)).trans b3)
 clear b3
 have G1:=hid (show Gr w ((((w.alloc (.cells #[.int .i64 id] 3)).alloc (.cells #[.int .i64 status] 3)).alloc (.cells #[.slice Ad data.length cd] 22)).alloc (.cells #[.int .i64 now] 3)) from (((((Gr.refl w).alloc _).alloc _).alloc _).alloc _))
 have HT:=hid (fun (W1:World) (y:Gr ((((w.alloc (.cells #[.int .i64 id] 3)).alloc (.cells #[.int .i64 status] 3)).alloc (.cells #[.slice Ad data.length cd] 22)).alloc (.cells #[.int .i64 now] 3)) W1)=>(show Calls Tryz.prog 141 _ W1 _ from
  z2M 204 #[.pointer (some ⟨w.heap.size,0,none⟩),.pointer (some ⟨w.heap.size+1,0,none⟩),.pointer (some ⟨w.heap.size+1+1+1,0,none⟩),.pointer (some ⟨w.heap.size+1+1,0,none⟩)] k F (.slice Ad data.length cd) data now (z0x id status data now) M W1 (h.gr (G1.o.trans y)) (fun b e=>Nat.lt_of_lt_of_le (hM b e) (G1.o.trans y).size) hk ((hd.up (Gr.up (G1.o.trans y) M)).bys) hF.i hF.len (fun _ _=>rfl) fun hr W k' mb' g n1 n2 hfw=>by
   obtain ⟨r1,r2,r3⟩:=z0X hr
   exact z7B PUT k' mb' (w.heap.size) (w.heap.size+1) (w.heap.size+1+1+1) (w.heap.size+1+1) F id status now (.slice Ad data.length cd) data (plus M k' mb') W hfw hF (((y.trans g).block _ (block_lt HB0.o)).trans HB0.o) (((y.trans g).block _ (block_lt HB1.o)).trans HB1.o) (((y.trans g).block _ (block_lt HB3.o)).trans HB3.o) (((y.trans g).block _ (block_lt HB2.o)).trans HB2.o) ((hd.up (Gr.up ((G1.o.trans y).trans g) M)).bys) r1))
 have H:=hid h
 have HN:=hid (fun W=>z0v id W)
 clear h hk
 unfold z0h
 cases hn:numB id
 ·rw [hn] at HN
  simp only [if_true]
  clear hn
  go_enter Tryz.func192,Tryz.ntmps192
  go_wp2_with (go_at_call 178;(with_reducible refine (HN.o _).mono ?_);rintro en _ ⟨rfl,y1,rfl⟩)
  go_ret2
  exact ⟨none,0,rfl,H.o.gr (G1.o.ext y1),z08.none _ _ _,(G1.o.ext y1).mod _⟩
 ·rw [hn] at HN
  simp only [Bool.true_eq_false,if_false]
  clear hn
  go_enter Tryz.func192,Tryz.ntmps192
  go_wp2_with (first
   | (go_at_call 178;(with_reducible refine (HN.o _).mono ?_);rintro en _ ⟨rfl,y1,rfl⟩)
   | (go_at_call 141;refine (HT.o _ y1.gr).mono ?_;rintro en w3 ⟨A3,c3,rfl,hf3,ho3,hm3⟩))
  go_ret2
  exact ⟨A3,c3,rfl,hf3,ho3,((G1.o.ext y1).mod _).trans hm3 (fun _ _ e=>e)⟩
set_option maxHeartbeats 2000000 in
theorem zdD (PUT:z0e) (k:Nat) (F:FS) (kind ref turn now:Int) (M:Bl) (w:World) (h:z0O w M k F) (hM:∀ b,M b→b<w.heap.size) (hk:M k) (hF:FOk F) :
  Calls Tryz.prog 76 #[.pointer (some ⟨k,0,none⟩),.int .i64 kind,.int .i64 ref,.int .i64 turn,.int .i64 now] w (RetT M k (z1F F kind ref turn now) w):=by
 have H3:=hid (zaN PUT k F ref turn now M w h hM hk hF)
 have H4:=hid (zaK PUT k F ref turn now M w h hM hk hF)
 have H5:=hid (zbL PUT k F ref turn now M w h hM hk hF)
 have H:=hid h
 clear h
 unfold z1F
 by_cases h3:kind=3
 ·subst h3
  simp only [if_true]
  go_enter Tryz.func76,Tryz.ntmps76
  go_wp2_with (first | (go_at_fn 30;refine H3.o.mono ?_;rintro en w3 ⟨A3,c3,rfl,hf3,ho3,hm3⟩) | (go_at_call 114;refine H3.o.mono ?_;rintro en w3 ⟨A3,c3,rfl,hf3,ho3,hm3⟩))
  go_ret2
  exact ⟨A3,c3,rfl,hf3,ho3,hm3⟩
 by_cases h4:kind=4
 ·subst h4
  rw [if_neg (by decide),if_pos rfl]
  go_enter Tryz.func76,Tryz.ntmps76
  go_wp2_with (first | (go_at_fn 30;refine H4.o.mono ?_;rintro en w3 ⟨A3,c3,rfl,hf3,ho3,hm3⟩) | (go_at_call 115;refine H4.o.mono ?_;rintro en w3 ⟨A3,c3,rfl,hf3,ho3,hm3⟩))
  go_ret2
  exact ⟨A3,c3,rfl,hf3,ho3,hm3⟩
 by_cases h5:kind=5
 ·subst h5
  rw [if_neg (by decide),if_neg (by decide),if_pos rfl]
  go_enter Tryz.func76,Tryz.ntmps76
  go_wp2_with (first | (go_at_fn 30;refine H5.o.mono ?_;rintro en w3 ⟨A3,c3,rfl,hf3,ho3,hm3⟩) | (go_at_call 116;refine H5.o.mono ?_;rintro en w3 ⟨A3,c3,rfl,hf3,ho3,hm3⟩))
  go_ret2
  exact ⟨A3,c3,rfl,hf3,ho3,hm3⟩
 rw [if_neg h3,if_neg h4,if_neg h5]
 go_enter Tryz.func76,Tryz.ntmps76
 go_wp2_with fail
 go_ret2
 exact ⟨none,0,rfl,H.o,z08.none _ _ _,(Gr.refl w).mod _⟩
theorem z0o {W:World} {B:Nat} {t:TypeId} {a b c:Value} (h:W.heap[B]?=some (.cells #[a,b,c] t (0,0))):W.cell? ⟨B,0,none⟩=some a∧W.cell? ⟨B,1,none⟩=some b∧W.cell? ⟨B,2,none⟩=some c:=by
 refine ⟨?_,?_,?_⟩<;>simp [World.cell?,h]
def z1H (M:Bl) (k:Nat):Bl:=fun b=>M b∨b=k
theorem z0H.twinF {w:World} {M:Bl} {k mb:Nat} {F:FS} (h:z0H w (plus M k mb) k mb F) (hne:k≠mb) (hM:¬ M mb):z0O w (z1H M k) k F :=
 ⟨mb,fun e=>by rcases e with e | e;exact hM e;exact hne e.symm,h.up ⟨(Gr.refl w).mod _,fun b _ e=>by rcases e with e | e;exact .inl e;exact .inr (.inl e)⟩ rfl rfl⟩
theorem z0O.stay {w:World} {M M':Bl} {k:Nat} {F:FS} (h:z0O w M' k F) (hM:∀ b,M b→M' b) (hk:¬ M k):z7s w M k F:=by
 obtain ⟨mb,hmb,h⟩:=h
 exact ⟨hk,mb,fun e=>hmb (hM _ e),h.up ⟨(Gr.refl w).mod _,fun b _ e=>hM b e⟩ rfl rfl⟩
theorem z2a {w:World} {M:Bl} {k B j:Nat} {F:FS} {u:Value} (h:z0O w M k F) (hB:M B) (hk:k≠B):z0O (w.setCell ⟨B,j,none⟩ u) M k F:=by
 obtain ⟨mb,hmb,h⟩:=h
 have m:=z0m (S:=fun b=>b=B) ((Gr.refl w).mod _) (b:=B) (j:=j) (fun _=>rfl) u
 exact ⟨mb,hmb,h.up (Mod.up m (fun b _ e=>e▸hB)) (m.block k h.lt.1 hk) (m.block mb h.lt.2 (fun e=>hmb (e▸hB)))⟩
def z1O (M:Bl) (w:World):Bl:=fun b=>M b∨b=w.heap.size
theorem gr_k {a w w':World} {k:Nat} (g:Gr a w) (m:Mod (fun b=>b=k) w w') (hk:a.heap.size≤k):Gr a w' :=
 ⟨m.os.trans g.os,m.tape.trans g.tape,m.output.trans g.output,Nat.le_trans g.size m.size,fun b hb=>(m.block b (Nat.lt_of_lt_of_le hb g.size) (by omega)).trans (g.block b hb)⟩
theorem z9f {M:Bl} {w W:World} (g:Gr w W):Up M w (z1O M w) W:=⟨g.mod M,fun b hb h=>by
 rcases h with h | h
 ·exact h
 ·omega⟩
set_option maxHeartbeats 4000000 in
theorem z9G (PUT:z0e) (k:Nat) (E:ES) (id now child status:Int) (d:Value) (data:List UInt8) (M S:Bl) (w:World) (h:EngR w M S k E) (hE:EOk E) (hdue:E.due.length≤999000) (r:RunS) (hr:lk E.runs id=some r) (hd:BysM w M d data) :
    Calls Tryz.prog 162 #[.pointer (some ⟨k,0,none⟩),.int .i64 id,.int .i64 now,.int .i64 child,.int .i64 status,d] w (RetS M S k (z3j E id now child status data) (.bool true) vF w):=by
  obtain ⟨kd,ka,md,ma,mr,kh,hv,hP⟩:=h
  have H:=hid hP
  obtain ⟨e0,e1,e2,e3,e4,e5,e6,hkl⟩:=hP.cells
  rcases hP.look id false with ⟨hn,_⟩ | ⟨r',kf,hr',hf,hlk'⟩
  · rw [hr] at hn;cases hn
  rw [hr] at hr'
  injection hr' with hr'
  subst hr'
  have hlk:=hlk' w (Gr.refl w)
  simp only [Bool.false_eq_true,if_false,runV] at hlk
  obtain ⟨_,mb,_,hfr⟩:=hf
  have HFOK:=hid (hE.get hr)
  have HD:=hid hd
  obtain ⟨Ad,cd,rfl⟩:=hd.shape
  have HTW:=hid (fun (W:World) (g:Gr w W) (hs:w.heap.size<W.heap.size)=>z4A kf mb r.f (z1O M w) W (hfr.up (z9f g) (g.block _ hfr.lt.1) (g.block _ hfr.lt.2)) (fun b e=>by rcases e with e | e;exact Nat.lt_of_lt_of_le (H.o.lt b e) g.size;exact e▸hs))
  have hg:=z2y child status data now
  obtain ⟨x,hx⟩:∃ x,z0h r.f child status data now=x:=⟨_,rfl⟩
  have hfk:=hg.ok r.f HFOK.o.1
  have hol:=z48 child status data now r.f
  have hokk:=z65 r.f child status data now
  rw [hx] at hfk hol hokk
  have HEN:=hid (show z3j E id now child status data=(if x.2.2=0 then z3h { E with runs:=up E.runs id { r with f:=x.1 } } id r.f.run x.2.1 else if x.2.2=4 then none else some E) by
    unfold z3j;rw [hr];simp only;rw [hx])
  rw [HEN.o]
  have HX:=hid hx
  have HFK:=hid hfk
  have HOL:=hid hol
  have HOK:=hid hokk
  rcases x with ⟨F',os,ec⟩
  simp only at HFK HOL HOK ⊢
  clear hP hlk' hfr hr hd hx hfk hol hokk HEN hg
  obtain ⟨R,hR⟩:∃ R,z3h { E with runs:=up E.runs id ⟨F',r.pf,r.pr⟩ } id r.f.run os=R:=⟨_,rfl⟩
  have HR:=hid hR
  have hgoal:∀ X,(if ec=0 then R else if ec=4 then none else some E)=X→Calls Tryz.prog 162 #[.pointer (some ⟨k,0,none⟩),.int .i64 id,.int .i64 now,.int .i64 child,.int .i64 status,.slice Ad data.length cd] w (RetS M S k X (.bool true) vF w):=by
    intro X hX
    have HXX:=hid hX
    clear hX hR
    go_enter Tryz.func162,Tryz.ntmps162
    go_upto_region 4 with (first
      | (go_at_call 75
         go_loud ((refine (HTW.o _ ((Gr.refl w).alloc _) (by simp)).mono ?_;rintro en w2 ⟨k',mb',rfl,hk',hmb',hne',g2,hr2,hM2⟩;have HR2:=hid hr2;have G2:=hid g2;have HB2:=hid ((g2.block w.heap.size (by simp)).trans (heap_alloc_new w _));have fz:=z00 (j:=0) HB2.o;obtain ⟨p0,p1,p2⟩:=z0o HB2.o;have hb2:=block_lt HB2.o;have hks:w.heap.size<k':=(by simp at hk';omega);have hmbs:w.heap.size<mb':=(by simp at hmb';omega);clear hr2 g2 hM2 hk' hmb')))
      | (go_at_call 192
         have g3:Gr w (w2.setCell ⟨w.heap.size,0,none⟩ (.pointer (some ⟨k',0,none⟩))):=(((Gr.refl w).alloc _).trans G2.o).set (p:=⟨w.heap.size,0,none⟩) (Nat.le_refl _) _
         have hs3:(w2.setCell ⟨w.heap.size,0,none⟩ (.pointer (some ⟨k',0,none⟩))).heap.size=w2.heap.size:=by simp [World.setCell]
         have hkn:¬ M k':=fun e=>by have:=H.o.lt k' e;omega
         have hmn:¬ M mb':=fun e=>by have:=H.o.lt mb' e;omega
         have hff:=HR2.o.twinF hne' (fun e=>by rcases e with e | e;exact hmn e;omega)
         have hff3:z0O (w2.setCell ⟨w.heap.size,0,none⟩ (.pointer (some ⟨k',0,none⟩))) (z1H (z1O M w) k') k' r.f:=z2a hff (.inl (.inr rfl)) (by omega)
         have hlt3:∀ b,z1H (z1O M w) k' b→b<(w2.setCell ⟨w.heap.size,0,none⟩ (.pointer (some ⟨k',0,none⟩))).heap.size:=fun b e=>by
           rcases e with (e | e) | e
           · exact Nat.lt_of_lt_of_le (H.o.lt b e) g3.size
           · rw [e,hs3];exact hb2
           · rw [e,hs3];exact HR2.o.lt.1
         have hd3:BysM (w2.setCell ⟨w.heap.size,0,none⟩ (.pointer (some ⟨k',0,none⟩))) (z1H (z1O M w) k') (.slice Ad data.length cd) data:=HD.o.up ⟨g3.mod M,fun b hb e=>by
           rcases e with (e | e) | e
           · exact e
           · omega
           · omega⟩
         have hcall:=z6J PUT k' r.f child status _ data now (z1H (z1O M w) k') _ hff3 hlt3 (.inr rfl) HFOK.o.1 hd3
         rw [HX.o] at hcall
         refine hcall.mono ?_
         rintro en w4 ⟨A4,c4,rfl,hf4,ho4,hm4⟩
         have HFI:=hid (hf4.stay (M:=M) (fun b e=>.inl (.inl e)) hkn)
         have HREC:=hid (ho4.up (z1S w4 (M:=M) (M':=z1H (z1O M w) k') (fun b e=>.inl (.inl e))))
         have G4:=hid (gr_k g3 hm4 (by omega))
         have HB4:=hid ((hm4.block w.heap.size (by rw [hs3];exact hb2) (by show ¬ w.heap.size=k';omega)).trans (z02 HB2.o (j:=0) _))
         clear hf4 ho4 hm4 hff hff3 g3 hs3 hcall hd3 hlt3))
    obtain ⟨p0,p1,p2⟩:=z0o HB4.o
    have hl4:=block_lt HB4.o
    have P4:=hid (H.o.gr G4.o)
    obtain ⟨_,_,_,_,_,f5,_,hk4⟩:=P4.o.cells
    obtain ⟨kv,hmi,hrel⟩:=P4.o.r
    have HMI:=hid hmi
    have HREL:=hid hrel
    clear hmi hrel
    have HRN:=hid HFK.o.2.2
    have HNX:=hid (z1Y (E:=E) (id:=id) (r:=⟨F',r.pf,r.pr⟩) (fun _=>⟨HFK.o.1,HFK.o.2.1.trans HFOK.o.2⟩))
    by_cases h0:ec=0
    · subst h0
      have hxr:=HXX.o
      simp only [if_true] at hxr
      subst hxr
      cases R with
      | none =>
        go_wp2_with fail
        refine z01 [(0,false),(1,false),(2,false),(3,false),(4,false),(5,false),(6,true)] (fun W=>Gr w4 W) (by kernel_rfl) (by kernel_rfl) (fun _ _ d _ _ h=>by cases d<;>exact h) (Gr.refl w4).drew (fun _=>?_)
        iterate 6 (refine z03 (v:=?_) rfl (by rfl) ?_ ?_;rotate_left;(focus (intro W9 hW9;obtain ⟨x9,rfl⟩:∃ x:Ext w4,W9=x.val:=⟨⟨W9,hW9⟩,rfl⟩;go_simp;(try with_reducible rfl);done));(try simp only [AP]))
        refine z06 rfl (by rfl) (fun K hK=>?_)
        refine z0f _ _ _ _ 76 rfl 3 109 Tryz.underlying76 Tryz.underlying3 mr kv id (runV k' r.pf r.pr) (by rfl) (HMI.o.gr (Gr.refl w4).drew) (by rfl) (by rfl) ?_
        intro w7 hmi7 hm7
        have P7:=hid ((P4.o.gr (Gr.refl w4).drew).putRun hm7 (HREL.o.mono fun a v hr=>hr.up (Gr.up (Gr.refl w4).drew M)) hmi7 (HFI.o.up (Gr.up (Gr.refl w4).drew M)))
        have AL:=hid (show z0j w M S w7 M S from ⟨(G4.o.drew.mod S).trans hm7 (fun b _ e=>e▸H.o.smr),fun _ _ e=>e,fun _ _ e=>e,fun _ e=>e⟩)
        have HREC7:=hid (HREC.o.up ((Gr.up (Gr.refl w4).drew M).trans (Mod.up hm7 (fun b _ e=>e▸H.o.SM _ H.o.smr))))
        have HOUT:=hid (z3n k { E with runs:=up E.runs id ⟨F',r.pf,r.pr⟩ } id now os _ M S w7 P7.o (HNX.o.ok hE) ⟨F',r.pf,r.pr⟩ (z0g _ _ _) HREC7.o (by have:=HOL.o;simp;omega) (fun o ho=>by have:=HOK.o o ho;omega))
        simp only [HRN.o] at HOUT
        rw [HR.o] at HOUT
        refine hK.o _ _ ?_
        clear hK K hmi7 hm7
        go_wp2_with (go_at_call 77;go_loud ((refine HOUT.o.mono ?_;intro en w9 hret;rcases hret.cases with ⟨_,v9,hen,hv9,hm9⟩ | ⟨E9,M9,S9,e9,_⟩;rotate_left;(cases e9);have hv9':v9=.bool false:=hv9;subst hv9';subst hen;have HM9:=hid hm9;clear hret hm9 hv9)))
        go_ret
        exact RetS.none_ AL.o HM9.o rfl
      | some E' =>
        go_wp2_with fail
        refine z01 [(0,false),(1,false),(2,false),(3,false),(4,false),(5,false),(6,true)] (fun W=>Gr w4 W) (by kernel_rfl) (by kernel_rfl) (fun _ _ d _ _ h=>by cases d<;>exact h) (Gr.refl w4).drew (fun _=>?_)
        iterate 6 (refine z03 (v:=?_) rfl (by rfl) ?_ ?_;rotate_left;(focus (intro W9 hW9;obtain ⟨x9,rfl⟩:∃ x:Ext w4,W9=x.val:=⟨⟨W9,hW9⟩,rfl⟩;go_simp;(try with_reducible rfl);done));(try simp only [AP]))
        refine z06 rfl (by rfl) (fun K hK=>?_)
        refine z0f _ _ _ _ 76 rfl 3 109 Tryz.underlying76 Tryz.underlying3 mr kv id (runV k' r.pf r.pr) (by rfl) (HMI.o.gr (Gr.refl w4).drew) (by rfl) (by rfl) ?_
        intro w7 hmi7 hm7
        have P7:=hid ((P4.o.gr (Gr.refl w4).drew).putRun hm7 (HREL.o.mono fun a v hr=>hr.up (Gr.up (Gr.refl w4).drew M)) hmi7 (HFI.o.up (Gr.up (Gr.refl w4).drew M)))
        have AL:=hid (show z0j w M S w7 M S from ⟨(G4.o.drew.mod S).trans hm7 (fun b _ e=>e▸H.o.smr),fun _ _ e=>e,fun _ _ e=>e,fun _ e=>e⟩)
        have HREC7:=hid (HREC.o.up ((Gr.up (Gr.refl w4).drew M).trans (Mod.up hm7 (fun b _ e=>e▸H.o.SM _ H.o.smr))))
        have HOUT:=hid (z3n k { E with runs:=up E.runs id ⟨F',r.pf,r.pr⟩ } id now os _ M S w7 P7.o (HNX.o.ok hE) ⟨F',r.pf,r.pr⟩ (z0g _ _ _) HREC7.o (by have:=HOL.o;simp;omega) (fun o ho=>by have:=HOK.o o ho;omega))
        simp only [HRN.o] at HOUT
        rw [HR.o] at HOUT
        refine hK.o _ _ ?_
        clear hK K hmi7 hm7
        go_wp2_with (go_at_call 77;go_loud ((refine HOUT.o.mono ?_;intro en w9 hret;rcases hret.cases with ⟨e9,_⟩ | ⟨E9,M9,S9,e9,hen,he9,ha9⟩;(cases e9);injection e9 with e9;subst e9;subst hen;have HE9:=hid he9;have HA9:=hid ha9;clear hret he9 ha9)))
        go_ret
        exact RetS.some_ (AL.o.trans HA9.o) HE9.o
    by_cases h4:ec=4
    · subst h4
      have hxr:=HXX.o
      simp only [show ¬ (4:Int)=0 by decide,if_false,if_true] at hxr
      subst hxr
      go_wp2_with fail
      go_ret
      exact RetS.full (G4.o.mod S) rfl
    · have hxr:=HXX.o
      rw [if_neg h0,if_neg h4] at hxr
      subst hxr
      go_wp2_with fail
      go_ret
      exact RetS.done ⟨kd,ka,md,ma,mr,kh,hv,P4.o⟩ (G4.o.mod S)
  have hg2:=hgoal _ rfl
  rw [← HR.o] at hg2
  exact hg2
theorem z4S {W:World} {B:Nat} {t:TypeId} {a b c d e f g h:Value} (hh:W.heap[B]?=some (.cells #[a,b,c,d,e,f,g,h] t (0,0))):W.cell? ⟨B,0,none⟩=some a∧W.cell? ⟨B,1,none⟩=some b∧W.cell? ⟨B,2,none⟩=some c∧W.cell? ⟨B,3,none⟩=some d∧W.cell? ⟨B,4,none⟩=some e∧W.cell? ⟨B,5,none⟩=some f∧W.cell? ⟨B,6,none⟩=some g∧W.cell? ⟨B,7,none⟩=some h:=by
 refine ⟨?_,?_,?_,?_,?_,?_,?_,?_⟩<;>simp [World.cell?,hh]
set_option maxHeartbeats 4000000 in
theorem zbd (PUT:z0e) (k:Nat) (E:ES) (id n now:Int) (o:Out) (d:Value) (M S:Bl) (w:World) (h:EngR w M S k E) (hE:EOk E) (hdue:E.due.length≤999000) (r:RunS) (hr:lk E.runs id=some r) (hd:BysM w M d o.data) :
    Calls Tryz.prog 160 #[.pointer (some ⟨k,0,none⟩),.int .i64 id,.int .i64 n,.int .i64 now,outV o d] w (RetS M S k (z2P E id n now o) (.bool true) vF w):=by
  have H:=hid h
  have HIO:=hid (fun (W:World) (g:Gr w W)=>z6m k E o.id M S W (h.gr g) hE)
  have HEN:=hid (fun (W:World) (g:Gr w W)=>z9G PUT k E id now o.id 0 (.slice none 0 0) [] M S W (h.gr g) hE hdue r hr (BysM.none W M))
  have HBG:=hid (fun (W:World) (g:Gr w W)=>z5g PUT k E o.id o.list o.n d o.data id n now M S W (h.gr g) hE hdue (hd.up (Gr.up g M)))
  obtain ⟨Ad,cd,rfl⟩:=hd.shape
  unfold z2P
  rcases o with ⟨ok,ol,or_,ot,oa,oi,on,od⟩
  simp only [outV] at *
  clear h hr hd
  generalize od.length=dl at *
  obtain ⟨N,hN⟩:∃ N,z5L E oi=N:=⟨_,rfl⟩
  rw [hN] at HBG
  clear hN
  cases hio:z3g E oi
  · rw [hio] at HIO
    simp only [Bool.false_eq_true,if_false]
    clear hio
    obtain ⟨R,hR⟩:∃ R,(z0U E oi ol on od id n now).map (·.1)=R:=⟨_,rfl⟩
    rw [hR] at HBG ⊢
    clear hR
    cases R with
    | none =>
      go_enter Tryz.func160,Tryz.ntmps160
      go_wp2_with (first
        | (go_at_call 99
           refine (HIO.o _ ((Gr.refl w).alloc _)).mono ?_
           rintro en _ ⟨rfl,y1,rfl⟩
           have G1:=hid (((Gr.refl w).alloc _).ext y1)
           have HB:=(y1.gr.block w.heap.size (by simp)).trans (heap_alloc_new w _)
           obtain ⟨b0,b1,b2,b3,b4,b5,b6,b7⟩:=z4S HB
           have hbl:=block_lt HB
           clear HB)
        | (go_at_call 100
           refine (HBG.o _ G1.o).mono ?_
           intro en w3 hret
           rcases (hret.grow G1.o).cases with ⟨_,v9,hen,hv9,hm9⟩ | ⟨E9,M9,S9,e9,_⟩
           rotate_left
           · cases e9
           obtain ⟨x9,rfl⟩:=hv9
           subst hen
           have HM9:=hid hm9
           clear hret hm9))
      go_ret
      exact RetS.full HM9.o rfl
    | some E' =>
      go_enter Tryz.func160,Tryz.ntmps160
      go_wp2_with (first
        | (go_at_call 99
           refine (HIO.o _ ((Gr.refl w).alloc _)).mono ?_
           rintro en _ ⟨rfl,y1,rfl⟩
           have G1:=hid (((Gr.refl w).alloc _).ext y1)
           have HB:=(y1.gr.block w.heap.size (by simp)).trans (heap_alloc_new w _)
           obtain ⟨b0,b1,b2,b3,b4,b5,b6,b7⟩:=z4S HB
           have hbl:=block_lt HB
           clear HB)
        | (go_at_call 100
           refine (HBG.o _ G1.o).mono ?_
           intro en w3 hret
           rcases (hret.grow G1.o).cases with ⟨e9,_⟩ | ⟨E9,M9,S9,e9,hen,he9,ha9⟩
           · cases e9
           injection e9 with e9
           subst e9
           subst hen
           have HE9:=hid he9
           have HA9:=hid ha9
           clear hret he9 ha9))
      go_ret
      exact RetS.some_ HA9.o HE9.o
  · rw [hio] at HIO
    simp only [if_true]
    clear hio
    obtain ⟨R,hR⟩:∃ R,z3j E id now oi 0 []=R:=⟨_,rfl⟩
    rw [hR] at HEN ⊢
    clear hR
    go_enter Tryz.func160,Tryz.ntmps160
    go_wp2_with (first
      | (go_at_call 99
         refine (HIO.o _ ((Gr.refl w).alloc _)).mono ?_
         rintro en _ ⟨rfl,y1,rfl⟩
         have G1:=hid (((Gr.refl w).alloc _).ext y1)
         have HB:=(y1.gr.block w.heap.size (by simp)).trans (heap_alloc_new w _)
         obtain ⟨b0,b1,b2,b3,b4,b5,b6,b7⟩:=z4S HB
         have hbl:=block_lt HB
         clear HB)
      | (go_at_call 162
         refine (HEN.o _ G1.o).mono ?_
         intro en w3 hret
         obtain ⟨b9,rfl⟩:∃ b9,en=.returned (.bool b9):=by
           rcases hret.cases with ⟨_,v9,hen,hv9,_⟩ | ⟨E9,M9,S9,e9,hen,_⟩
           · exact ⟨false,by rw [hen,show v9=.bool false from hv9]⟩
           · exact ⟨true,hen⟩
         have HRT:=hid (hret.grow G1.o)
         clear hret))
    go_ret
    exact HRT.o
set_option maxHeartbeats 4000000 in
theorem zgI (PUT:z0e) (k:Nat) (E:ES) (id n now:Int) (o:Out) (d:Value) (M S:Bl) (w:World) (h:EngR w M S k E) (hE:EOk E) (hdue:E.due.length≤999000) (r:RunS) (hr:lk E.runs id=some r) (hd:BysM w M d o.data) (hk:o.kind=6) :
    Calls Tryz.prog 117 #[.pointer (some ⟨k,0,none⟩),.int .i64 id,.int .i64 n,.int .i64 now,outV o d] w (RetS M S k (outE E id n now o) (.bool true) vF w):=by
  have HCH:=hid (fun (W:World) (g:Gr w W)=>zbd PUT k E id n now o d M S W (h.gr g) hE hdue r hr (hd.up (Gr.up g M)))
  obtain ⟨Ad,cd,rfl⟩:=hd.shape
  have HO:=hid (show outE E id n now o=z2P E id n now o by unfold outE;rw [if_neg (by omega),if_pos hk])
  rw [HO.o]
  obtain ⟨R,hR⟩:∃ R,z2P E id n now o=R:=⟨_,rfl⟩
  rw [hR] at HCH ⊢
  clear hR HO
  rcases o with ⟨ok,ol,or_,ot,oa,oi,on,od⟩
  simp only at hk
  subst hk
  simp only [outV] at *
  clear h hr hd
  generalize od.length=dl at *
  have G1:=hid ((Gr.refl w).alloc (.cells #[.int .i64 6,.int .i64 ol,.int .i64 or_,.int .i64 ot,.int .i64 oa,.int .i64 oi,.int .i64 on,.slice Ad dl cd] 188))
  go_enter Tryz.func117,Tryz.ntmps117
  go_wp2_with (go_at_call 160
               refine (HCH.o _ G1.o).mono ?_
               intro en w3 hret
               obtain ⟨b9,rfl⟩:∃ b9,en=.returned (.bool b9):=by
                 rcases hret.cases with ⟨_,v9,hen,hv9,_⟩ | ⟨E9,M9,S9,e9,hen,_⟩
                 · exact ⟨false,by rw [hen,show v9=.bool false from hv9]⟩
                 · exact ⟨true,hen⟩
               have HRT:=hid (hret.grow G1.o)
               clear hret)
  go_ret
  exact HRT.o
set_option maxHeartbeats 4000000 in
theorem zgJ (PUT:z0e) (k:Nat) (E:ES) (id n now:Int) (o:Out) (d:Value) (M S:Bl) (w:World) (h:EngR w M S k E) (hE:EOk E) (hdue:E.due.length≤999000) (r:RunS) (hr:lk E.runs id=some r) (hd:BysM w M d o.data) (hk:o.kind=7) :
    Calls Tryz.prog 117 #[.pointer (some ⟨k,0,none⟩),.int .i64 id,.int .i64 n,.int .i64 now,outV o d] w (RetS M S k (outE E id n now o) (.bool true) vF w):=by
  obtain ⟨kd,ka,md,ma,mr,kh,hv,hP⟩:=h
  have H:=hid hP
  obtain ⟨e0,e1,e2,e3,e4,e5,e6,hkl⟩:=hP.cells
  have HDR:=hid (fun (W:World) (y:Gr w W)=>z9A 0 kh hv E.due id n W (hP.gr y).h (by omega))
  have HD:=hid hd
  obtain ⟨Ad,cd,rfl⟩:=hd.shape
  have hE1:EOk { E with due:=z20 E.due id n }:=(z3D (m:=0) (fun e=>z3K e _ _) (Nat.le_trans (z2Y _ _ _) (by omega))).ok hE
  have HE1:=hid hE1
  have HD1:=hid (show (z20 E.due id n).length≤999000 from Nat.le_trans (z2Y _ _ _) hdue)
  have HR0:=hid hr
  have HNX:=hid hP.nes
  obtain ⟨X,hX⟩:∃ X,outE E id n now o=X:=⟨_,rfl⟩
  rw [hX]
  unfold outE at hX
  rw [if_neg (by omega),if_neg (by omega)] at hX
  simp only [hr] at hX
  rw [if_neg (by rw [hk];decide)] at hX
  have HX:=hid hX
  clear hX
  rcases o with ⟨ok,ol,or_,ot,oa,oi,on,od⟩
  simp only at hk
  subst hk
  simp only [outV] at *
  clear hP hd hE1
  have HDE:=hid (show z20 E.due id n=z8K E.due id n from rfl)
  generalize od.length=dl at *
  go_enter Tryz.func117,Tryz.ntmps117
  go_upto_region 14 with (first
    | (go_at_call 161
       refine (HDR.o _ ((Gr.refl w).alloc _)).mono ?_
       rintro en w3 ⟨hv3,rfl,hhb,hhm,hho⟩
       have P3:=hid ((H.o.gr ((Gr.refl w).alloc _)).setDue hhm (HDE.o▸hhb) hho)
       have AL:=hid (show z0j w M S w3 (own M hv3) (own S hv3) from by
         have hr:=(H.o.gr ((Gr.refl w).alloc (.cells #[.int .i64 7,.int .i64 ol,.int .i64 or_,.int .i64 ot,.int .i64 oa,.int .i64 oi,.int .i64 on,.slice Ad dl cd] 188))).retDue (vok:=.bool true) (vfull:=vF) (e:=.returned (.bool true)) (due:=z20 E.due id n) ⟨hv3,rfl,HDE.o▸hhb,hhm,hho⟩
         refine ⟨(((Gr.refl w).alloc _).mod S).trans (hhm.mono fun b _ e=>?_) (fun _ _ e=>e),fun b hb e=>?_,fun b hb e=>?_,fun b e=>.inl e⟩
         · rcases e with rfl | e
           · exact H.o.skh
           · exact H.o.shv b e.symm
         · rcases e with e | e
           · exact e
           · rcases hho with hho | ⟨c,hho,hc⟩
             · rw [hho] at e;exact H.o.shv b e
             · rw [hho] at e;injection e with e;simp at hc;omega
         · rcases e with e | e
           · exact e
           · rcases hho with hho | ⟨c,hho,hc⟩
             · rw [hho] at e;exact H.o.SM b (H.o.shv b e)
             · rw [hho] at e;injection e with e;simp at hc;omega)
       have HB:=hid ((hhm.block w.heap.size (by simp) (by
         rintro (e | e)
         · have:=H.o.h.lt;omega
         · have:=(HNX.o.2.2.2.2.2.2.2 _ e.symm).2.2.2.2;omega)).trans (heap_alloc_new w _))
       clear hhb hhm hho))
  obtain ⟨b0,b1,b2,b3,b4,b5,b6,b7⟩:=z4S HB.o
  have hbl:=block_lt HB.o
  obtain ⟨f0,f1,f2,f3,f4,f5,f6,hk3⟩:=P3.o.cells
  have HD3:=hid (HD.o.up (AL.o.up H.o.SM))
  rcases P3.o.look id false with ⟨hn,_⟩ | ⟨r',kf,hr',hf,hlk'⟩
  · have hn':lk E.runs id=none:=hn
    rw [HR0.o] at hn'
    cases hn'
  have hr2:lk E.runs id=some r':=hr'
  rw [HR0.o] at hr2
  injection hr2 with hr2
  subst hr2
  clear hr'
  have hlk:=hlk' w3 (Gr.refl w3)
  simp only [Bool.false_eq_true,if_false,runV] at hlk
  have HF:=hid hf
  clear hlk' hf hr
  rcases P3.o.look r.pf true with ⟨hpn,hplk'⟩ | ⟨p,kp,hpr,hpf,hplk'⟩
  · simp only [if_true] at hplk'
    have HX1:=hid (show X=some { E with due:=z20 E.due id n } by rw [← HX.o];have hpn':lk E.runs r.pf=none:=hpn;rw [hpn'])
    rw [HX1.o]
    cases hz:(r.pr==0)
    · have hz9:=hz
      go_upto_region 19 with fail
      have GW:=hid ((Gr.refl w3).alloc (.cells #[.pointer (some ⟨kf,0,none⟩),.int .i64 r.pf,.int .i64 r.pr] 109))
      have hplk:=hplk' _ GW.o.drew
      refine z01 [(0,false),(1,false),(2,false),(3,false),(4,false),(5,false),(6,false),(7,false),(8,false),(9,false),(10,false),(11,true),(12,true),(13,true)] (fun W=>Gr (w3.alloc (.cells #[.pointer (some ⟨kf,0,none⟩),.int .i64 r.pf,.int .i64 r.pr] 109)) W) (by kernel_rfl) (by kernel_rfl) (fun _ _ d _ _ h=>by cases d<;>exact h) (Gr.refl _).drew (fun _=>?_)
      iterate 11 (refine z03 (v:=?_) rfl (by rfl) ?_ ?_;rotate_left;(focus (intro W9 hW9;have hplk:=hplk' W9 (GW.o.trans hW9);obtain ⟨x9,rfl⟩:∃ x:Ext (w3.alloc (.cells #[.pointer (some ⟨kf,0,none⟩),.int .i64 r.pf,.int .i64 r.pr] 109)),W9=x.val:=⟨⟨W9,hW9⟩,rfl⟩;go_simp;(try with_reducible rfl);done));(try simp only [AP]))
      refine z05 rfl (by rfl) (fun K hK=>?_)
      go_simp
      refine hK.o (fun W=>Gr (w3.alloc (.cells #[.pointer (some ⟨kf,0,none⟩),.int .i64 r.pf,.int .i64 r.pr] 109)) W) _ _ (by repeat (first | exact Gr.refl _ | refine Gr.alloc ?_ _ | refine Gr.drew ?_ | refine Gr.set ?_ (by first | exact Nat.le_refl _ | (simp;done) | (simp;omega)) _)) (fun _ g=>g) (fun _=>?_)
      clear hK K
      (try simp only [AP])
      refine z05 rfl (by rfl) (fun K hK=>?_)
      go_simp
      refine hK.o (fun W=>Gr (w3.alloc (.cells #[.pointer (some ⟨kf,0,none⟩),.int .i64 r.pf,.int .i64 r.pr] 109)) W) _ _ (by repeat (first | exact Gr.refl _ | refine Gr.alloc ?_ _ | refine Gr.drew ?_ | refine Gr.set ?_ (by first | exact Nat.le_refl _ | (simp;done) | (simp;omega)) _)) (fun _ g=>g) (fun _=>?_)
      clear hK K
      (try simp only [AP])
      refine z06 rfl (by rfl) (fun K hK=>?_)
      go_simp
      refine hK.o _ _ ?_
      clear hK K
      go_wp2_with fail
      refine z0a (by kernel_rfl) (by kernel_rfl) ?_
      repeat (go_big_quiet_step (fail))
      refine wpQuiet_nil ?_
      rintro _ ⟨x,rfl⟩
      have GX:=hid (show Gr w3 x.val from ((((Gr.refl w3).alloc _).alloc _).drew).ext x)
      go_wp2_with fail
      go_ret
      rw [HX1.o]
      exact RetS.some_ (AL.o.gr GX.o) ⟨kd,ka,md,ma,mr,kh,hv3,P3.o.gr GX.o⟩
    · have hz9:=hz
      go_upto_region 19 with fail
      have GW:=hid ((Gr.refl w3).alloc (.cells #[.pointer (some ⟨kf,0,none⟩),.int .i64 r.pf,.int .i64 r.pr] 109))
      have hplk:=hplk' _ GW.o.drew
      refine z01 [(0,false),(1,false),(2,false),(3,false),(4,false),(5,false),(6,false),(7,false),(8,false),(9,false),(10,false),(11,true),(12,true),(13,true)] (fun W=>Gr (w3.alloc (.cells #[.pointer (some ⟨kf,0,none⟩),.int .i64 r.pf,.int .i64 r.pr] 109)) W) (by kernel_rfl) (by kernel_rfl) (fun _ _ d _ _ h=>by cases d<;>exact h) (Gr.refl _).drew (fun _=>?_)
      iterate 11 (refine z03 (v:=?_) rfl (by rfl) ?_ ?_;rotate_left;(focus (intro W9 hW9;have hplk:=hplk' W9 (GW.o.trans hW9);obtain ⟨x9,rfl⟩:∃ x:Ext (w3.alloc (.cells #[.pointer (some ⟨kf,0,none⟩),.int .i64 r.pf,.int .i64 r.pr] 109)),W9=x.val:=⟨⟨W9,hW9⟩,rfl⟩;go_simp;(try with_reducible rfl);done));(try simp only [AP]))
      refine z05 rfl (by rfl) (fun K hK=>?_)
      go_simp
      refine hK.o (fun W=>Gr (w3.alloc (.cells #[.pointer (some ⟨kf,0,none⟩),.int .i64 r.pf,.int .i64 r.pr] 109)) W) _ _ (by repeat (first | exact Gr.refl _ | refine Gr.alloc ?_ _ | refine Gr.drew ?_ | refine Gr.set ?_ (by first | exact Nat.le_refl _ | (simp;done) | (simp;omega)) _)) (fun _ g=>g) (fun _=>?_)
      clear hK K
      (try simp only [AP])
      refine z05 rfl (by rfl) (fun K hK=>?_)
      go_simp
      refine hK.o (fun W=>Gr (w3.alloc (.cells #[.pointer (some ⟨kf,0,none⟩),.int .i64 r.pf,.int .i64 r.pr] 109)) W) _ _ (by repeat (first | exact Gr.refl _ | refine Gr.alloc ?_ _ | refine Gr.drew ?_ | refine Gr.set ?_ (by first | exact Nat.le_refl _ | (simp;done) | (simp;omega)) _)) (fun _ g=>g) (fun _=>?_)
      clear hK K
      (try simp only [AP])
      refine z06 rfl (by rfl) (fun K hK=>?_)
      go_simp
      refine hK.o _ _ ?_
      clear hK K
      go_wp2_with fail
      refine z0a (by kernel_rfl) (by kernel_rfl) ?_
      repeat (go_big_quiet_step (fail))
      refine wpQuiet_nil ?_
      rintro _ ⟨x,rfl⟩
      have GX:=hid (show Gr w3 x.val from ((((Gr.refl w3).alloc _).alloc _).drew).ext x)
      go_wp2_with fail
      go_ret
      rw [HX1.o]
      exact RetS.some_ (AL.o.gr GX.o) ⟨kd,ka,md,ma,mr,kh,hv3,P3.o.gr GX.o⟩
  · simp only [if_true,runV] at hplk'
    obtain ⟨_,mbp,_,hpfr⟩:=hpf
    have HRUN:=hid (fun (W:World) (g:Gr w3 W)=>z2S kp mbp p.f _ W (hpfr.gr g))
    have HPR:=hid (show lk { E with due:=z20 E.due id n }.runs r.pf=some p from hpr)
    have HRB:=hid (fun (x:Ext ((w3.alloc (.cells #[.pointer (some ⟨kf,0,none⟩),.int .i64 r.pf,.int .i64 r.pr] 109)).alloc (.cells #[.pointer (some ⟨kp,0,none⟩),.int .i64 p.pf,.int .i64 p.pr] 109)).drew)=>(show x.val.heap[w3.heap.size]?=some (.cells #[.pointer (some ⟨kf,0,none⟩),.int .i64 r.pf,.int .i64 r.pr] 109 (0,0)) from
      (x.gr.block _ (by simp;omega)).trans ((((Gr.refl _).alloc _).drew.block w3.heap.size (by simp)).trans (heap_alloc_new w3 _))))
    cases hz:(r.pr==0)
    · cases hq:(p.f.run != r.pr)
      · have HX1:=hid (show X=z3j { E with due:=z20 E.due id n } r.pf now id on od by
          rw [← HX.o]
          have hpr':lk E.runs r.pf=some p:=hpr
          rw [hpr']
          simp only
          rw [if_neg (by simp at hz hq;rintro (e | e);exact hz e;exact e hq)])
        go_upto_region 19 with fail
        have GW:=hid ((Gr.refl w3).alloc (.cells #[.pointer (some ⟨kf,0,none⟩),.int .i64 r.pf,.int .i64 r.pr] 109))
        have hplk:=hplk' _ GW.o.drew
        refine z01 [(0,false),(1,false),(2,false),(3,false),(4,false),(5,false),(6,false),(7,false),(8,false),(9,false),(10,false),(11,true),(12,true),(13,true)] (fun W=>Gr (w3.alloc (.cells #[.pointer (some ⟨kf,0,none⟩),.int .i64 r.pf,.int .i64 r.pr] 109)) W) (by kernel_rfl) (by kernel_rfl) (fun _ _ d _ _ h=>by cases d<;>exact h) (Gr.refl _).drew (fun _=>?_)
        iterate 11 (refine z03 (v:=?_) rfl (by rfl) ?_ ?_;rotate_left;(focus (intro W9 hW9;have hplk:=hplk' W9 (GW.o.trans hW9);obtain ⟨x9,rfl⟩:∃ x:Ext (w3.alloc (.cells #[.pointer (some ⟨kf,0,none⟩),.int .i64 r.pf,.int .i64 r.pr] 109)),W9=x.val:=⟨⟨W9,hW9⟩,rfl⟩;go_simp;(try with_reducible rfl);done));(try simp only [AP]))
        refine z05 rfl (by rfl) (fun K hK=>?_)
        go_simp
        refine hK.o (fun W=>Gr (w3.alloc (.cells #[.pointer (some ⟨kf,0,none⟩),.int .i64 r.pf,.int .i64 r.pr] 109)) W) _ _ (by repeat (first | exact Gr.refl _ | refine Gr.alloc ?_ _ | refine Gr.drew ?_ | refine Gr.set ?_ (by first | exact Nat.le_refl _ | (simp;done) | (simp;omega)) _)) (fun _ g=>g) (fun _=>?_)
        clear hK K
        (try simp only [AP])
        refine z05 rfl (by rfl) (fun K hK=>?_)
        go_simp
        refine hK.o (fun W=>Gr (w3.alloc (.cells #[.pointer (some ⟨kf,0,none⟩),.int .i64 r.pf,.int .i64 r.pr] 109)) W) _ _ (by repeat (first | exact Gr.refl _ | refine Gr.alloc ?_ _ | refine Gr.drew ?_ | refine Gr.set ?_ (by first | exact Nat.le_refl _ | (simp;done) | (simp;omega)) _)) (fun _ g=>g) (fun _=>?_)
        clear hK K
        (try simp only [AP])
        refine z06 rfl (by rfl) (fun K hK=>?_)
        go_simp
        refine hK.o _ _ ?_
        clear hK K
        go_wp2_with fail
        refine z0a (by kernel_rfl) (by kernel_rfl) ?_
        repeat (go_big_quiet_step (first | (go_at_call 63;exact z1u _ (HRUN.o _ (Gr.ext ((((Gr.refl w3).alloc _).alloc _).drew) _)))))
        refine wpQuiet_nil ?_
        rintro _ ⟨x,rfl⟩
        have GX:=hid (show Gr w3 x.val from ((((Gr.refl w3).alloc _).alloc _).drew).ext x)
        have P4:=hid (P3.o.gr GX.o)
        have HEN:=hid (z9G PUT k { E with due:=z20 E.due id n } r.pf now id on (.slice Ad dl cd) od (own M hv3) (own S hv3) x.val ⟨kd,ka,md,ma,mr,kh,hv3,P4.o⟩ HE1.o HD1.o p HPR.o (HD3.o.up (Gr.up GX.o _)))
        rw [← HX1.o] at HEN
        have hrb:=z0o (HRB.o x)
        obtain ⟨y0,y1,y2⟩:=hrb
        have hob:=z4S ((GX.o.block _ (block_lt HB.o)).trans HB.o)
        obtain ⟨z0,z1,z2,z3,z4,z5,z6,z7⟩:=hob
        have hol:=Nat.lt_of_lt_of_le (block_lt HB.o) GX.o.size
        have hrl:=block_lt (HRB.o x)
        go_wp2_with (go_at_call 162
                     refine HEN.o.mono ?_
                     intro en w9 hret
                     obtain ⟨b9,rfl⟩:∃ b9,en=.returned (.bool b9):=by
                       rcases hret.cases with ⟨_,v9,hen,hv9,_⟩ | ⟨E9,M9,S9,e9,hen,_⟩
                       · exact ⟨false,by rw [hen,show v9=.bool false from hv9]⟩
                       · exact ⟨true,hen⟩
                     have HRT:=hid (RetS.along (AL.o.gr GX.o) hret)
                     clear hret)
        go_ret
        exact HRT.o
      · have HX1:=hid (show X=some { E with due:=z20 E.due id n } by
          rw [← HX.o]
          have hpr':lk E.runs r.pf=some p:=hpr
          rw [hpr']
          simp only
          rw [if_pos (.inr (by simpa using hq))])
        go_upto_region 19 with fail
        have GW:=hid ((Gr.refl w3).alloc (.cells #[.pointer (some ⟨kf,0,none⟩),.int .i64 r.pf,.int .i64 r.pr] 109))
        have hplk:=hplk' _ GW.o.drew
        refine z01 [(0,false),(1,false),(2,false),(3,false),(4,false),(5,false),(6,false),(7,false),(8,false),(9,false),(10,false),(11,true),(12,true),(13,true)] (fun W=>Gr (w3.alloc (.cells #[.pointer (some ⟨kf,0,none⟩),.int .i64 r.pf,.int .i64 r.pr] 109)) W) (by kernel_rfl) (by kernel_rfl) (fun _ _ d _ _ h=>by cases d<;>exact h) (Gr.refl _).drew (fun _=>?_)
        iterate 11 (refine z03 (v:=?_) rfl (by rfl) ?_ ?_;rotate_left;(focus (intro W9 hW9;have hplk:=hplk' W9 (GW.o.trans hW9);obtain ⟨x9,rfl⟩:∃ x:Ext (w3.alloc (.cells #[.pointer (some ⟨kf,0,none⟩),.int .i64 r.pf,.int .i64 r.pr] 109)),W9=x.val:=⟨⟨W9,hW9⟩,rfl⟩;go_simp;(try with_reducible rfl);done));(try simp only [AP]))
        refine z05 rfl (by rfl) (fun K hK=>?_)
        go_simp
        refine hK.o (fun W=>Gr (w3.alloc (.cells #[.pointer (some ⟨kf,0,none⟩),.int .i64 r.pf,.int .i64 r.pr] 109)) W) _ _ (by repeat (first | exact Gr.refl _ | refine Gr.alloc ?_ _ | refine Gr.drew ?_ | refine Gr.set ?_ (by first | exact Nat.le_refl _ | (simp;done) | (simp;omega)) _)) (fun _ g=>g) (fun _=>?_)
        clear hK K
        (try simp only [AP])
        refine z05 rfl (by rfl) (fun K hK=>?_)
        go_simp
        refine hK.o (fun W=>Gr (w3.alloc (.cells #[.pointer (some ⟨kf,0,none⟩),.int .i64 r.pf,.int .i64 r.pr] 109)) W) _ _ (by repeat (first | exact Gr.refl _ | refine Gr.alloc ?_ _ | refine Gr.drew ?_ | refine Gr.set ?_ (by first | exact Nat.le_refl _ | (simp;done) | (simp;omega)) _)) (fun _ g=>g) (fun _=>?_)
        clear hK K
        (try simp only [AP])
        refine z06 rfl (by rfl) (fun K hK=>?_)
        go_simp
        refine hK.o _ _ ?_
        clear hK K
        go_wp2_with fail
        refine z0a (by kernel_rfl) (by kernel_rfl) ?_
        repeat (go_big_quiet_step (first | (go_at_call 63;exact z1u _ (HRUN.o _ (Gr.ext ((((Gr.refl w3).alloc _).alloc _).drew) _)))))
        refine wpQuiet_nil ?_
        rintro _ ⟨x,rfl⟩
        have GX:=hid (show Gr w3 x.val from ((((Gr.refl w3).alloc _).alloc _).drew).ext x)
        go_wp2_with fail
        go_ret
        rw [HX1.o]
        exact RetS.some_ (AL.o.gr GX.o) ⟨kd,ka,md,ma,mr,kh,hv3,P3.o.gr GX.o⟩
    · have HX1 := hid (show X = some { E with due := z20 E.due id n } by
          rw [← HX.o]
          have hpr':lk E.runs r.pf=some p:=hpr
          rw [hpr']
          simp only
          rw [if_pos (.inl (by simpa using hz))])
      go_upto_region 19 with fail
      have GW:=hid ((Gr.refl w3).alloc (.cells #[.pointer (some ⟨kf,0,none⟩),.int .i64 r.pf,.int .i64 r.pr] 109))
      have hplk:=hplk' _ GW.o.drew
      refine z01 [(0,false),(1,false),(2,false),(3,false),(4,false),(5,false),(6,false),(7,false),(8,false),(9,false),(10,false),(11,true),(12,true),(13,true)] (fun W=>Gr (w3.alloc (.cells #[.pointer (some ⟨kf,0,none⟩),.int .i64 r.pf,.int .i64 r.pr] 109)) W) (by kernel_rfl) (by kernel_rfl) (fun _ _ d _ _ h=>by cases d<;>exact h) (Gr.refl _).drew (fun _=>?_)
      iterate 11 (refine z03 (v:=?_) rfl (by rfl) ?_ ?_;rotate_left;(focus (intro W9 hW9;have hplk:=hplk' W9 (GW.o.trans hW9);obtain ⟨x9,rfl⟩:∃ x:Ext (w3.alloc (.cells #[.pointer (some ⟨kf,0,none⟩),.int .i64 r.pf,.int .i64 r.pr] 109)),W9=x.val:=⟨⟨W9,hW9⟩,rfl⟩;go_simp;(try with_reducible rfl);done));(try simp only [AP]))
      refine z05 rfl (by rfl) (fun K hK=>?_)
      go_simp
      refine hK.o (fun W=>Gr (w3.alloc (.cells #[.pointer (some ⟨kf,0,none⟩),.int .i64 r.pf,.int .i64 r.pr] 109)) W) _ _ (by repeat (first | exact Gr.refl _ | refine Gr.alloc ?_ _ | refine Gr.drew ?_ | refine Gr.set ?_ (by first | exact Nat.le_refl _ | (simp;done) | (simp;omega)) _)) (fun _ g=>g) (fun _=>?_)
      clear hK K
      (try simp only [AP])
      refine z05 rfl (by rfl) (fun K hK=>?_)
      go_simp
      refine hK.o (fun W=>Gr (w3.alloc (.cells #[.pointer (some ⟨kf,0,none⟩),.int .i64 r.pf,.int .i64 r.pr] 109)) W) _ _ (by repeat (first | exact Gr.refl _ | refine Gr.alloc ?_ _ | refine Gr.drew ?_ | refine Gr.set ?_ (by first | exact Nat.le_refl _ | (simp;done) | (simp;omega)) _)) (fun _ g=>g) (fun _=>?_)
      clear hK K
      (try simp only [AP])
      refine z06 rfl (by rfl) (fun K hK=>?_)
      go_simp
      refine hK.o _ _ ?_
      clear hK K
      go_wp2_with fail
      refine z0a (by kernel_rfl) (by kernel_rfl) ?_
      repeat (go_big_quiet_step (fail))
      refine wpQuiet_nil ?_
      rintro _ ⟨x,rfl⟩
      have GX:=hid (show Gr w3 x.val from ((((Gr.refl w3).alloc _).alloc _).drew).ext x)
      go_wp2_with fail
      go_ret
      rw [HX1.o]
      exact RetS.some_ (AL.o.gr GX.o) ⟨kd,ka,md,ma,mr,kh,hv3,P3.o.gr GX.o⟩
end Go.Proofs.YtniknicnnaiilaaGreat
end
