/- Lemmas of the engine. -/
import Derived.Test.YtniknicnnaiilaaGreatX17
import Derived.Test.YtniknicnnaiilaaGreatX20
import Derived.Test.YtniknicnnaiilaaGreatX26
section
namespace Go.Proofs.YtniknicnnaiilaaGreat
set_option maxRecDepth 100000
open Go.RowKit Go.Ext Go.BigFrame Go.Maps Go.MapKept
attribute [local go_sem] Ext.cell Ext.frozen Ext.lt Ext.le s1 s2 s3 s4 s5 s6 t1 t2 t3 t4 t5 t6
attribute [local go_sem ↓] Go.wp_at_zero Go.wp_at_succ
set_option maxHeartbeats 4000000 in
theorem z5h (PUT:z0e) (c0_ c1_:Value) (k:Nat) (E:ES) (id:Int) (act:FS→FR) (M S X:Bl) (Q:World→Prop) (w:World) (h:EngR w M S k E) (hE:EOk E) (hdue:E.due.length≤998000) (r:RunS) (hr:lk E.runs id=some r)
    (hg:z3H act) (hgk:z4j act) (hX:∀ b,X b→M b∧¬ S b)
    (hact:∀ W M' k',Gr w W→(∀ b,M b→M' b)→(∀ b,b<w.heap.size→M' b→M b)→z0O W M' k' r.f→(∀ b,M' b→b<W.heap.size)→M' k'→w.heap.size≤k'→Calls Tryz.prog 69 #[.pointer (some ⟨k',0,none⟩),c0_,c1_] W (RetQ M' k' X (act r.f) Q W)) :
    Calls Tryz.prog 68 #[.pointer (some ⟨k,0,none⟩),.int .i64 id,.func (.func 69) #[] #[c0_,c1_]] w (RetC M S X k (z0k E id act).2 (.tuple #[.int .i64 (z0k E id act).1,.bool false]) vC Q w):=by
  obtain ⟨kd,ka,md,ma,mr,kh,hv,hP⟩:=h
  have H:=hid hP
  obtain ⟨e0,e1,e2,e3,e4,e5,e6,hkl⟩:=hP.cells
  rcases hP.look id false with ⟨hn,_⟩ | ⟨r',kf,hr',hf,hlk'⟩
  · rw [hr] at hn;cases hn
  rw [hr] at hr'
  injection hr' with hr'
  subst hr'
  have hlk:=hlk' w (Gr.refl w)
  simp only [Bool.false_eq_true,if_false,runV] at hlk
  obtain ⟨_,mb,_,hfr⟩:=hf
  have HFOK:=hid (hE.get hr)
  have HTW:=hid (fun (W:World) (g:Gr w W) (hs:w.heap.size<W.heap.size)=>z4A kf mb r.f (z1O M w) W (hfr.up (z9f g) (g.block _ hfr.lt.1) (g.block _ hfr.lt.2)) (fun b e=>by rcases e with e | e;exact Nat.lt_of_lt_of_le (H.o.lt b e) g.size;exact e▸hs))
  have HACT:=hid hact
  have HXX:=hid hX
  have hfk:=hg.ok r.f HFOK.o.1
  have hol:=hg.outs r.f
  have hokk:=hgk r.f
  have hEN:z0k E id act=(if (act r.f).2.2=4 then (4,none) else ((act r.f).2.2,z2F { E with runs:=up E.runs id { r with f:=(act r.f).1 } } id (act r.f).1.run E.now (act r.f).2.1)):=by
    unfold z0k;rw [hr]
  rw [hEN]
  clear hEN hact hX hg hgk
  obtain ⟨x,hx⟩:∃ x,act r.f=x:=⟨_,rfl⟩
  rw [hx] at hfk hol hokk HACT ⊢
  have HFK:=hid hfk
  have HOL:=hid hol
  have HOK:=hid hokk
  rcases x with ⟨F',os,ec⟩
  simp only at HFK HOL HOK ⊢
  clear hP hlk' hfr hr hx hfk hol hokk
  by_cases h4:ec=4
  · subst h4
    rw [if_pos rfl]
    go_enter Tryz.func68,Tryz.ntmps68
    go_wp2_with (first
      | (go_at_call 75
         go_loud ((refine (HTW.o _ ((Gr.refl w).alloc _) (by simp)).mono ?_;rintro en w2 ⟨k',mb',rfl,hk',hmb',hne',g2,hr2,hM2⟩;have HR2:=hid hr2;have G2:=hid g2;have HB2:=hid ((g2.block w.heap.size (by simp)).trans (heap_alloc_new w _));have fz:=z00 (j:=0) HB2.o;obtain ⟨p0,p1,p2⟩:=z0o HB2.o;have hb2:=block_lt HB2.o;have hks:w.heap.size<k':=(by simp at hk';omega);have hmbs:w.heap.size<mb':=(by simp at hmb';omega);clear hr2 g2 hM2 hk' hmb')))
      | (go_at_call 69
         have g3:Gr w (w2.setCell ⟨w.heap.size,0,none⟩ (.pointer (some ⟨k',0,none⟩))):=(((Gr.refl w).alloc _).trans G2.o).set (p:=⟨w.heap.size,0,none⟩) (Nat.le_refl _) _
         have hs3:(w2.setCell ⟨w.heap.size,0,none⟩ (.pointer (some ⟨k',0,none⟩))).heap.size=w2.heap.size:=by simp [World.setCell]
         have hkn:¬ M k':=fun e=>by have:=H.o.lt k' e;omega
         have hmn:¬ M mb':=fun e=>by have:=H.o.lt mb' e;omega
         have hff:=HR2.o.twinF hne' (fun e=>by rcases e with e | e;exact hmn e;omega)
         have hff3:z0O (w2.setCell ⟨w.heap.size,0,none⟩ (.pointer (some ⟨k',0,none⟩))) (z1H (z1O M w) k') k' r.f:=z2a hff (.inl (.inr rfl)) (by omega)
         have hlt3:∀ b,z1H (z1O M w) k' b→b<(w2.setCell ⟨w.heap.size,0,none⟩ (.pointer (some ⟨k',0,none⟩))).heap.size:=fun b e=>by
           rcases e with (e | e) | e
           · exact Nat.lt_of_lt_of_le (H.o.lt b e) g3.size
           · rw [e,hs3];exact hb2
           · rw [e,hs3];exact HR2.o.lt.1
         have hcall:=HACT.o _ (z1H (z1O M w) k') k' g3 (fun b e=>.inl (.inl e)) (fun b hb e=>by
           rcases e with (e | e) | e
           · exact e
           · omega
           · omega) hff3 hlt3 (.inr rfl) (by omega)
         refine hcall.mono ?_
         rintro en w4 ⟨A4,c4,rfl,hf4,ho4,hm4,hq4⟩
         have HQ4:=hid hq4
         have HFI:=hid (hf4.stay (M:=M) (fun b e=>.inl (.inl e)) hkn)
         have HREC:=hid (ho4.up (z1S w4 (M:=M) (M':=z1H (z1O M w) k') (fun b e=>.inl (.inl e))))
         have M4:=hid (modX g3 hm4 (by omega))
         have HB4:=hid ((hm4.block w.heap.size (by rw [hs3];exact hb2) (by
           intro e
           rcases e with e | e
           · omega
           · exact Nat.lt_irrefl _ (H.o.lt _ (HXX.o _ e).1))).trans (z02 HB2.o (j:=0) _))
         clear hf4 ho4 hm4 hq4 hff hff3 g3 hs3 hcall hlt3))
    go_ret2
    exact ⟨w4,HQ4.o,M4.o,RetS.full ((Gr.refl w4).mod S) ⟨_,rfl⟩⟩
  rw [if_neg h4]
  simp only
  obtain ⟨R,hR⟩:∃ R,z2F { E with runs:=up E.runs id ⟨F',r.pf,r.pr⟩ } id F'.run E.now os=R:=⟨_,rfl⟩
  rw [hR]
  have HR:=hid hR
  clear hR
  cases R with
  | none =>
    go_enter Tryz.func68,Tryz.ntmps68
    go_upto_region 6 with (first
      | (go_at_call 75
         go_loud ((refine (HTW.o _ ((Gr.refl w).alloc _) (by simp)).mono ?_;rintro en w2 ⟨k',mb',rfl,hk',hmb',hne',g2,hr2,hM2⟩;have HR2:=hid hr2;have G2:=hid g2;have HB2:=hid ((g2.block w.heap.size (by simp)).trans (heap_alloc_new w _));have fz:=z00 (j:=0) HB2.o;obtain ⟨p0,p1,p2⟩:=z0o HB2.o;have hb2:=block_lt HB2.o;have hks:w.heap.size<k':=(by simp at hk';omega);have hmbs:w.heap.size<mb':=(by simp at hmb';omega);clear hr2 g2 hM2 hk' hmb')))
      | (go_at_call 69
         have g3:Gr w (w2.setCell ⟨w.heap.size,0,none⟩ (.pointer (some ⟨k',0,none⟩))):=(((Gr.refl w).alloc _).trans G2.o).set (p:=⟨w.heap.size,0,none⟩) (Nat.le_refl _) _
         have hs3:(w2.setCell ⟨w.heap.size,0,none⟩ (.pointer (some ⟨k',0,none⟩))).heap.size=w2.heap.size:=by simp [World.setCell]
         have hkn:¬ M k':=fun e=>by have:=H.o.lt k' e;omega
         have hmn:¬ M mb':=fun e=>by have:=H.o.lt mb' e;omega
         have hff:=HR2.o.twinF hne' (fun e=>by rcases e with e | e;exact hmn e;omega)
         have hff3:z0O (w2.setCell ⟨w.heap.size,0,none⟩ (.pointer (some ⟨k',0,none⟩))) (z1H (z1O M w) k') k' r.f:=z2a hff (.inl (.inr rfl)) (by omega)
         have hlt3:∀ b,z1H (z1O M w) k' b→b<(w2.setCell ⟨w.heap.size,0,none⟩ (.pointer (some ⟨k',0,none⟩))).heap.size:=fun b e=>by
           rcases e with (e | e) | e
           · exact Nat.lt_of_lt_of_le (H.o.lt b e) g3.size
           · rw [e,hs3];exact hb2
           · rw [e,hs3];exact HR2.o.lt.1
         have hcall:=HACT.o _ (z1H (z1O M w) k') k' g3 (fun b e=>.inl (.inl e)) (fun b hb e=>by
           rcases e with (e | e) | e
           · exact e
           · omega
           · omega) hff3 hlt3 (.inr rfl) (by omega)
         refine hcall.mono ?_
         rintro en w4 ⟨A4,c4,rfl,hf4,ho4,hm4,hq4⟩
         have HQ4:=hid hq4
         have HFI:=hid (hf4.stay (M:=M) (fun b e=>.inl (.inl e)) hkn)
         have HREC:=hid (ho4.up (z1S w4 (M:=M) (M':=z1H (z1O M w) k') (fun b e=>.inl (.inl e))))
         have M4:=hid (modX g3 hm4 (by omega))
         have HB4:=hid ((hm4.block w.heap.size (by rw [hs3];exact hb2) (by
           intro e
           rcases e with e | e
           · omega
           · exact Nat.lt_irrefl _ (H.o.lt _ (HXX.o _ e).1))).trans (z02 HB2.o (j:=0) _))
         clear hf4 ho4 hm4 hq4 hff hff3 g3 hs3 hcall hlt3))
    obtain ⟨p0,p1,p2⟩:=z0o HB4.o
    have hl4:=block_lt HB4.o
    have P4:=hid (H.o.keep (Mod.up M4.o (fun b _ e=>(HXX.o b e).1)) (fun b e=>M4.o.block b (H.o.lt b (H.o.SM b e)) (fun x=>(HXX.o b x).2 e)) H.o.SM (fun b e=>Nat.lt_of_lt_of_le (H.o.lt b e) M4.o.size))
    obtain ⟨_,_,_,_,f4,f5,_,hk4⟩:=P4.o.cells
    obtain ⟨kv,hmi,hrel⟩:=P4.o.r
    have HMI:=hid hmi
    have HREL:=hid hrel
    clear hmi hrel
    have HRN:=hid HFK.o.2.2
    have HNX:=hid (z1Y (E:=E) (id:=id) (r:=⟨F',r.pf,r.pr⟩) (fun _=>⟨HFK.o.1,HFK.o.2.1.trans HFOK.o.2⟩))
    refine z01 [(0,false),(1,false),(2,false),(3,false),(4,false),(5,false),(6,true)] (fun W=>Gr w4 W) (by kernel_rfl) (by kernel_rfl) (fun _ _ d _ _ h=>by cases d<;>exact h) (Gr.refl w4).drew (fun _=>?_)
    iterate 6 (refine z03 (v:=?_) rfl (by rfl) ?_ ?_;rotate_left;(focus (intro W9 hW9;obtain ⟨x9,rfl⟩:∃ x:Ext w4,W9=x.val:=⟨⟨W9,hW9⟩,rfl⟩;go_simp;(try with_reducible rfl);done));(try simp only [AP]))
    refine z06 rfl (by rfl) (fun K hK=>?_)
    refine z0f _ _ _ _ 76 rfl 3 109 Tryz.underlying76 Tryz.underlying3 mr kv id (runV k' r.pf r.pr) (by rfl) (HMI.o.gr (Gr.refl w4).drew) (by rfl) (by rfl) ?_
    intro w7 hmi7 hm7
    have P7:=hid ((P4.o.gr (Gr.refl w4).drew).putRun hm7 (HREL.o.mono fun a v hr=>hr.up (Gr.up (Gr.refl w4).drew M)) hmi7 (HFI.o.up (Gr.up (Gr.refl w4).drew M)))
    have AL:=hid (show z0j w4 M S w7 M S from ⟨((Gr.refl w4).drew.mod S).trans hm7 (fun b _ e=>e▸H.o.smr),fun _ _ e=>e,fun _ _ e=>e,fun _ e=>e⟩)
    have HREC7:=hid (HREC.o.up ((Gr.up (Gr.refl w4).drew M).trans (Mod.up hm7 (fun b _ e=>e▸H.o.SM _ H.o.smr))))
    have HOUT:=hid (z42 PUT k { E with runs:=up E.runs id ⟨F',r.pf,r.pr⟩ } id E.now os _ M S w7 P7.o (HNX.o.ok hE) ⟨F',r.pf,r.pr⟩ (z0g _ _ _) HREC7.o (by have:=HOL.o;simp;omega) (fun o ho=>HOK.o o ho))
    rw [HR.o] at HOUT
    have HSZ:=hid hm7.size
    refine hK.o _ _ ?_
    clear hK K hmi7
    obtain ⟨_,_,_,_,i4,_,_,ik⟩:w7.cell? ⟨k,0,none⟩=some (.pointer (some ⟨kd,0,none⟩))∧w7.cell? ⟨k,1,none⟩=some (.pointer (some ⟨ka,0,none⟩))∧w7.cell? ⟨k,2,none⟩=some (.int .i64 E.shard)∧w7.cell? ⟨k,3,none⟩=some (.int .i64 E.groups)∧w7.cell? ⟨k,4,none⟩=some (.int .i64 E.now)∧w7.cell? ⟨k,5,none⟩=some (.map (some mr))∧w7.cell? ⟨k,6,none⟩=some (.pointer (some ⟨kh,0,none⟩))∧k<w7.heap.size:=by
      have hb:=(hm7.block k (by simpa using hk4) (fun e=>(z0u HMI.o P4.o.cell) e.symm)).trans ((Gr.refl w4).drew.block k hk4 |>.trans P4.o.cell)
      refine ⟨?_,?_,?_,?_,?_,?_,?_,block_lt hb⟩<;>simp [World.cell?,hb]
    clear hm7
    go_wp2_with (go_at_call 77;go_loud ((refine HOUT.o.mono ?_;intro en w9 hret;rcases hret.cases with ⟨_,v9,hen,hv9,hm9⟩ | ⟨E9,M9,S9,e9,_⟩;rotate_left;(cases e9);have hv9':v9=.bool false:=hv9;subst hv9';subst hen;have HM9:=hid hm9;clear hret hm9 hv9)))
    go_ret2
    exact ⟨w4,HQ4.o,M4.o,RetS.none_ AL.o HM9.o ⟨_,rfl⟩⟩
  | some E' =>
    go_enter Tryz.func68,Tryz.ntmps68
    go_upto_region 6 with (first
      | (go_at_call 75
         go_loud ((refine (HTW.o _ ((Gr.refl w).alloc _) (by simp)).mono ?_;rintro en w2 ⟨k',mb',rfl,hk',hmb',hne',g2,hr2,hM2⟩;have HR2:=hid hr2;have G2:=hid g2;have HB2:=hid ((g2.block w.heap.size (by simp)).trans (heap_alloc_new w _));have fz:=z00 (j:=0) HB2.o;obtain ⟨p0,p1,p2⟩:=z0o HB2.o;have hb2:=block_lt HB2.o;have hks:w.heap.size<k':=(by simp at hk';omega);have hmbs:w.heap.size<mb':=(by simp at hmb';omega);clear hr2 g2 hM2 hk' hmb')))
      | (go_at_call 69
         have g3:Gr w (w2.setCell ⟨w.heap.size,0,none⟩ (.pointer (some ⟨k',0,none⟩))):=(((Gr.refl w).alloc _).trans G2.o).set (p:=⟨w.heap.size,0,none⟩) (Nat.le_refl _) _
         have hs3:(w2.setCell ⟨w.heap.size,0,none⟩ (.pointer (some ⟨k',0,none⟩))).heap.size=w2.heap.size:=by simp [World.setCell]
         have hkn:¬ M k':=fun e=>by have:=H.o.lt k' e;omega
         have hmn:¬ M mb':=fun e=>by have:=H.o.lt mb' e;omega
         have hff:=HR2.o.twinF hne' (fun e=>by rcases e with e | e;exact hmn e;omega)
         have hff3:z0O (w2.setCell ⟨w.heap.size,0,none⟩ (.pointer (some ⟨k',0,none⟩))) (z1H (z1O M w) k') k' r.f:=z2a hff (.inl (.inr rfl)) (by omega)
         have hlt3:∀ b,z1H (z1O M w) k' b→b<(w2.setCell ⟨w.heap.size,0,none⟩ (.pointer (some ⟨k',0,none⟩))).heap.size:=fun b e=>by
           rcases e with (e | e) | e
           · exact Nat.lt_of_lt_of_le (H.o.lt b e) g3.size
           · rw [e,hs3];exact hb2
           · rw [e,hs3];exact HR2.o.lt.1
         have hcall:=HACT.o _ (z1H (z1O M w) k') k' g3 (fun b e=>.inl (.inl e)) (fun b hb e=>by
           rcases e with (e | e) | e
           · exact e
           · omega
           · omega) hff3 hlt3 (.inr rfl) (by omega)
         refine hcall.mono ?_
         rintro en w4 ⟨A4,c4,rfl,hf4,ho4,hm4,hq4⟩
         have HQ4:=hid hq4
         have HFI:=hid (hf4.stay (M:=M) (fun b e=>.inl (.inl e)) hkn)
         have HREC:=hid (ho4.up (z1S w4 (M:=M) (M':=z1H (z1O M w) k') (fun b e=>.inl (.inl e))))
         have M4:=hid (modX g3 hm4 (by omega))
         have HB4:=hid ((hm4.block w.heap.size (by rw [hs3];exact hb2) (by
           intro e
           rcases e with e | e
           · omega
           · exact Nat.lt_irrefl _ (H.o.lt _ (HXX.o _ e).1))).trans (z02 HB2.o (j:=0) _))
         clear hf4 ho4 hm4 hq4 hff hff3 g3 hs3 hcall hlt3))
    obtain ⟨p0,p1,p2⟩:=z0o HB4.o
    have hl4:=block_lt HB4.o
    have P4:=hid (H.o.keep (Mod.up M4.o (fun b _ e=>(HXX.o b e).1)) (fun b e=>M4.o.block b (H.o.lt b (H.o.SM b e)) (fun x=>(HXX.o b x).2 e)) H.o.SM (fun b e=>Nat.lt_of_lt_of_le (H.o.lt b e) M4.o.size))
    obtain ⟨_,_,_,_,f4,f5,_,hk4⟩:=P4.o.cells
    obtain ⟨kv,hmi,hrel⟩:=P4.o.r
    have HMI:=hid hmi
    have HREL:=hid hrel
    clear hmi hrel
    have HRN:=hid HFK.o.2.2
    have HNX:=hid (z1Y (E:=E) (id:=id) (r:=⟨F',r.pf,r.pr⟩) (fun _=>⟨HFK.o.1,HFK.o.2.1.trans HFOK.o.2⟩))
    refine z01 [(0,false),(1,false),(2,false),(3,false),(4,false),(5,false),(6,true)] (fun W=>Gr w4 W) (by kernel_rfl) (by kernel_rfl) (fun _ _ d _ _ h=>by cases d<;>exact h) (Gr.refl w4).drew (fun _=>?_)
    iterate 6 (refine z03 (v:=?_) rfl (by rfl) ?_ ?_;rotate_left;(focus (intro W9 hW9;obtain ⟨x9,rfl⟩:∃ x:Ext w4,W9=x.val:=⟨⟨W9,hW9⟩,rfl⟩;go_simp;(try with_reducible rfl);done));(try simp only [AP]))
    refine z06 rfl (by rfl) (fun K hK=>?_)
    refine z0f _ _ _ _ 76 rfl 3 109 Tryz.underlying76 Tryz.underlying3 mr kv id (runV k' r.pf r.pr) (by rfl) (HMI.o.gr (Gr.refl w4).drew) (by rfl) (by rfl) ?_
    intro w7 hmi7 hm7
    have P7:=hid ((P4.o.gr (Gr.refl w4).drew).putRun hm7 (HREL.o.mono fun a v hr=>hr.up (Gr.up (Gr.refl w4).drew M)) hmi7 (HFI.o.up (Gr.up (Gr.refl w4).drew M)))
    have AL:=hid (show z0j w4 M S w7 M S from ⟨((Gr.refl w4).drew.mod S).trans hm7 (fun b _ e=>e▸H.o.smr),fun _ _ e=>e,fun _ _ e=>e,fun _ e=>e⟩)
    have HREC7:=hid (HREC.o.up ((Gr.up (Gr.refl w4).drew M).trans (Mod.up hm7 (fun b _ e=>e▸H.o.SM _ H.o.smr))))
    have HOUT:=hid (z42 PUT k { E with runs:=up E.runs id ⟨F',r.pf,r.pr⟩ } id E.now os _ M S w7 P7.o (HNX.o.ok hE) ⟨F',r.pf,r.pr⟩ (z0g _ _ _) HREC7.o (by have:=HOL.o;simp;omega) (fun o ho=>HOK.o o ho))
    rw [HR.o] at HOUT
    have HSZ:=hid hm7.size
    refine hK.o _ _ ?_
    clear hK K hmi7
    obtain ⟨_,_,_,_,i4,_,_,ik⟩:w7.cell? ⟨k,0,none⟩=some (.pointer (some ⟨kd,0,none⟩))∧w7.cell? ⟨k,1,none⟩=some (.pointer (some ⟨ka,0,none⟩))∧w7.cell? ⟨k,2,none⟩=some (.int .i64 E.shard)∧w7.cell? ⟨k,3,none⟩=some (.int .i64 E.groups)∧w7.cell? ⟨k,4,none⟩=some (.int .i64 E.now)∧w7.cell? ⟨k,5,none⟩=some (.map (some mr))∧w7.cell? ⟨k,6,none⟩=some (.pointer (some ⟨kh,0,none⟩))∧k<w7.heap.size:=by
      have hb:=(hm7.block k (by simpa using hk4) (fun e=>(z0u HMI.o P4.o.cell) e.symm)).trans ((Gr.refl w4).drew.block k hk4 |>.trans P4.o.cell)
      refine ⟨?_,?_,?_,?_,?_,?_,?_,block_lt hb⟩<;>simp [World.cell?,hb]
    clear hm7
    go_wp2_with (go_at_call 77;go_loud ((refine HOUT.o.mono ?_;intro en w9 hret;rcases hret.cases with ⟨e9,_⟩ | ⟨E9,M9,S9,e9,hen,he9,ha9⟩;(cases e9);injection e9 with e9;subst e9;subst hen;have HE9:=hid he9;have HA9:=hid ha9;clear hret he9 ha9)))
    go_ret2
    exact ⟨w4,HQ4.o,M4.o,RetS.some_ (AL.o.trans HA9.o) HE9.o⟩
theorem z8I (PUT:z0e) (pe pc k kf kd ka mr kh:Nat) (E:ES) (c:Call) (d l:Value) (F:FS) (M:Bl) (w:World) (hk:w.heap[k]?=some (.cells (engC E kd ka mr kh) 79 (0,0))) (h:z0O w M kf F) (hM:∀ b,M b→b<w.heap.size) (hkf:M kf) (hne:k≠kf) (hF:FOk F) (hc:z0P w M c d l) (hnear:c.kind=8→E.groups=1∧E.shard=0∧c.l.length≤100000)
  (he:w.heap[pe]?=some (.cells #[.pointer (some ⟨k,0,none⟩)] 24 (0,0))) (hpc:w.heap[pc]?=some (.cells (z1U c d l) 35 (0,0))) :
  Calls Tryz.prog 69 #[.pointer (some ⟨kf,0,none⟩),.pointer (some ⟨pe,0,none⟩),.pointer (some ⟨pc,0,none⟩)] w (RetT M kf (askE (z09 E.groups) E c F) w):=by
 have HA:=hid (zeL PUT k kf kd ka mr kh E c d l F M w hk h hM hkf hne hF hc hnear)
 have p0:w.cell? ⟨pe,0,none⟩=some (.pointer (some ⟨k,0,none⟩)):=by simp [World.cell?,he]
 obtain ⟨a0,a1,a2,a3,a4,a5,a6,a7,a8,a9⟩:=z04 hpc
 have hpl:=block_lt he
 have hcl:=block_lt hpc
 obtain ⟨x,hx⟩:∃ x,askE (z09 E.groups) E c F=x:=⟨_,rfl⟩
 rw [hx] at HA ⊢
 clear hk h hM hkf hne hF hc hnear he hpc hx
 simp only [z0E,z1U] at HA
 go_enter Tryz.func69,Tryz.ntmps69
 go_wp2_with (go_at_call 70;go_loud ((refine HA.o.mono ?_;rintro en w3 ⟨A3,c3,rfl,hf3,ho3,hm3⟩)))
 go_ret2
 exact ⟨A3,c3,rfl,hf3,ho3,hm3⟩
set_option maxHeartbeats 8000000 in
theorem z6N (PUT:z0e) (k:Nat) (E:ES) (c:Call) (d l:Value) (M S:Bl) (w:World) (h:EngR w M S k E) (hE:EOk E) (hdue:E.due.length≤998000) (hc:z0P w M c d l) (hkind:c.kind=2∨c.kind=3∨c.kind=4) :
  Calls Tryz.prog 33 #[.pointer (some ⟨k,0,none⟩),z0E c d l] w (RetF M S k (doE (z09 E.groups) E c) w):=by
 obtain ⟨Ad,cd,rfl⟩:=hc.1.shape
 obtain ⟨Al,cl,rfl,_⟩:=hc.2.shape
 have HLT:=hid h.lt
 have hks:k<w.heap.size:=h.lt.1 k (h.lt.2.1 k h.lt.2.2)
 have HE:=hid hE
 obtain ⟨w1,hw1,g1,hb0,hb1,hb2⟩:=z4R w (.cells #[.pointer (some ⟨k,0,none⟩)] 24) (.cells #[.int .i64 c.kind,.int .i64 c.flow,.int .i64 c.list,.int .i64 c.n,.int .i64 c.tok.flow,.int .i64 c.tok.run,.int .i64 c.tok.event,.int .i64 c.tok.turn,.slice Ad c.data.length cd,.slice Al c.l.length cl] 35) (.cells #[.int .i64 0,.int .i64 0,.int .i64 0,.bool false,.int .i64 0,.int .i64 0,.int .i64 0,.int .i64 0,.slice none 0 0,.slice none 0 0] 31)
 have G1:=hid g1
 have HB0:=hid hb0
 have HB1:=hid hb1
 have HB2:=hid hb2
 have HM1:=hid (show EngR w1 (fun b=>M b∨b=w.heap.size+1+1) S k E from h.more g1 (by omega) (block_lt hb2))
 have HCM:=hid (hc.up (⟨g1.mod M,fun b hb e=>by
  rcases e with e | e
  ·exact e
  ·omega⟩:Up M w (fun b=>M b∨b=w.heap.size+1+1) w1))
 have NS:=hid (show ∀ b,w.heap.size≤b→¬ S b from fun b hb e=>by have:=h.lt.1 b (h.lt.2.1 b e);omega)
 have HS:=hid (show ∀ b,S b→b<w.heap.size from fun b e=>h.lt.1 b (h.lt.2.1 b e))
 have HFLOW:=hid (fun W=>z3l c (.slice Ad c.data.length cd) (.slice Al c.l.length cl) W ⟨⟨_,_,_,rfl⟩,_,_,_,rfl⟩)
 obtain ⟨fl,hfl⟩:∃ fl,z16 c=fl:=⟨_,rfl⟩
 rw [hfl] at HFLOW
 have HFE:=hid hfl
 clear hfl
 have HCHG:=hid (fun (w3:World) (g3:Gr w1 w3) (r:RunS) (hr:lk E.runs fl=some r)=>z5h PUT (.pointer (some ⟨w.heap.size,0,none⟩)) (.pointer (some ⟨w.heap.size+1,0,none⟩)) k E fl (askE (z09 E.groups) E c) (fun b=>M b∨b=w.heap.size+1+1) S (fun _=>False) (fun _=>True) w3 (HM1.o.gr g3) hE hdue r hr (z3Y _ _ _) (z5t _ _ _) (fun _ e=>e.elim) (fun W M' k' g hMM hMo hff hlt hkM hlo=>by
  obtain ⟨kd,ka,md,ma,mr,kh,hv,hP⟩:=HM1.o.gr (g3.trans g)
  have hks':k<w3.heap.size:=Nat.lt_of_lt_of_le hks (Nat.le_trans G1.o.size g3.size)
  have he:=((g3.trans g).block _ (block_lt HB0.o)).trans HB0.o
  have hpc:=((g3.trans g).block _ (block_lt HB1.o)).trans HB1.o
  have hcm:z0P W M' c (.slice Ad c.data.length cd) (.slice Al c.l.length cl):=HCM.o.up ⟨(g3.trans g).mod _,fun b hb e=>hMo b (Nat.lt_of_lt_of_le hb g3.size) e⟩
  refine (z8I PUT w.heap.size (w.heap.size+1) k k' kd ka mr kh E c _ _ r.f M' W hP.cell hff hlt hkM (by omega) (HE.o.get hr).1 hcm ((fun e=>by omega)) he hpc).mono ?_
  intro en W' hh
  obtain ⟨A,c',h1,h2,h3,h4⟩:=hh
  exact ⟨A,c',h1,h2,h3,h4.mono (fun _ _ e=>.inl e),trivial⟩))
 obtain ⟨X,hX⟩:∃ X,doE (z09 E.groups) E c=X:=⟨_,rfl⟩
 rw [hX]
 have HX:=hid hX
 clear hX hc hE hdue h g1 hb0 hb1 hb2
 simp only [z0E,z1U] at *
 generalize hdl:c.data.length=dl at *
 generalize hll:c.l.length=ll at *
 clear hdl hll
 rcases hkind with hkind | hkind | hkind
 all_goals
  have HK:=hid hkind
  rw [hkind] at hw1 HB1 HFLOW
  rw [hkind]
  have HW1:=hid hw1
  clear hw1 hkind
  have p0:w1.cell? ⟨w.heap.size,0,none⟩=some (.pointer (some ⟨k,0,none⟩)):=by simp [World.cell?,HB0.o]
  obtain ⟨a0,a1,a2,a3,a4,a5,a6,a7,a8,a9⟩:=z04 HB1.o
  have l0:=block_lt HB0.o
  have l1:=block_lt HB1.o
  have l2:=block_lt HB2.o
  go_enter Tryz.func33,Tryz.ntmps33
  go_upto_region 1 with fail
  rw [HW1.o]
  go_upto_region 14 with (go_at_call 64;refine (HFLOW.o _).mono ?_;rintro en _ ⟨rfl,y1,rfl⟩)
  obtain ⟨w2,hw2⟩:∃ w2,y1.val=w2:=⟨_,rfl⟩
  have G2:=hid (show Gr w1 w2 from hw2▸y1.gr)
  rw [hw2]
  clear hw2 y1
  clear p0 a0 a1 a2 a3 a4 a5 a6 a7 a8 a9
  have p0:w2.cell? ⟨w.heap.size,0,none⟩=some (.pointer (some ⟨k,0,none⟩)):=by
   have:=(G2.o.block _ l0).trans HB0.o
   simp [World.cell?,this]
  obtain ⟨a0,a1,a2,a3,a4,a5,a6,a7,a8,a9⟩:=z04 ((G2.o.block _ l1).trans HB1.o)
  have m0:=Nat.lt_of_lt_of_le l0 G2.o.size
  have m1:=Nat.lt_of_lt_of_le l1 G2.o.size
  obtain ⟨kd,ka,md,ma,mr,kh,hv,hP⟩:=HM1.o.gr G2.o
  obtain ⟨_,_,_,_,_,f5,_,hk2⟩:=hP.cells
  have HP:=hid hP
  rcases hP.look fl true with ⟨hn,hlk'⟩ | ⟨r,kf,hr,hf,hlk'⟩
  ·simp only [if_true] at hlk'
   have HRQ:=hid hn
   have hlk:=hlk' w2 (Gr.refl _)
   have HXX:=hid (show X=(z0b 2,some E) from by rw [← HX.o];unfold doE;simp [HK.o,z1Z,HFE.o,HRQ.o])
   clear hlk' hn hP
   go_upto_region 15 with fail
   have HQ9:=hid (heap_alloc_new w2 (.cells #[.pointer none,.int .i64 0,.int .i64 0] 109))
   have G9:=hid ((Gr.refl w2).alloc (.cells #[.pointer none,.int .i64 0,.int .i64 0] 109))
   obtain ⟨w3,hw3⟩:∃ w3,w2.alloc (.cells #[.pointer none,.int .i64 0,.int .i64 0] 109)=w3:=⟨_,rfl⟩
   have HQ:=hid (show w3.heap[w2.heap.size]?=some (.cells #[.pointer none,.int .i64 0,.int .i64 0] 109) from by rw [← hw3];exact HQ9.o)
   rw [hw3] at G9 ⊢
   clear hw3 HQ9
   generalize hq9:w2.heap.size=q9 at *
   have HN9:=hid hq9
   clear hq9
   have G3:=hid (G2.o.trans G9.o)
   clear p0 a0 a1 a2 a3 a4 a5 a6 a7 a8 a9
   have p0:w3.cell? ⟨w.heap.size,0,none⟩=some (.pointer (some ⟨k,0,none⟩)):=by
    have:=(G3.o.block _ l0).trans HB0.o
    simp [World.cell?,this]
   obtain ⟨a0,a1,a2,a3,a4,a5,a6,a7,a8,a9⟩:=z04 ((G3.o.block _ l1).trans HB1.o)
   have m0:=Nat.lt_of_lt_of_le l0 G3.o.size
   have m1:=Nat.lt_of_lt_of_le l1 G3.o.size
   obtain ⟨u0,u1,u2⟩:=z0o HQ.o
   have ul:=block_lt HQ.o
   have HFL:=hid (fun W=>z0R 2 W)
   go_wp2_with (go_at_call 32;refine (HFL.o _).mono ?_;rintro en _ ⟨rfl,y2,rfl⟩;(have G4:=hid (G3.o.trans y2.gr));(have r4:=(G4.o.block _ l2).trans HB2.o);(obtain ⟨b0,b1,b2,b3,b4,b5,b6,b7,b8,b9⟩:=z04 r4);(have l4:=block_lt r4);(obtain ⟨f0,f1,f2,f3,f4,f5,f6,f7,f8,f9⟩:=FZ r4))
   have HF:=hid (show ∀ w3,Mod (fun x=>x=w.heap.size+1+1) y2.val w3→RetF M S k X w (.returned (.tuple #[ansV (z0b 2) (.slice none 0 0) (.slice none 0 0),.bool false])) w3 from fun w3 m=>by
    rw [HXX.o]
    have hd:BysM y2.val (fun b=>M b∨b=w.heap.size+1+1) (.slice none 0 0) (z0b 2).data:=BysM.none _ _
    have he:z08 evR y2.val (fun b=>M b∨b=w.heap.size+1+1) (.slice none 0 0) (z0b 2).events:=z08.none _ _ _
    exact ⟨.slice none 0 0,.slice none 0 0,_,S,rfl,z0F HS.o G1.o (by omega) l2 (HM1.o.gr G4.o) ((z0j.refl w1 _ S).gr G4.o) hd he m⟩)
   clear r4
   refine bodyPost_ret (v:=.tuple #[ansV (z0b 2) (.slice none 0 0) (.slice none 0 0),.bool false]) (by simp [results,Tryz.results33,go_sem,ansV,ansC,z0b,ans0,tok0,b0,b1,b2,b3,b4,b5,b6,b7,b8,b9]) rfl ?_
   refine HF.o _ ?_
   exact z1f y2.val (w.heap.size+1+1) _ _ _ _ _ _ _ _ _ _
  ·simp only [if_true,runV] at hlk'
   have HRQ:=hid hr
   have hlk:=hlk' w2 (Gr.refl _)
   have hXX:X=(z0b (z0k E fl (askE (z09 E.groups) E c)).1,(z0k E fl (askE (z09 E.groups) E c)).2):=by rw [← HX.o];unfold doE;simp [HK.o,z1Z,HFE.o,HRQ.o]
   have HXX:=hid hXX
   clear hlk' hr hP hXX
   go_upto_region 15 with fail
   have HQ9:=hid (heap_alloc_new w2 (.cells #[.pointer (some ⟨kf,0,none⟩),.int .i64 r.pf,.int .i64 r.pr] 109))
   have G9:=hid ((Gr.refl w2).alloc (.cells #[.pointer (some ⟨kf,0,none⟩),.int .i64 r.pf,.int .i64 r.pr] 109))
   obtain ⟨w3,hw3⟩:∃ w3,w2.alloc (.cells #[.pointer (some ⟨kf,0,none⟩),.int .i64 r.pf,.int .i64 r.pr] 109)=w3:=⟨_,rfl⟩
   have HQ:=hid (show w3.heap[w2.heap.size]?=some (.cells #[.pointer (some ⟨kf,0,none⟩),.int .i64 r.pf,.int .i64 r.pr] 109) from by rw [← hw3];exact HQ9.o)
   rw [hw3] at G9 ⊢
   clear hw3 HQ9
   generalize hq9:w2.heap.size=q9 at *
   have HN9:=hid hq9
   clear hq9
   have G3:=hid (G2.o.trans G9.o)
   clear p0 a0 a1 a2 a3 a4 a5 a6 a7 a8 a9
   have p0:w3.cell? ⟨w.heap.size,0,none⟩=some (.pointer (some ⟨k,0,none⟩)):=by
    have:=(G3.o.block _ l0).trans HB0.o
    simp [World.cell?,this]
   obtain ⟨a0,a1,a2,a3,a4,a5,a6,a7,a8,a9⟩:=z04 ((G3.o.block _ l1).trans HB1.o)
   have m0:=Nat.lt_of_lt_of_le l0 G3.o.size
   have m1:=Nat.lt_of_lt_of_le l1 G3.o.size
   obtain ⟨u0,u1,u2⟩:=z0o HQ.o
   have ul:=block_lt HQ.o
   have HC3:=hid (HCHG.o w3 G3.o r HRQ.o)
   obtain ⟨x,hx⟩:∃ x,z0k E fl (askE (z09 E.groups) E c)=x:=⟨_,rfl⟩
   rw [hx] at HC3 HXX
   clear hx hf
   rcases x with ⟨ec,RX⟩
   try simp only at HC3 HXX
   go_wp2_with fail
   refine HC3.o.mono ?_
   rintro en w4 ⟨w5,_,hmX,hret⟩
   have G5:=z2c (Gr.refl w3) hmX (fun _ e=>e.elim)
   rcases hret.cases with ⟨hR,v,rfl,⟨x,rfl⟩,hm⟩ | ⟨E',M',S',hR,rfl,heng,hal⟩
   ·have HM4:=hid (((G3.o.trans G5).mod S).trans hm (fun _ _ e=>e))
    subst hR
    clear p0 a0 a1 a2 a3 a4 a5 a6 a7 a8 a9 u0 u1 u2 m0 m1
    have p0:w4.cell? ⟨w.heap.size,0,none⟩=some (.pointer (some ⟨k,0,none⟩)):=by
     have:=(HM4.o.block _ l0 (NS.o _ (Nat.le_refl _))).trans HB0.o
     simp [World.cell?,this]
    obtain ⟨a0,a1,a2,a3,a4,a5,a6,a7,a8,a9⟩:=z04 ((HM4.o.block _ l1 (NS.o _ (Nat.le_succ _))).trans HB1.o)
    have m0:=Nat.lt_of_lt_of_le l0 HM4.o.size
    have m1:=Nat.lt_of_lt_of_le l1 HM4.o.size
    clear hret hm hmX G5
    have HFL:=hid (fun W=>z0R x W)
    go_wp2_with (go_at_call 32;refine (HFL.o _).mono ?_;rintro en _ ⟨rfl,y2,rfl⟩;(have r4:=(y2.gr.block _ (Nat.lt_of_lt_of_le l2 HM4.o.size)).trans ((HM4.o.block _ l2 (NS.o _ (by omega))).trans HB2.o));(obtain ⟨b0,b1,b2,b3,b4,b5,b6,b7,b8,b9⟩:=z04 r4);(have l4:=block_lt r4);(obtain ⟨f0,f1,f2,f3,f4,f5,f6,f7,f8,f9⟩:=FZ r4))
    have HF:=hid (show ∀ w3,Mod (fun x=>x=w.heap.size+1+1) y2.val w3→RetF M S k X w (.returned (.tuple #[ansV (z0b x) (.slice none 0 0) (.slice none 0 0),.bool true])) w3 from fun w3 m=>by
     rw [HXX.o]
     exact ⟨_,none,0,0,none,0,0,rfl,z4q G1.o (by omega) (HM4.o.gr y2.gr) m⟩)
    clear r4
    refine bodyPost_ret (v:=.tuple #[ansV (z0b x) (.slice none 0 0) (.slice none 0 0),.bool true]) (by simp [results,Tryz.results33,go_sem,ansV,ansC,z0b,ans0,tok0,b0,b1,b2,b3,b4,b5,b6,b7,b8,b9]) rfl ?_
    refine HF.o _ ?_
    exact z1f y2.val (w.heap.size+1+1) _ _ _ _ _ _ _ _ _ _
   ·have HAL:=hid (((z0j.refl w1 (fun b=>M b∨b=w.heap.size+1+1) S).gr (G3.o.trans G5)).trans hal)
    have HEN:=hid heng
    subst hR
    clear p0 a0 a1 a2 a3 a4 a5 a6 a7 a8 a9 u0 u1 u2 m0 m1
    have p0:w4.cell? ⟨w.heap.size,0,none⟩=some (.pointer (some ⟨k,0,none⟩)):=by
     have:=(HAL.o.mod.block _ l0 (NS.o _ (Nat.le_refl _))).trans HB0.o
     simp [World.cell?,this]
    obtain ⟨a0,a1,a2,a3,a4,a5,a6,a7,a8,a9⟩:=z04 ((HAL.o.mod.block _ l1 (NS.o _ (Nat.le_succ _))).trans HB1.o)
    have m0:=Nat.lt_of_lt_of_le l0 HAL.o.mod.size
    have m1:=Nat.lt_of_lt_of_le l1 HAL.o.mod.size
    clear hret hal heng hmX G5
    have HFL:=hid (fun W=>z0R ec W)
    go_wp2_with (go_at_call 32;refine (HFL.o _).mono ?_;rintro en _ ⟨rfl,y2,rfl⟩;(have r4:=(y2.gr.block _ (Nat.lt_of_lt_of_le l2 HAL.o.mod.size)).trans ((HAL.o.mod.block _ l2 (NS.o _ (by omega))).trans HB2.o));(obtain ⟨b0,b1,b2,b3,b4,b5,b6,b7,b8,b9⟩:=z04 r4);(have l4:=block_lt r4);(obtain ⟨f0,f1,f2,f3,f4,f5,f6,f7,f8,f9⟩:=FZ r4))
    have HF:=hid (show ∀ w3,Mod (fun x=>x=w.heap.size+1+1) y2.val w3→RetF M S k X w (.returned (.tuple #[ansV (z0b ec) (.slice none 0 0) (.slice none 0 0),.bool false])) w3 from fun w3 m=>by
     rw [HXX.o]
     have hd:BysM y2.val M' (.slice none 0 0) (z0b ec).data:=BysM.none _ _
     have he:z08 evR y2.val M' (.slice none 0 0) (z0b ec).events:=z08.none _ _ _
     exact ⟨.slice none 0 0,.slice none 0 0,M',S',rfl,z0F HS.o G1.o (by omega) l2 (HEN.o.gr y2.gr) (HAL.o.gr y2.gr) hd he m⟩)
    clear r4
    refine bodyPost_ret (v:=.tuple #[ansV (z0b ec) (.slice none 0 0) (.slice none 0 0),.bool false]) (by simp [results,Tryz.results33,go_sem,ansV,ansC,z0b,ans0,tok0,b0,b1,b2,b3,b4,b5,b6,b7,b8,b9]) rfl ?_
    refine HF.o _ ?_
    exact z1f y2.val (w.heap.size+1+1) _ _ _ _ _ _ _ _ _ _
end Go.Proofs.YtniknicnnaiilaaGreat
end
