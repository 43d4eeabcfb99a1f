/- Lemmas of the engine. -/
import Derived.Test.YtniknicnnaiilaaGreatX16
import Derived.Test.YtniknicnnaiilaaGreatX17
import Derived.Test.YtniknicnnaiilaaGreatX20
section
namespace Go.Proofs.YtniknicnnaiilaaGreat
set_option maxRecDepth 100000
open Go.RowKit Go.Ext Go.BigFrame Go.Maps Go.MapKept
attribute [local go_sem] Ext.cell Ext.frozen Ext.lt Ext.le s1 s2 s3 s4 s5 s6 t1 t2 t3 t4 t5 t6
attribute [local go_sem ↓] Go.wp_at_zero Go.wp_at_succ
def ansC (a:Ans) (d e:Value):Array Value:=#[.int .i64 a.err,.int .i64 a.run,.int .i64 a.status,.bool a.given,.int .i64 a.tok.flow,.int .i64 a.tok.run,.int .i64 a.tok.event,.int .i64 a.tok.turn,d,e]
def ansV (a:Ans) (d e:Value):Value:=.agg (ansC a d e)
def Told (pa:Nat) (M:Bl) (a:Ans) (W:World):Prop:=∃ dv,W.heap[pa]?=some (.cells (ansC a dv (.slice none 0 0)) 31 (0,0))∧BysM W M dv a.data
theorem Told.up {pa:Nat} {M M':Bl} {a:Ans} {W W':World} (h:Told pa M a W) (u:Up M W M' W') (hb:W'.heap[pa]?=W.heap[pa]?):Told pa M' a W':=by
 obtain ⟨dv,h1,h2⟩:=h
 exact ⟨dv,hb.trans h1,h2.up u⟩
theorem zdy {w:World} {M:Bl} {A:Option Addr} {n c:Nat} {l:List Ev} {e:Ev} {r:List Ev} (h:z08 evR w M (.slice A n c) l) (hl:l=e::r):∃ b off d,A=some ⟨b,off,none⟩∧n=r.length+1∧n≤c∧b<w.heap.size∧w.cell? ⟨b,off+6,none⟩=some d∧BysM w M d e.data:=by
 subst hl
 obtain ⟨b,off,d,h1,h2,h3,h4,h5⟩:=h.at_ (m:=6) (i:=0) (x:=e) (fun x=>z14 x) rfl
 obtain ⟨A',c',e1,e2⟩:=h.shape
 injection e1 with e3 e4 e5
 subst e4 e5
 exact ⟨b,off,d,h1,by simp,e2,h2,by simpa using h5 6 d rfl,h4⟩
set_option maxHeartbeats 2000000 in
theorem zfa (PUT:z0e) (kf pc pt pe pa k kd ka mr kh:Nat) (E:ES) (t:Task) (F:FS) (ck:Int) (cr:List Value) (M:Bl) (w:World) (hk:w.heap[k]?=some (.cells (engC E kd ka mr kh) 79 (0,0))) (h:z0O w M kf F) (hM:∀ b,M b→b<w.heap.size) (hkf:M kf) (_:M pa) (hne:k≠kf∧pc≠kf∧pt≠kf∧pe≠kf∧pa≠kf∧k≠pa∧pt≠pa∧pe≠pa) (hF:FOk F)
  (hpc:w.heap[pc]?=some (.cells (Value.int .i64 ck::cr).toArray 35 (0,0))) (hpt:w.heap[pt]?=some (.cells #[.int .i64 t.flow,.int .i64 t.run,.int .i64 t.ref,.int .i64 t.turn] 84 (0,0))) (hpe:w.heap[pe]?=some (.cells #[.pointer (some ⟨k,0,none⟩)] 24 (0,0)))
  (hpa:w.heap[pa]?=some (.cells (ansC (z2Z true t F) (.slice none 0 0) (.slice none 0 0)) 31 (0,0))) (h7:ck=7) :
  Calls Tryz.prog 137 #[.pointer (some ⟨kf,0,none⟩),.pointer (some ⟨pc,0,none⟩),.pointer (some ⟨pt,0,none⟩),.pointer (some ⟨pe,0,none⟩),.pointer (some ⟨pa,0,none⟩)] w (RetQ M kf (fun b=>b=pa) (z2s true t E.now F) (Told pa M (z2Z true t F)) w):=by
 subst h7
 obtain ⟨n1,n2,n3,n4,n5,n6,n7,n8⟩:=hne
 have HD:=hid (fun (W:World) (g:Gr w W)=>z8H PUT kf F t.ref t.turn E.now M W (h.gr g) (fun b e=>Nat.lt_of_lt_of_le (hM b e) g.size) hkf hF)
 have HPA:=hid hpa
 have c0:w.cell? ⟨pc,0,none⟩=some (.int .i64 7):=by simp [World.cell?,hpc]
 have hcl:=block_lt hpc
 have hX:z2s true t E.now F=z1z F t.ref t.turn E.now:=rfl
 rw [hX]
 clear hX
 obtain ⟨x,hx⟩:∃ x,z1z F t.ref t.turn E.now=x:=⟨_,rfl⟩
 rw [hx] at HD ⊢
 have HS:=hid (show ∀ W,Mod (fun b=>b=kf) w W→∃ _:pt<W.heap.size∧pe<W.heap.size∧k<W.heap.size,(W.cell? ⟨pt,2,none⟩=some (.int .i64 t.ref)∧W.cell? ⟨pt,3,none⟩=some (.int .i64 t.turn))∧W.cell? ⟨pe,0,none⟩=some (.pointer (some ⟨k,0,none⟩))∧W.cell? ⟨k,4,none⟩=some (.int .i64 E.now) from fun W mm=>by
  have q0:=(mm.block pt (block_lt hpt) n3).trans hpt
  have q1:=(mm.block pe (block_lt hpe) n4).trans hpe
  have q2:=(mm.block k (block_lt hk) n1).trans hk
  refine ⟨⟨block_lt q0,block_lt q1,block_lt q2⟩,⟨?_,?_⟩,?_,?_⟩
  ·simp [World.cell?,q0]
  ·simp [World.cell?,q0]
  ·simp [World.cell?,q1]
  ·simp [World.cell?,q2,engC])
 clear hk h hM hF hpc hpt hpe hpa hx
 go_enter Tryz.func137,Tryz.ntmps137
 go_upto_region 2 with fail
 refine z01 [(0,false),(1,false),(2,false),(3,false),(4,false),(5,false),(6,false),(7,false),(8,false),(9,true),(10,false),(11,false),(12,false),(13,true)] (fun W=>Mod (fun b=>b=kf) w W) (by kernel_rfl) (by kernel_rfl) (fun _ _ d _ _ h=>by cases d<;>exact h) ((Gr.refl w).drew.mod _) (fun _=>?_)
 iterate 9 (refine z03 (v:=?_) rfl (by rfl) ?_ ?_;rotate_left;(focus (intro W9 hW9;obtain ⟨⟨_,_,_⟩,⟨a0,a1⟩,a2,a3⟩:=HS.o W9 hW9;go_simp;(try with_reducible rfl);done));(try simp only [AP]))
 refine z05 rfl (by rfl) (fun K hK=>?_)
 go_simp
 go_at_call 138
 refine (HD.o _ (Gr.refl w).drew).mono ?_
 rintro en w5 ⟨A5,c5,rfl,hf5,ho5,hm5⟩
 have M5:=hid ((((Gr.refl w).drew.mod _).trans hm5 (fun _ _ e=>e)))
 refine hK.o (fun W=>Mod (fun b=>b=kf) w W) _ _ M5.o (fun W h=>h) (fun _=>?_)
 clear hK K
 (try simp only [AP])
 iterate 3 (refine z03 (v:=?_) rfl (by rfl) ?_ ?_;rotate_left;(focus (intro W9 hW9;obtain ⟨⟨_,_,_⟩,⟨a0,a1⟩,a2,a3⟩:=HS.o W9 hW9;go_simp;(try with_reducible rfl);done));(try simp only [AP]))
 refine z06 rfl (by rfl) (fun K hK=>?_)
 go_simp
 refine hK.o _ _ ?_
 clear hK K
 go_wp2_with fail
 go_ret2
 exact ⟨A5,c5,rfl,hf5,ho5,M5.o.mono (fun _ _ e=>.inl e),⟨_,(M5.o.block pa (block_lt HPA.o) n5).trans HPA.o,BysM.none _ _⟩⟩
set_option maxHeartbeats 2000000 in
theorem zf9 (PUT:z0e) (kf pc pt pe pa k kd ka mr kh:Nat) (E:ES) (t:Task) (F:FS) (ck:Int) (cr:List Value) (M:Bl) (w:World) (hk:w.heap[k]?=some (.cells (engC E kd ka mr kh) 79 (0,0))) (h:z0O w M kf F) (hM:∀ b,M b→b<w.heap.size) (hkf:M kf) (hpaM:M pa) (hne:k≠kf∧pc≠kf∧pt≠kf∧pe≠kf∧pa≠kf∧k≠pa∧pt≠pa∧pe≠pa) (hF:FOk F)
    (hpc:w.heap[pc]?=some (.cells (Value.int .i64 ck::cr).toArray 35 (0,0))) (hpt:w.heap[pt]?=some (.cells #[.int .i64 t.flow,.int .i64 t.run,.int .i64 t.ref,.int .i64 t.turn] 84 (0,0))) (hpe:w.heap[pe]?=some (.cells #[.pointer (some ⟨k,0,none⟩)] 24 (0,0)))
    (hpa:w.heap[pa]?=some (.cells (ansC (z2Z true t F) (.slice none 0 0) (.slice none 0 0)) 31 (0,0))) (h7:ck≠7) (e:Ev) (es:List Ev) (hev:z15 F t.ref=e::es) (hrf:0≤t.ref∧t.ref≤1000000) :
    Calls Tryz.prog 137 #[.pointer (some ⟨kf,0,none⟩),.pointer (some ⟨pc,0,none⟩),.pointer (some ⟨pt,0,none⟩),.pointer (some ⟨pe,0,none⟩),.pointer (some ⟨pa,0,none⟩)] w (RetQ M kf (fun b=>b=pa) (z2s false t E.now F) (Told pa M (z2Z false t F)) w):=by
  obtain ⟨n1,n2,n3,n4,n5,n6,n7,n8⟩:=hne
  obtain ⟨mb,hmb,hfr⟩:=h
  have HEV:=hid (z4e kf mb F M t.ref w hfr (by have:=hF.len;omega) hF.ne hM (by omega))
  have HD:=hid (fun (W:World) (hh:z0O W M kf F) (hM:∀ b,M b→b<W.heap.size)=>zd6 PUT kf F t.ref E.now M W hh hM hkf hF)
  have HM:=hid hM
  have H:=hid (show z0O w M kf F from ⟨mb,hmb,hfr⟩)
  have HPA:=hid hpa
  have HPT:=hid hpt
  have HPE:=hid hpe
  have HK:=hid hk
  have HKF:=hid hkf
  have HEE:=hid hev
  rw [hev] at HEV
  have c0:w.cell? ⟨pc,0,none⟩=some (.int .i64 ck):=by simp [World.cell?,hpc]
  have c2:w.cell? ⟨pt,2,none⟩=some (.int .i64 t.ref):=by simp [World.cell?,hpt]
  have hcl:=block_lt hpc
  have htl:=block_lt hpt
  have h7':(ck==7)=false:=by simpa using h7
  have hX:z2s false t E.now F=z3F F t.ref E.now:=rfl
  rw [hX]
  clear hX
  obtain ⟨x,hx⟩:∃ x,z3F F t.ref E.now=x:=⟨_,rfl⟩
  rw [hx] at HD ⊢
  clear hk hM hF hpc hpt hpe hpa hx hfr hev hkf
  simp only [List.length_cons] at HEV
  go_enter Tryz.func137,Tryz.ntmps137
  go_upto_region 4 with (go_at_call 67
                         go_loud ((refine HEV.o.mono ?_;rintro en w2 ⟨A2,c2',rfl,g2,hr2⟩;have HR2:=hid hr2;have G2:=hid g2;obtain ⟨b2,off2,dv,hA2,hn2,hcc2,hb2,hcell2,hdv⟩:=zdy hr2 rfl;subst hA2;obtain ⟨Adv,cdv,hdve⟩:=hdv.shape;rw [hdve] at hcell2;have HDV:=hid hdv;have HDE:=hid hdve;have HPA2:=hid ((g2.block pa (block_lt HPA.o)).trans HPA.o);have fz:=z00 (j:=8) HPA2.o;have hpa8:w2.cell? ⟨pa,8,none⟩=some (.slice none 0 0):=(by simp [World.cell?,HPA2.o,ansC]);have hpal:=block_lt HPA2.o;clear hr2 g2 hdv hdve))
  )
  obtain ⟨w3,hw3⟩:∃ w3,w2.setCell ⟨pa,8,none⟩ (.slice Adv e.data.length cdv)=w3:=⟨_,rfl⟩
  have HPA3:=hid (z02 HPA2.o (j:=8) (.slice Adv e.data.length cdv))
  have M3:=hid (z0m (S:=fun b=>b=pa) ((Gr.refl w2).mod _) (b:=pa) (j:=8) (fun _=>rfl) (.slice Adv e.data.length cdv))
  rw [hw3] at HPA3 M3 ⊢
  have hw3':=hw3
  clear hw3
  have FF3:=hid (show z0O w3 M kf F from by rw [← hw3'];exact z2a (H.o.gr G2.o) hpaM (fun e=>n5 e.symm))
  have DD3:=hid (show BysM w3 M dv e.data from HDV.o.up (Mod.up M3.o (fun b _ e=>e▸hpaM)))
  clear hw3'
  have HS:=hid (show ∀ W,Mod (fun b=>b=kf) w3 W→∃ _:pt<W.heap.size∧pe<W.heap.size∧k<W.heap.size,W.cell? ⟨pt,2,none⟩=some (.int .i64 t.ref)∧W.cell? ⟨pe,0,none⟩=some (.pointer (some ⟨k,0,none⟩))∧W.cell? ⟨k,4,none⟩=some (.int .i64 E.now) from fun W mm=>by
    have s3:=M3.o.size
    have gs:=G2.o.size
    have q0:=(mm.block pt (by have:=block_lt HPT.o;omega) n3).trans ((M3.o.block pt (by have:=block_lt HPT.o;omega) n7).trans ((G2.o.block pt (block_lt HPT.o)).trans HPT.o))
    have q1:=(mm.block pe (by have:=block_lt HPE.o;omega) n4).trans ((M3.o.block pe (by have:=block_lt HPE.o;omega) n8).trans ((G2.o.block pe (block_lt HPE.o)).trans HPE.o))
    have q2:=(mm.block k (by have:=block_lt HK.o;omega) n1).trans ((M3.o.block k (by have:=block_lt HK.o;omega) n6).trans ((G2.o.block k (block_lt HK.o)).trans HK.o))
    refine ⟨⟨block_lt q0,block_lt q1,block_lt q2⟩,?_,?_,?_⟩
    · simp [World.cell?,q0]
    · simp [World.cell?,q1]
    · simp [World.cell?,q2,engC])
  refine z01 [(0,false),(1,false),(2,false),(3,false),(4,false),(5,false),(6,false),(7,true),(8,false),(9,false),(10,false),(11,true)] (fun W=>Mod (fun b=>b=kf) w3 W) (by kernel_rfl) (by kernel_rfl) (fun _ _ d _ _ h=>by cases d<;>exact h) ((Gr.refl w3).drew.mod _) (fun _=>?_)
  iterate 7 (refine z03 (v:=?_) rfl (by rfl) ?_ ?_;rotate_left;(focus (intro W9 hW9;obtain ⟨⟨_,_,_⟩,a0,a2,a3⟩:=HS.o W9 hW9;go_simp;(try with_reducible rfl);done));(try simp only [AP]))
  refine z05 rfl (by rfl) (fun K hK=>?_)
  go_simp
  go_at_call 139
  refine (HD.o _ ?_ ?_).mono ?_
  · exact FF3.o.gr (Gr.refl w3).drew
  · exact fun b e=>Nat.lt_of_lt_of_le (HM.o b e) (Nat.le_trans G2.o.size (Nat.le_trans M3.o.size (Gr.refl w3).drew.size))
  rintro en w5 ⟨A5,c5,rfl,hf5,ho5,hm5⟩
  have M5:=hid ((((Gr.refl w3).drew.mod _).trans hm5 (fun _ _ e=>e)))
  refine hK.o (fun W=>Mod (fun b=>b=kf) w3 W) _ _ M5.o (fun W h=>h) (fun _=>?_)
  clear hK K
  (try simp only [AP])
  iterate 3 (refine z03 (v:=?_) rfl (by rfl) ?_ ?_;rotate_left;(focus (intro W9 hW9;obtain ⟨⟨_,_,_⟩,a0,a2,a3⟩:=HS.o W9 hW9;go_simp;(try with_reducible rfl);done));(try simp only [AP]))
  refine z06 rfl (by rfl) (fun K hK=>?_)
  go_simp
  refine hK.o _ _ ?_
  clear hK K
  go_wp2_with fail
  go_ret2
  refine ⟨A5,c5,rfl,hf5,ho5,?_,?_⟩
  · exact ((G2.o.mod _).trans ((M3.o.mono (fun _ _ e=>.inr e)).trans (M5.o.mono (fun _ _ e=>.inl e)) (fun _ _ e=>e)) (fun _ _ e=>e))
  · refine ⟨dv,?_,?_⟩
    · rw [HDE.o]
      refine (M5.o.block pa (block_lt HPA3.o) n5).trans (HPA3.o.trans ?_)
      simp [ansC,z2Z,HEE.o]
    · have hda:(z2Z false t F).data=e.data:=by simp [z2Z,HEE.o]
      rw [hda]
      exact DD3.o.up (Mod.up M5.o (fun b _ e=>e▸HKF.o))
set_option maxHeartbeats 4000000 in
theorem zam (PUT:z0e) (c0_ c1_ c2_ c3_:Value) (k:Nat) (E:ES) (id:Int) (act:FS→FR) (M S X:Bl) (Q:World→Prop) (w:World) (h:EngR w M S k E) (hE:EOk E) (hdue:E.due.length≤998000) (r:RunS) (hr:lk E.runs id=some r)
    (hg:z3H act) (hgk:z4j act) (hX:∀ b,X b→M b∧¬ S b)
    (hact:∀ W M' k',Gr w W→(∀ b,M b→M' b)→(∀ b,b<w.heap.size→M' b→M b)→z0O W M' k' r.f→(∀ b,M' b→b<W.heap.size)→M' k'→w.heap.size≤k'→Calls Tryz.prog 137 #[.pointer (some ⟨k',0,none⟩),c0_,c1_,c2_,c3_] W (RetQ M' k' X (act r.f) Q W)) :
    Calls Tryz.prog 68 #[.pointer (some ⟨k,0,none⟩),.int .i64 id,.func (.func 137) #[] #[c0_,c1_,c2_,c3_]] w (RetC M S X k (z0k E id act).2 (.tuple #[.int .i64 (z0k E id act).1,.bool false]) vC Q w):=by
  obtain ⟨kd,ka,md,ma,mr,kh,hv,hP⟩:=h
  have H:=hid hP
  obtain ⟨e0,e1,e2,e3,e4,e5,e6,hkl⟩:=hP.cells
  rcases hP.look id false with ⟨hn,_⟩ | ⟨r',kf,hr',hf,hlk'⟩
  · rw [hr] at hn;cases hn
  rw [hr] at hr'
  injection hr' with hr'
  subst hr'
  have hlk:=hlk' w (Gr.refl w)
  simp only [Bool.false_eq_true,if_false,runV] at hlk
  obtain ⟨_,mb,_,hfr⟩:=hf
  have HFOK:=hid (hE.get hr)
  have HTW:=hid (fun (W:World) (g:Gr w W) (hs:w.heap.size<W.heap.size)=>z4A kf mb r.f (z1O M w) W (hfr.up (z9f g) (g.block _ hfr.lt.1) (g.block _ hfr.lt.2)) (fun b e=>by rcases e with e | e;exact Nat.lt_of_lt_of_le (H.o.lt b e) g.size;exact e▸hs))
  have HACT:=hid hact
  have HXX:=hid hX
  have hfk:=hg.ok r.f HFOK.o.1
  have hol:=hg.outs r.f
  have hokk:=hgk r.f
  have hEN:z0k E id act=(if (act r.f).2.2=4 then (4,none) else ((act r.f).2.2,z2F { E with runs:=up E.runs id { r with f:=(act r.f).1 } } id (act r.f).1.run E.now (act r.f).2.1)):=by
    unfold z0k;rw [hr]
  rw [hEN]
  clear hEN hact hX hg hgk
  obtain ⟨x,hx⟩:∃ x,act r.f=x:=⟨_,rfl⟩
  rw [hx] at hfk hol hokk HACT ⊢
  have HFK:=hid hfk
  have HOL:=hid hol
  have HOK:=hid hokk
  rcases x with ⟨F',os,ec⟩
  simp only at HFK HOL HOK ⊢
  clear hP hlk' hfr hr hx hfk hol hokk
  by_cases h4:ec=4
  · subst h4
    rw [if_pos rfl]
    go_enter Tryz.func68,Tryz.ntmps68
    go_wp2_with (first
      | (go_at_call 75
         go_loud ((refine (HTW.o _ ((Gr.refl w).alloc _) (by simp)).mono ?_;rintro en w2 ⟨k',mb',rfl,hk',hmb',hne',g2,hr2,hM2⟩;have HR2:=hid hr2;have G2:=hid g2;have HB2:=hid ((g2.block w.heap.size (by simp)).trans (heap_alloc_new w _));have fz:=z00 (j:=0) HB2.o;obtain ⟨p0,p1,p2⟩:=z0o HB2.o;have hb2:=block_lt HB2.o;have hks:w.heap.size<k':=(by simp at hk';omega);have hmbs:w.heap.size<mb':=(by simp at hmb';omega);clear hr2 g2 hM2 hk' hmb')))
      | (go_at_call 137
         have g3:Gr w (w2.setCell ⟨w.heap.size,0,none⟩ (.pointer (some ⟨k',0,none⟩))):=(((Gr.refl w).alloc _).trans G2.o).set (p:=⟨w.heap.size,0,none⟩) (Nat.le_refl _) _
         have hs3:(w2.setCell ⟨w.heap.size,0,none⟩ (.pointer (some ⟨k',0,none⟩))).heap.size=w2.heap.size:=by simp [World.setCell]
         have hkn:¬ M k':=fun e=>by have:=H.o.lt k' e;omega
         have hmn:¬ M mb':=fun e=>by have:=H.o.lt mb' e;omega
         have hff:=HR2.o.twinF hne' (fun e=>by rcases e with e | e;exact hmn e;omega)
         have hff3:z0O (w2.setCell ⟨w.heap.size,0,none⟩ (.pointer (some ⟨k',0,none⟩))) (z1H (z1O M w) k') k' r.f:=z2a hff (.inl (.inr rfl)) (by omega)
         have hlt3:∀ b,z1H (z1O M w) k' b→b<(w2.setCell ⟨w.heap.size,0,none⟩ (.pointer (some ⟨k',0,none⟩))).heap.size:=fun b e=>by
           rcases e with (e | e) | e
           · exact Nat.lt_of_lt_of_le (H.o.lt b e) g3.size
           · rw [e,hs3];exact hb2
           · rw [e,hs3];exact HR2.o.lt.1
         have hcall:=HACT.o _ (z1H (z1O M w) k') k' g3 (fun b e=>.inl (.inl e)) (fun b hb e=>by
           rcases e with (e | e) | e
           · exact e
           · omega
           · omega) hff3 hlt3 (.inr rfl) (by omega)
         refine hcall.mono ?_
         rintro en w4 ⟨A4,c4,rfl,hf4,ho4,hm4,hq4⟩
         have HQ4:=hid hq4
         have HFI:=hid (hf4.stay (M:=M) (fun b e=>.inl (.inl e)) hkn)
         have HREC:=hid (ho4.up (z1S w4 (M:=M) (M':=z1H (z1O M w) k') (fun b e=>.inl (.inl e))))
         have M4:=hid (modX g3 hm4 (by omega))
         have HB4:=hid ((hm4.block w.heap.size (by rw [hs3];exact hb2) (by
           intro e
           rcases e with e | e
           · omega
           · exact Nat.lt_irrefl _ (H.o.lt _ (HXX.o _ e).1))).trans (z02 HB2.o (j:=0) _))
         clear hf4 ho4 hm4 hq4 hff hff3 g3 hs3 hcall hlt3))
    go_ret2
    exact ⟨w4,HQ4.o,M4.o,RetS.full ((Gr.refl w4).mod S) ⟨_,rfl⟩⟩
  rw [if_neg h4]
  simp only
  obtain ⟨R,hR⟩:∃ R,z2F { E with runs:=up E.runs id ⟨F',r.pf,r.pr⟩ } id F'.run E.now os=R:=⟨_,rfl⟩
  rw [hR]
  have HR:=hid hR
  clear hR
  cases R with
  | none =>
    go_enter Tryz.func68,Tryz.ntmps68
    go_upto_region 6 with (first
      | (go_at_call 75
         go_loud ((refine (HTW.o _ ((Gr.refl w).alloc _) (by simp)).mono ?_;rintro en w2 ⟨k',mb',rfl,hk',hmb',hne',g2,hr2,hM2⟩;have HR2:=hid hr2;have G2:=hid g2;have HB2:=hid ((g2.block w.heap.size (by simp)).trans (heap_alloc_new w _));have fz:=z00 (j:=0) HB2.o;obtain ⟨p0,p1,p2⟩:=z0o HB2.o;have hb2:=block_lt HB2.o;have hks:w.heap.size<k':=(by simp at hk';omega);have hmbs:w.heap.size<mb':=(by simp at hmb';omega);clear hr2 g2 hM2 hk' hmb')))
      | (go_at_call 137
         have g3:Gr w (w2.setCell ⟨w.heap.size,0,none⟩ (.pointer (some ⟨k',0,none⟩))):=(((Gr.refl w).alloc _).trans G2.o).set (p:=⟨w.heap.size,0,none⟩) (Nat.le_refl _) _
         have hs3:(w2.setCell ⟨w.heap.size,0,none⟩ (.pointer (some ⟨k',0,none⟩))).heap.size=w2.heap.size:=by simp [World.setCell]
         have hkn:¬ M k':=fun e=>by have:=H.o.lt k' e;omega
         have hmn:¬ M mb':=fun e=>by have:=H.o.lt mb' e;omega
         have hff:=HR2.o.twinF hne' (fun e=>by rcases e with e | e;exact hmn e;omega)
         have hff3:z0O (w2.setCell ⟨w.heap.size,0,none⟩ (.pointer (some ⟨k',0,none⟩))) (z1H (z1O M w) k') k' r.f:=z2a hff (.inl (.inr rfl)) (by omega)
         have hlt3:∀ b,z1H (z1O M w) k' b→b<(w2.setCell ⟨w.heap.size,0,none⟩ (.pointer (some ⟨k',0,none⟩))).heap.size:=fun b e=>by
           rcases e with (e | e) | e
           · exact Nat.lt_of_lt_of_le (H.o.lt b e) g3.size
           · rw [e,hs3];exact hb2
           · rw [e,hs3];exact HR2.o.lt.1
         have hcall:=HACT.o _ (z1H (z1O M w) k') k' g3 (fun b e=>.inl (.inl e)) (fun b hb e=>by
           rcases e with (e | e) | e
           · exact e
           · omega
           · omega) hff3 hlt3 (.inr rfl) (by omega)
         refine hcall.mono ?_
         rintro en w4 ⟨A4,c4,rfl,hf4,ho4,hm4,hq4⟩
         have HQ4:=hid hq4
         have HFI:=hid (hf4.stay (M:=M) (fun b e=>.inl (.inl e)) hkn)
         have HREC:=hid (ho4.up (z1S w4 (M:=M) (M':=z1H (z1O M w) k') (fun b e=>.inl (.inl e))))
         have M4:=hid (modX g3 hm4 (by omega))
         have HB4:=hid ((hm4.block w.heap.size (by rw [hs3];exact hb2) (by
           intro e
           rcases e with e | e
           · omega
           · exact Nat.lt_irrefl _ (H.o.lt _ (HXX.o _ e).1))).trans (z02 HB2.o (j:=0) _))
         clear hf4 ho4 hm4 hq4 hff hff3 g3 hs3 hcall hlt3))
    obtain ⟨p0,p1,p2⟩:=z0o HB4.o
    have hl4:=block_lt HB4.o
    have P4:=hid (H.o.keep (Mod.up M4.o (fun b _ e=>(HXX.o b e).1)) (fun b e=>M4.o.block b (H.o.lt b (H.o.SM b e)) (fun x=>(HXX.o b x).2 e)) H.o.SM (fun b e=>Nat.lt_of_lt_of_le (H.o.lt b e) M4.o.size))
    obtain ⟨_,_,_,_,f4,f5,_,hk4⟩:=P4.o.cells
    obtain ⟨kv,hmi,hrel⟩:=P4.o.r
    have HMI:=hid hmi
    have HREL:=hid hrel
    clear hmi hrel
    have HRN:=hid HFK.o.2.2
    have HNX:=hid (z1Y (E:=E) (id:=id) (r:=⟨F',r.pf,r.pr⟩) (fun _=>⟨HFK.o.1,HFK.o.2.1.trans HFOK.o.2⟩))
    refine z01 [(0,false),(1,false),(2,false),(3,false),(4,false),(5,false),(6,true)] (fun W=>Gr w4 W) (by kernel_rfl) (by kernel_rfl) (fun _ _ d _ _ h=>by cases d<;>exact h) (Gr.refl w4).drew (fun _=>?_)
    iterate 6 (refine z03 (v:=?_) rfl (by rfl) ?_ ?_;rotate_left;(focus (intro W9 hW9;obtain ⟨x9,rfl⟩:∃ x:Ext w4,W9=x.val:=⟨⟨W9,hW9⟩,rfl⟩;go_simp;(try with_reducible rfl);done));(try simp only [AP]))
    refine z06 rfl (by rfl) (fun K hK=>?_)
    refine z0f _ _ _ _ 76 rfl 3 109 Tryz.underlying76 Tryz.underlying3 mr kv id (runV k' r.pf r.pr) (by rfl) (HMI.o.gr (Gr.refl w4).drew) (by rfl) (by rfl) ?_
    intro w7 hmi7 hm7
    have P7:=hid ((P4.o.gr (Gr.refl w4).drew).putRun hm7 (HREL.o.mono fun a v hr=>hr.up (Gr.up (Gr.refl w4).drew M)) hmi7 (HFI.o.up (Gr.up (Gr.refl w4).drew M)))
    have AL:=hid (show z0j w4 M S w7 M S from ⟨((Gr.refl w4).drew.mod S).trans hm7 (fun b _ e=>e▸H.o.smr),fun _ _ e=>e,fun _ _ e=>e,fun _ e=>e⟩)
    have HREC7:=hid (HREC.o.up ((Gr.up (Gr.refl w4).drew M).trans (Mod.up hm7 (fun b _ e=>e▸H.o.SM _ H.o.smr))))
    have HOUT:=hid (z42 PUT k { E with runs:=up E.runs id ⟨F',r.pf,r.pr⟩ } id E.now os _ M S w7 P7.o (HNX.o.ok hE) ⟨F',r.pf,r.pr⟩ (z0g _ _ _) HREC7.o (by have:=HOL.o;simp;omega) (fun o ho=>HOK.o o ho))
    rw [HR.o] at HOUT
    have HSZ:=hid hm7.size
    refine hK.o _ _ ?_
    clear hK K hmi7
    obtain ⟨_,_,_,_,i4,_,_,ik⟩:w7.cell? ⟨k,0,none⟩=some (.pointer (some ⟨kd,0,none⟩))∧w7.cell? ⟨k,1,none⟩=some (.pointer (some ⟨ka,0,none⟩))∧w7.cell? ⟨k,2,none⟩=some (.int .i64 E.shard)∧w7.cell? ⟨k,3,none⟩=some (.int .i64 E.groups)∧w7.cell? ⟨k,4,none⟩=some (.int .i64 E.now)∧w7.cell? ⟨k,5,none⟩=some (.map (some mr))∧w7.cell? ⟨k,6,none⟩=some (.pointer (some ⟨kh,0,none⟩))∧k<w7.heap.size:=by
      have hb:=(hm7.block k (by simpa using hk4) (fun e=>(z0u HMI.o P4.o.cell) e.symm)).trans ((Gr.refl w4).drew.block k hk4 |>.trans P4.o.cell)
      refine ⟨?_,?_,?_,?_,?_,?_,?_,block_lt hb⟩<;>simp [World.cell?,hb]
    clear hm7
    go_wp2_with (go_at_call 77;go_loud ((refine HOUT.o.mono ?_;intro en w9 hret;rcases hret.cases with ⟨_,v9,hen,hv9,hm9⟩ | ⟨E9,M9,S9,e9,_⟩;rotate_left;(cases e9);have hv9':v9=.bool false:=hv9;subst hv9';subst hen;have HM9:=hid hm9;clear hret hm9 hv9)))
    go_ret2
    exact ⟨w4,HQ4.o,M4.o,RetS.none_ AL.o HM9.o ⟨_,rfl⟩⟩
  | some E' =>
    go_enter Tryz.func68,Tryz.ntmps68
    go_upto_region 6 with (first
      | (go_at_call 75
         go_loud ((refine (HTW.o _ ((Gr.refl w).alloc _) (by simp)).mono ?_;rintro en w2 ⟨k',mb',rfl,hk',hmb',hne',g2,hr2,hM2⟩;have HR2:=hid hr2;have G2:=hid g2;have HB2:=hid ((g2.block w.heap.size (by simp)).trans (heap_alloc_new w _));have fz:=z00 (j:=0) HB2.o;obtain ⟨p0,p1,p2⟩:=z0o HB2.o;have hb2:=block_lt HB2.o;have hks:w.heap.size<k':=(by simp at hk';omega);have hmbs:w.heap.size<mb':=(by simp at hmb';omega);clear hr2 g2 hM2 hk' hmb')))
      | (go_at_call 137
         have g3:Gr w (w2.setCell ⟨w.heap.size,0,none⟩ (.pointer (some ⟨k',0,none⟩))):=(((Gr.refl w).alloc _).trans G2.o).set (p:=⟨w.heap.size,0,none⟩) (Nat.le_refl _) _
         have hs3:(w2.setCell ⟨w.heap.size,0,none⟩ (.pointer (some ⟨k',0,none⟩))).heap.size=w2.heap.size:=by simp [World.setCell]
         have hkn:¬ M k':=fun e=>by have:=H.o.lt k' e;omega
         have hmn:¬ M mb':=fun e=>by have:=H.o.lt mb' e;omega
         have hff:=HR2.o.twinF hne' (fun e=>by rcases e with e | e;exact hmn e;omega)
         have hff3:z0O (w2.setCell ⟨w.heap.size,0,none⟩ (.pointer (some ⟨k',0,none⟩))) (z1H (z1O M w) k') k' r.f:=z2a hff (.inl (.inr rfl)) (by omega)
         have hlt3:∀ b,z1H (z1O M w) k' b→b<(w2.setCell ⟨w.heap.size,0,none⟩ (.pointer (some ⟨k',0,none⟩))).heap.size:=fun b e=>by
           rcases e with (e | e) | e
           · exact Nat.lt_of_lt_of_le (H.o.lt b e) g3.size
           · rw [e,hs3];exact hb2
           · rw [e,hs3];exact HR2.o.lt.1
         have hcall:=HACT.o _ (z1H (z1O M w) k') k' g3 (fun b e=>.inl (.inl e)) (fun b hb e=>by
           rcases e with (e | e) | e
           · exact e
           · omega
           · omega) hff3 hlt3 (.inr rfl) (by omega)
         refine hcall.mono ?_
         rintro en w4 ⟨A4,c4,rfl,hf4,ho4,hm4,hq4⟩
         have HQ4:=hid hq4
         have HFI:=hid (hf4.stay (M:=M) (fun b e=>.inl (.inl e)) hkn)
         have HREC:=hid (ho4.up (z1S w4 (M:=M) (M':=z1H (z1O M w) k') (fun b e=>.inl (.inl e))))
         have M4:=hid (modX g3 hm4 (by omega))
         have HB4:=hid ((hm4.block w.heap.size (by rw [hs3];exact hb2) (by
           intro e
           rcases e with e | e
           · omega
           · exact Nat.lt_irrefl _ (H.o.lt _ (HXX.o _ e).1))).trans (z02 HB2.o (j:=0) _))
         clear hf4 ho4 hm4 hq4 hff hff3 g3 hs3 hcall hlt3))
    obtain ⟨p0,p1,p2⟩:=z0o HB4.o
    have hl4:=block_lt HB4.o
    have P4:=hid (H.o.keep (Mod.up M4.o (fun b _ e=>(HXX.o b e).1)) (fun b e=>M4.o.block b (H.o.lt b (H.o.SM b e)) (fun x=>(HXX.o b x).2 e)) H.o.SM (fun b e=>Nat.lt_of_lt_of_le (H.o.lt b e) M4.o.size))
    obtain ⟨_,_,_,_,f4,f5,_,hk4⟩:=P4.o.cells
    obtain ⟨kv,hmi,hrel⟩:=P4.o.r
    have HMI:=hid hmi
    have HREL:=hid hrel
    clear hmi hrel
    have HRN:=hid HFK.o.2.2
    have HNX:=hid (z1Y (E:=E) (id:=id) (r:=⟨F',r.pf,r.pr⟩) (fun _=>⟨HFK.o.1,HFK.o.2.1.trans HFOK.o.2⟩))
    refine z01 [(0,false),(1,false),(2,false),(3,false),(4,false),(5,false),(6,true)] (fun W=>Gr w4 W) (by kernel_rfl) (by kernel_rfl) (fun _ _ d _ _ h=>by cases d<;>exact h) (Gr.refl w4).drew (fun _=>?_)
    iterate 6 (refine z03 (v:=?_) rfl (by rfl) ?_ ?_;rotate_left;(focus (intro W9 hW9;obtain ⟨x9,rfl⟩:∃ x:Ext w4,W9=x.val:=⟨⟨W9,hW9⟩,rfl⟩;go_simp;(try with_reducible rfl);done));(try simp only [AP]))
    refine z06 rfl (by rfl) (fun K hK=>?_)
    refine z0f _ _ _ _ 76 rfl 3 109 Tryz.underlying76 Tryz.underlying3 mr kv id (runV k' r.pf r.pr) (by rfl) (HMI.o.gr (Gr.refl w4).drew) (by rfl) (by rfl) ?_
    intro w7 hmi7 hm7
    have P7:=hid ((P4.o.gr (Gr.refl w4).drew).putRun hm7 (HREL.o.mono fun a v hr=>hr.up (Gr.up (Gr.refl w4).drew M)) hmi7 (HFI.o.up (Gr.up (Gr.refl w4).drew M)))
    have AL:=hid (show z0j w4 M S w7 M S from ⟨((Gr.refl w4).drew.mod S).trans hm7 (fun b _ e=>e▸H.o.smr),fun _ _ e=>e,fun _ _ e=>e,fun _ e=>e⟩)
    have HREC7:=hid (HREC.o.up ((Gr.up (Gr.refl w4).drew M).trans (Mod.up hm7 (fun b _ e=>e▸H.o.SM _ H.o.smr))))
    have HOUT:=hid (z42 PUT k { E with runs:=up E.runs id ⟨F',r.pf,r.pr⟩ } id E.now os _ M S w7 P7.o (HNX.o.ok hE) ⟨F',r.pf,r.pr⟩ (z0g _ _ _) HREC7.o (by have:=HOL.o;simp;omega) (fun o ho=>HOK.o o ho))
    rw [HR.o] at HOUT
    have HSZ:=hid hm7.size
    refine hK.o _ _ ?_
    clear hK K hmi7
    obtain ⟨_,_,_,_,i4,_,_,ik⟩:w7.cell? ⟨k,0,none⟩=some (.pointer (some ⟨kd,0,none⟩))∧w7.cell? ⟨k,1,none⟩=some (.pointer (some ⟨ka,0,none⟩))∧w7.cell? ⟨k,2,none⟩=some (.int .i64 E.shard)∧w7.cell? ⟨k,3,none⟩=some (.int .i64 E.groups)∧w7.cell? ⟨k,4,none⟩=some (.int .i64 E.now)∧w7.cell? ⟨k,5,none⟩=some (.map (some mr))∧w7.cell? ⟨k,6,none⟩=some (.pointer (some ⟨kh,0,none⟩))∧k<w7.heap.size:=by
      have hb:=(hm7.block k (by simpa using hk4) (fun e=>(z0u HMI.o P4.o.cell) e.symm)).trans ((Gr.refl w4).drew.block k hk4 |>.trans P4.o.cell)
      refine ⟨?_,?_,?_,?_,?_,?_,?_,block_lt hb⟩<;>simp [World.cell?,hb]
    clear hm7
    go_wp2_with (go_at_call 77;go_loud ((refine HOUT.o.mono ?_;intro en w9 hret;rcases hret.cases with ⟨e9,_⟩ | ⟨E9,M9,S9,e9,hen,he9,ha9⟩;(cases e9);injection e9 with e9;subst e9;subst hen;have HE9:=hid he9;have HA9:=hid ha9;clear hret he9 ha9)))
    go_ret2
    exact ⟨w4,HQ4.o,M4.o,RetS.some_ (AL.o.trans HA9.o) HE9.o⟩
end Go.Proofs.YtniknicnnaiilaaGreat
end
