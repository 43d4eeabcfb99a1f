/- Lemmas of the engine. -/
import Derived.Test.YtniknicnnaiilaaGreatX07
import Derived.Test.YtniknicnnaiilaaGreatX12
import Derived.Test.YtniknicnnaiilaaGreatX13
section
namespace Go.Proofs.YtniknicnnaiilaaGreat
set_option maxRecDepth 100000
open Go.RowKit Go.Ext Go.BigFrame Go.Maps Go.MapKept
attribute [local go_sem] Ext.cell Ext.frozen Ext.lt Ext.le s1 s2 s3 s4 s5 s6 t1 t2 t3 t4 t5 t6
attribute [local go_sem ↓] Go.wp_at_zero Go.wp_at_succ
theorem z9Z {w w2:World} {M:Bl} {k mb:Nat} {F:FS} {o:Out} (h:FW w2 M k mb F) (ho:o.data=[]) (hm:Mod (fun b=>b=k∨b=mb) w w2) {W:World} (hW:Gr w2 W) (hB:W.heap[w2.heap.size]?=some (.cells (recC (outR o) (.slice none 0 0)).toArray 188 (0,0))) (ec:Int) :
  RetA M k mb (F,[o],ec) w (.returned (.tuple #[.slice (some ⟨w2.heap.size,0,none⟩) 1 1,.int .i64 ec])) W :=
 ⟨some ⟨w2.heap.size,0,none⟩,1,rfl,h.r.gr hW,z3y hB (fun e=>Nat.lt_irrefl _ (h.hM _ e)) (ho▸BysM.none _ _),hm.gr hW⟩
set_option maxHeartbeats 1000000 in
theorem zan (PUT:z0e) (k mb B1 B2 B3:Nat) (F:FS) (turn ref now:Int) (M:Bl) (w:World) (h:FW w M k mb F) (hF:FOk F) (h1:w.heap[B1]?=some (.cells #[.int .i64 turn] 3 (0,0))) (h2:w.heap[B2]?=some (.cells #[.int .i64 ref] 3 (0,0)))
    (h3:w.heap[B3]?=some (.cells #[.int .i64 now] 3 (0,0))) (hnow:0≤now∧now≤1099511627776) :
    Calls Tryz.prog 181 #[.pointer (some ⟨k,0,none⟩),.pointer (some ⟨B1,0,none⟩),.pointer (some ⟨B2,0,none⟩),.pointer (some ⟨B3,0,none⟩)] w (RetA M k mb (z0Q ref turn now F) w):=by
  have q1:=z1b h1
  have q2:=z1b h2
  have q3:=z1b h3
  have H1:=hid h1
  have H2:=hid h2
  have H3:=hid h3
  have l1:=block_lt h1
  have l2:=block_lt h2
  have l3:=block_lt h3
  have H:=hid h
  have HWN:=hid (z4P k mb F M ref turn w h.r)
  have stale:∀ W,Gr w W→RetA M k mb (F,[],21) w (.returned (.tuple #[.slice none 0 0,.int .i64 21])) W:=fun W g=>⟨none,0,rfl,H.o.r.gr g,z08.none _ _ _,g.mod _⟩
  have ST:=hid stale
  clear h h1 h2 h3 stale
  unfold z0Q
  by_cases e1:turn<0
  · rw [if_pos (.inl e1)]
    clear HWN
    go_enter Tryz.func181,Tryz.ntmps181
    go_wp2_with fail
    go_ret2
    exact ST.o _ (Gr.refl w)
  cases e2:z1n F ref turn
  · rw [if_pos (.inr rfl)]
    rw [e2] at HWN
    clear e2
    go_enter Tryz.func181,Tryz.ntmps181
    go_wp2_with (go_at_call 136;(with_reducible refine HWN.o.mono ?_);rintro en _ ⟨rfl,y1,rfl⟩)
    go_ret2
    exact ST.o _ y1.gr
  · rw [if_neg (by rintro (e | e);exact e1 e;cases e)]
    rw [e2] at HWN
    clear e2
    have hnn:=hF.i.n hF.ne
    have HP:=hid (fun (W:World) (y:Gr w W)=>(show Calls Tryz.prog 143 #[.pointer (some ⟨k,0,none⟩),.agg #[.int .i64 3,.int .i64 now,.int .i64 ref,.int .i64 0,.int .i64 0,.int .i64 0,.slice none 0 0]] W _ from
      fput PUT ⟨3,now,ref,0,0,0,[]⟩ (.slice none 0 0) (H.o.gr y) (BysM.none W M).bys (okP hF (by unfold z0V;dsimp only;omega) (by dsimp only;omega) (by simp)) hF.l9 (by dsimp only;omega) (by dsimp only;omega)))
    go_enter Tryz.func181,Tryz.ntmps181
    go_wp2_with (first
      | (go_at_call 136;(with_reducible refine HWN.o.mono ?_);rintro en _ ⟨rfl,y1,rfl⟩)
      | (go_at_call 143
         refine (HP.o _ y1.gr).mono ?_
         rintro en w2 ⟨rfl,hw2,hm2⟩
         have b1:=z1o (H.o.gr y1.gr).r ((y1.gr.block B1 l1).trans H1.o) (by decide) hm2
         have b2:=z1o (H.o.gr y1.gr).r ((y1.gr.block B2 l2).trans H2.o) (by decide) hm2
         have b3:=z1o (H.o.gr y1.gr).r ((y1.gr.block B3 l3).trans H3.o) (by decide) hm2
         have p1:=z1b b1
         have p2:=z1b b2
         have p3:=z1b b3
         have m1:=block_lt b1
         have m2:=block_lt b2
         have m3:=block_lt b3
         obtain ⟨A6,c6,_,⟨_,_,_,d3,_,_,_,_,_,_,_,_⟩,_,hk2⟩:=hw2.r.parts
         have hp3:(putF F ⟨3,now,ref,0,0,0,[]⟩).n=F.n:=rfl
         rw [hp3] at d3
         have HM2:=hid ((y1.gr.mod (fun b=>b=k∨b=mb)).trans hm2 (fun _ _ e=>e))
         have HW2:=hid hw2
         clear hm2 hw2 b1 b2 b3 hp3))
    have kw:IntKind.i64.wrap (now+F.n)=now+F.n:=IntWalk.i64_in _ (by omega)
    refine z01 [(0,false),(1,false),(2,false),(3,false),(4,false),(5,false),(6,false),(7,false),(8,false),(9,true),(10,true),(11,true)] (fun W=>Gr w2 W) (by kernel_rfl) (by kernel_rfl) (fun _ _ d _ _ h=>by cases d<;>exact h) (Gr.refl w2).drew (fun _=>?_)
    iterate 9 (refine z03 (v:=?_) rfl (by rfl) ?_ ?_;rotate_left;(focus (intro W9 hW9;obtain ⟨x9,rfl⟩:∃ x:Ext w2,W9=x.val:=⟨⟨W9,hW9⟩,rfl⟩;go_simp;(try with_reducible rfl);done));(try simp only [AP]))
    refine z05 rfl (by rfl) (fun K hK=>?_)
    go_simp
    refine hK.o (fun W=>Gr w2 W) _ _ ((Gr.refl w2).alloc _).drew (fun _ g=>g) (fun _=>?_)
    clear hK K
    (try simp only [AP])
    refine z05 rfl (by rfl) (fun K hK=>?_)
    go_simp
    refine hK.o (fun W=>Gr w2 W) _ _ ((Gr.refl w2).alloc _).drew (fun _ g=>g) (fun _=>?_)
    clear hK K
    (try simp only [AP])
    refine z06 rfl (by rfl) (fun K hK=>?_)
    go_simp
    refine hK.o _ _ ?_
    clear hK K
    go_wp2_with fail
    go_ret2
    exact z9Z (o:=⟨3,0,ref,turn,now+F.n,0,0,[]⟩) HW2.o rfl HM2.o ((Gr.refl w2).alloc _).drew (heap_alloc_new w2 _) 0
set_option maxHeartbeats 2000000 in
theorem zdp (PUT:z0e) (k mb B1 B2:Nat) (F:FS) (ref now:Int) (M:Bl) (w:World) (h:FW w M k mb F) (hF:FOk F) (h1:w.heap[B1]?=some (.cells #[.int .i64 ref] 3 (0,0))) (h2:w.heap[B2]?=some (.cells #[.int .i64 now] 3 (0,0)))
    (hnow:0≤now∧now≤1099511627776) :
    Calls Tryz.prog 182 #[.pointer (some ⟨k,0,none⟩),.pointer (some ⟨B1,0,none⟩),.pointer (some ⟨B2,0,none⟩)] w (RetA M k mb (z2H ref now F) w):=by
  have q1:=z1b h1
  have q2:=z1b h2
  have H1:=hid h1
  have H2:=hid h2
  have l1:=block_lt h1
  have l2:=block_lt h2
  have H:=hid h
  have HWN:=hid (z4P k mb F M ref (-1) w h.r)
  have stale:∀ W,Gr w W→RetA M k mb (F,[],21) w (.returned (.tuple #[.slice none 0 0,.int .i64 21])) W:=fun W g=>⟨none,0,rfl,H.o.r.gr g,z08.none _ _ _,g.mod _⟩
  have ST:=hid stale
  obtain ⟨A,c,hc,⟨c0,c1,c2,c3,c4,c5,c6,c7,c8,c9,c10,c11⟩,hr,hk⟩:=h.r.parts
  clear h h1 h2 stale
  unfold z2H
  cases e2:z1n F ref (-1)
  · rw [if_pos rfl]
    rw [e2] at HWN
    clear e2 hr
    go_enter Tryz.func182,Tryz.ntmps182
    go_wp2_with (go_at_call 136;(with_reducible refine HWN.o.mono ?_);rintro en _ ⟨rfl,y1,rfl⟩)
    go_ret2
    exact ST.o _ y1.gr
  · rw [if_neg (by simp)]
    rw [e2] at HWN
    obtain ⟨i,rfl,hi,o,hlo,hok,hoi,how⟩:∃ i:Nat,ref=(i:Int)+1∧i<F.l.length∧∃ o,lk F.op ref=some o∧o.kind=7∧o.id=o.id∧o.works=0:=by
      unfold z1n at e2
      rw [if_pos rfl] at e2
      cases hx:lk F.op ref with
      | none=>rw [hx] at e2;cases e2
      | some x =>
        rw [hx] at e2
        simp only [Bool.and_eq_true,beq_iff_eq] at e2
        obtain ⟨k1,k2,_⟩:=hF.i.keys _ (z0K hx)
        exact ⟨(ref-1).toNat,by simp only at k1;omega,by simp only at k1 k2;omega,x,rfl,e2.1,rfl,e2.2⟩
    have hget:F.l[((i:Int)+1-1).toNat]?=some (F.l[i]):=by
      rw [show ((i:Int)+1-1).toNat=i by omega]
      exact List.getElem?_eq_getElem hi
    rw [hget]
    obtain ⟨a,ha⟩:∃ a,F.l[i]=a:=⟨_,rfl⟩
    rw [ha]
    have hai:F.l[i]?=some a:=by rw [← ha];exact List.getElem?_eq_getElem hi
    have hai':a.id=o.id:=by
      obtain ⟨_,_,_,_,_,e,h6,_,h8⟩:=hF.i.keys _ (z0K hlo)
      have h6':F.l[((i:Int)+1-1).toNat]?=some e:=h6
      rw [hget,ha] at h6'
      injection h6' with h6'
      rw [h6',h8]
    obtain ⟨b,off,d,rfl,hb,hM,hd,hcell⟩:=hr.at_ (m:=6) (fun x=>z14 x) hai
    have a0:=hcell 0 (.int .i64 a.kind) rfl
    rw [Nat.add_zero] at a0
    have a1:=hcell 1 (.int .i64 a.tick) rfl
    have a2:=hcell 2 (.int .i64 a.ref) rfl
    have a3:=hcell 3 (.int .i64 a.id) rfl
    have a4:=hcell 4 (.int .i64 a.list) rfl
    have a5:=hcell 5 (.int .i64 a.n) rfl
    have a6:=hcell 6 d rfl
    have ban:=hF.i.evs a (by rw [← ha];exact List.getElem_mem hi)
    obtain ⟨han0,han1,_⟩:=ban
    have HPO:=hid (show z3p F ⟨8,now,(i:Int)+1,a.id,0,0,[]⟩ from by
      refine ⟨by dsimp only;omega,by simp,fun e=>absurd e hF.ne,?_,?_,?_,?_,fun e=>by simp at e⟩
      · intro e;simp at e
      · intro e;simp at e
      · intro e;simp at e
      · intro _
        dsimp only
        rw [hlo,hai']
        rcases o with ⟨x1,x2,x3⟩
        simp only at hok how
        rw [hok,how])
    have hnn:=hF.i.n hF.ne
    have HP:=hid (fun (W:World) (y:Gr w W)=>(show Calls Tryz.prog 143 #[.pointer (some ⟨k,0,none⟩),.agg #[.int .i64 8,.int .i64 now,.int .i64 ((i:Int)+1),.int .i64 a.id,.int .i64 0,.int .i64 0,.slice none 0 0]] W _ from
      fput PUT ⟨8,now,(i:Int)+1,a.id,0,0,[]⟩ (.slice none 0 0) (H.o.gr y) (BysM.none W M).bys HPO.o hF.l9 (by dsimp only;omega) (by dsimp only;omega)))
    obtain ⟨Ad,cd,rfl⟩:=hd.shape
    have hl:=hF.len
    clear hr e2 hcell hget ha hai hai' hlo hd
    have k0:(0:Int)≤(i:Int):=by omega
    have k1:(i:Int)<(F.l.length:Int):=by omega
    have kw1:IntKind.i64.wrap (i:Int)=(i:Int):=IntWalk.i64_in _ (by omega)
    have kw:IntKind.i64.wrap (now+a.n)=now+a.n:=IntWalk.i64_in _ (by omega)
    go_enter Tryz.func182,Tryz.ntmps182
    go_wp2_with (go_at_call 136;(with_reducible refine HWN.o.mono ?_);rintro en _ ⟨rfl,y1,rfl⟩)
    refine z01 [(0,false),(1,false),(2,false),(3,false),(4,false),(5,false),(6,false),(7,false),(8,true),(9,true)] (fun W=>Gr w W) (by kernel_rfl) (by kernel_rfl) (fun _ _ d _ _ h=>by cases d<;>exact h) y1.gr.drew (fun _=>?_)
    iterate 8 (refine z03 (v:=?_) rfl (by rfl) ?_ ?_;rotate_left;(focus (intro W9 hW9;obtain ⟨x9,rfl⟩:∃ x:Ext w,W9=x.val:=⟨⟨W9,hW9⟩,rfl⟩;go_simp;(try with_reducible rfl);done));(try simp only [AP]))
    refine z05 rfl (by rfl) (fun K hK=>?_)
    go_simp
    refine hK.o (fun W=>Gr w W) _ _ (y1.gr.alloc _).drew (fun _ g=>g) (fun _=>?_)
    clear hK K
    (try simp only [AP])
    refine z06 rfl (by rfl) (fun K hK=>?_)
    go_simp
    refine hK.o _ _ ?_
    clear hK K
    have G2:=hid ((y1.gr.alloc (.cells #[.int .i64 a.kind,.int .i64 a.tick,.int .i64 a.ref,.int .i64 a.id,.int .i64 a.list,.int .i64 a.n,.slice Ad (evR a).2.length cd] 41)).drew)
    have HN:=hid (show ((y1.val.alloc (.cells #[.int .i64 a.kind,.int .i64 a.tick,.int .i64 a.ref,.int .i64 a.id,.int .i64 a.list,.int .i64 a.n,.slice Ad (evR a).2.length cd] 41)).drew).heap[y1.val.heap.size]?=_ from heap_alloc_new y1.val _)
    go_wp2_with (go_at_call 143
                 refine (HP.o _ G2.o).mono ?_
                 rintro en w2 ⟨rfl,hw2,hm2⟩
                 have b1:=z1o (H.o.gr G2.o).r ((G2.o.block B1 l1).trans H1.o) (by decide) hm2
                 have b2:=z1o (H.o.gr G2.o).r ((G2.o.block B2 l2).trans H2.o) (by decide) hm2
                 have b3:=z1o (H.o.gr G2.o).r HN.o (by decide) hm2
                 have p1:=z1b b1
                 have p2:=z1b b2
                 have p3:w2.cell? ⟨y1.val.heap.size,5,none⟩=some (.int .i64 a.n):=by simp [World.cell?,b3]
                 have HM2:=hid ((G2.o.mod (fun b=>b=k∨b=mb)).trans hm2 (fun _ _ e=>e))
                 have HW2:=hid hw2
                 clear hm2 hw2 b1 b2 b3)
    go_ret2
    exact z9Z (o:=⟨4,0,(i:Int)+1,0,now+a.n,0,0,[]⟩) HW2.o rfl HM2.o ((Gr.refl w2).alloc _) (heap_alloc_new w2 _) 0
set_option maxHeartbeats 1000000 in
theorem z7B (PUT:z0e) (k mb B1 B2 B3 B4:Nat) (F:FS) (id status now:Int) (d:Value) (data:List UInt8) (M:Bl) (w:World) (h:FW w M k mb F) (hF:FOk F) (h1:w.heap[B1]?=some (.cells #[.int .i64 id] 3 (0,0))) (h2:w.heap[B2]?=some (.cells #[.int .i64 status] 3 (0,0)))
    (h3:w.heap[B3]?=some (.cells #[.int .i64 now] 3 (0,0))) (h4:w.heap[B4]?=some (.cells #[d] 22 (0,0))) (hd:Bys w d data) (hdl:data.length≤4096) :
    Calls Tryz.prog 204 #[.pointer (some ⟨k,0,none⟩),.pointer (some ⟨B1,0,none⟩),.pointer (some ⟨B2,0,none⟩),.pointer (some ⟨B3,0,none⟩),.pointer (some ⟨B4,0,none⟩)] w (RetA M k mb (z0x id status data now F) w):=by
  have q1:=z1b h1
  have q2:=z1b h2
  have q3:=z1b h3
  have q4:=z1b h4
  have H3:=hid h3
  have l1:=block_lt h1
  have l2:=block_lt h2
  have l3:=block_lt h3
  have l4:=block_lt h4
  have H:=hid h
  have HD:=hid hd
  obtain ⟨Ad,cd,rfl,_,_,_⟩:=hd
  have HFN:=hid (z7R k mb F M 17 id w h.r h.i.uniq)
  have res:∀ (c:Int) W,Gr w W→RetA M k mb (F,[],c) w (.returned (.tuple #[.slice none 0 0,.int .i64 c])) W:=fun c W g=>⟨none,0,rfl,H.o.r.gr g,z08.none _ _ _,g.mod _⟩
  have ST:=hid res
  clear h h1 h2 h3 h4 res
  unfold z0x
  obtain ⟨at_,hat⟩:∃ at_,z2r F.op 17 id=at_:=⟨_,rfl⟩
  rw [hat] at HFN ⊢
  clear hat
  by_cases e1:at_=0
  · rw [if_pos e1]
    subst e1
    go_enter Tryz.func204,Tryz.ntmps204
    go_wp2_with (go_at_call 187;(with_reducible refine HFN.o.mono ?_);rintro en _ ⟨rfl,y1,rfl⟩)
    go_ret2
    exact ST.o _ _ y1.gr
  rw [if_neg e1]
  by_cases e2:status<0
  · rw [if_pos (.inl e2)]
    go_enter Tryz.func204,Tryz.ntmps204
    go_wp2_with (go_at_call 187;(with_reducible refine HFN.o.mono ?_);rintro en _ ⟨rfl,y1,rfl⟩)
    go_ret2
    exact ST.o _ _ y1.gr
  by_cases e3:6<status
  · rw [if_pos (.inr e3)]
    go_enter Tryz.func204,Tryz.ntmps204
    go_wp2_with (go_at_call 187;(with_reducible refine HFN.o.mono ?_);rintro en _ ⟨rfl,y1,rfl⟩)
    go_ret2
    exact ST.o _ _ y1.gr
  rw [if_neg (by omega)]
  have HP:=hid (fun (W:World) (y:Gr w W)=>(show Calls Tryz.prog 143 #[.pointer (some ⟨k,0,none⟩),.agg #[.int .i64 18,.int .i64 now,.int .i64 at_,.int .i64 id,.int .i64 0,.int .i64 status,.slice Ad data.length cd]] W _ from
    fput PUT ⟨18,now,at_,id,0,status,data⟩ (.slice Ad data.length cd) (H.o.gr y) (HD.o.gr y) (okP hF (by unfold z0V;dsimp only;omega) (by dsimp only;omega) hdl) hF.l9 (by dsimp only;omega) (by dsimp only;omega)))
  go_enter Tryz.func204,Tryz.ntmps204
  go_wp2_with (first
    | (go_at_call 187;(with_reducible refine HFN.o.mono ?_);rintro en _ ⟨rfl,y1,rfl⟩)
    | (go_at_call 143
       refine (HP.o _ y1.gr).mono ?_
       rintro en w2 ⟨rfl,hw2,hm2⟩
       have p3:=z1b (z1o (H.o.gr y1.gr).r ((y1.gr.block B3 l3).trans H3.o) (by decide) hm2)
       have HM2:=hid ((y1.gr.mod (fun b=>b=k∨b=mb)).trans hm2 (fun _ _ e=>e))
       have HW:=hid (z4B PUT k mb _ now M w2 hw2)
       clear hm2 hw2)
    | (go_at_call 144
       refine HW.o.mono ?_
       rintro en w3 ⟨A3,c3,rfl,hr3,ho3,hm3⟩))
  go_ret2
  exact ⟨A3,c3,rfl,hr3,ho3,HM2.o.trans hm3 (fun _ _ e=>e)⟩
theorem z7D (PUT:z0e) (k mb B1 B2 B3 B4:Nat) (F:FS) (kind ref now:Int) (d:Value) (data:List UInt8) (M:Bl) (w:World) (h:FW w M k mb F) (hF:FOk F) (h1:w.heap[B1]?=some (.cells #[.int .i64 kind] 3 (0,0))) (h2:w.heap[B2]?=some (.cells #[.int .i64 ref] 3 (0,0)))
  (h3:w.heap[B3]?=some (.cells #[d] 22 (0,0))) (h4:w.heap[B4]?=some (.cells #[.int .i64 now] 3 (0,0))) (hkind:kind=9∨kind=10∨kind=11) (hd:Bys w d data) (hdl:data.length≤4096) :
  Calls Tryz.prog 154 #[.pointer (some ⟨k,0,none⟩),.pointer (some ⟨B1,0,none⟩),.pointer (some ⟨B2,0,none⟩),.pointer (some ⟨B3,0,none⟩),.pointer (some ⟨B4,0,none⟩)] w (RetA M k mb (z2q kind ref data now F) w):=by
 have q1:=z1b h1
 have q2:=z1b h2
 have q3:=z1b h3
 have q4:=z1b h4
 obtain ⟨Ad,cd,rfl,_,_,_⟩:=id hd
 have HE:=hid (z7N PUT k mb F kind ref now _ data M w h hF hkind hd hdl)
 clear h h1 h2 h3 h4 hd hkind
 go_enter Tryz.func154,Tryz.ntmps154
 go_wp2_with (go_at_call 155;refine HE.o.mono ?_;rintro en w3 ⟨A3,c3,rfl,hr3,ho3,hm3⟩)
 go_ret2
 exact ⟨A3,c3,rfl,hr3,ho3,hm3⟩
theorem zbg (PUT:z0e) (k mb B1 B2 B3:Nat) (F:FS) (turn ref now:Int) (M:Bl) (w:World) (h:FW w M k mb F) (hF:FOk F) (h1:w.heap[B1]?=some (.cells #[.int .i64 turn] 3 (0,0))) (h2:w.heap[B2]?=some (.cells #[.int .i64 ref] 3 (0,0)))
  (h3:w.heap[B3]?=some (.cells #[.int .i64 now] 3 (0,0))) :
  Calls Tryz.prog 157 #[.pointer (some ⟨k,0,none⟩),.pointer (some ⟨B1,0,none⟩),.pointer (some ⟨B2,0,none⟩),.pointer (some ⟨B3,0,none⟩)] w (RetA M k mb (z1x ref turn now F) w):=by
 have q1:=z1b h1
 have q2:=z1b h2
 have q3:=z1b h3
 have H:=hid h
 have HE:=hid (z7N PUT k mb F 11 ref now (.slice none 0 0) [] M w h hF (.inr (.inr rfl)) (BysM.none w M).bys (by simp))
 clear h h1 h2 h3
 unfold z1x
 by_cases ht:turn=0
 ·rw [if_neg (by omega)]
  subst ht
  go_enter Tryz.func157,Tryz.ntmps157
  go_wp2_with (go_at_call 155;refine HE.o.mono ?_;rintro en w3 ⟨A3,c3,rfl,hr3,ho3,hm3⟩)
  go_ret2
  exact ⟨A3,c3,rfl,hr3,ho3,hm3⟩
 ·rw [if_pos ht]
  go_enter Tryz.func157,Tryz.ntmps157
  go_wp2_with fail
  go_ret2
  exact ⟨none,0,rfl,H.o.r,z08.none _ _ _,(Gr.refl w).mod _⟩
set_option maxHeartbeats 1000000 in
theorem zbh (PUT:z0e) (k mb B1 B2 B3:Nat) (F:FS) (ref turn now:Int) (M:Bl) (w:World) (h:FW w M k mb F) (hF:FOk F) (h1:w.heap[B1]?=some (.cells #[.int .i64 ref] 3 (0,0))) (h2:w.heap[B2]?=some (.cells #[.int .i64 turn] 3 (0,0)))
  (h3:w.heap[B3]?=some (.cells #[.int .i64 now] 3 (0,0))) :
  Calls Tryz.prog 156 #[.pointer (some ⟨k,0,none⟩),.pointer (some ⟨B1,0,none⟩),.pointer (some ⟨B2,0,none⟩),.pointer (some ⟨B3,0,none⟩)] w (RetA M k mb (z1r ref turn now F) w):=by
 have q1:=z1b h1
 have q2:=z1b h2
 have q3:=z1b h3
 have l1:=block_lt h1
 have l2:=block_lt h2
 have l3:=block_lt h3
 have H3:=hid h3
 have H:=hid h
 obtain ⟨A,c,hc,⟨c0,c1,c2,c3,c4,c5,c6,c7,c8,c9,c10,c11⟩,hr,hk⟩:=h.r.parts
 clear h h1 h2 h3 hr hc
 unfold z1r
 have stale:∀ W,Gr w W→RetA M k mb (F,[],21) w (.returned (.tuple #[.slice none 0 0,.int .i64 21])) W:=fun W g=>⟨none,0,rfl,H.o.r.gr g,z08.none _ _ _,g.mod _⟩
 have ST:=hid stale
 clear stale
 by_cases e1:F.task=2
 ·by_cases e2:F.place=ref
  ·by_cases e3:F.turn=turn
   ·rw [if_neg (by rintro (e | e | e);exact e e1;exact e e2;exact e e3)]
    rw [e1] at c5
    rw [e2] at c6
    rw [e3] at c8
    have HP:=hid (fun (W:World) (y:Gr w W)=>(show Calls Tryz.prog 143 #[.pointer (some ⟨k,0,none⟩),.agg #[.int .i64 5,.int .i64 now,.int .i64 F.begun,.int .i64 0,.int .i64 0,.int .i64 0,.slice none 0 0]] W _ from
     fput PUT ⟨5,now,F.begun,0,0,0,[]⟩ (.slice none 0 0) (H.o.gr y) (BysM.none W M).bys (okP hF (by unfold z0V;dsimp only;omega) (by dsimp only;omega) (by simp)) hF.l9 (by dsimp only;omega) (by dsimp only;omega)))
    go_enter Tryz.func156,Tryz.ntmps156
    go_wp2_with fail
    refine z0a (by kernel_rfl) (by kernel_rfl) ?_
    repeat (go_big_quiet_step (fail))
    refine wpQuiet_nil ?_
    rintro _ ⟨x,rfl⟩
    go_wp2_with fail
    refine z01 [(0,false),(1,false),(2,false),(3,false),(4,false),(5,false),(6,false),(7,true)] (fun W=>Gr w W) (by kernel_rfl) (by kernel_rfl) (fun _ _ d _ _ h=>by cases d<;>exact h) x.gr.drew (fun _=>?_)
    iterate 7 (refine z03 (v:=?_) rfl (by rfl) ?_ ?_;rotate_left;(focus (intro W9 hW9;obtain ⟨x9,rfl⟩:∃ x:Ext w,W9=x.val:=⟨⟨W9,hW9⟩,rfl⟩;go_simp;(try with_reducible rfl);done));(try simp only [AP]))
    refine z06 rfl (by rfl) (fun K hK=>?_)
    go_simp
    go_at_call 143
    refine (HP.o _ x.gr.drew).mono ?_
    rintro en w2 ⟨rfl,hw2,hm2⟩
    have p1:=z1b (z1o (H.o.gr x.gr.drew).r ((x.gr.drew.block B3 l3).trans H3.o) (by decide) hm2)
    have HM2:=hid ((x.gr.drew.mod (fun b=>b=k∨b=mb)).trans hm2 (fun _ _ e=>e))
    have HW:=hid (z0W PUT k mb _ now M w2 hw2)
    clear hm2 hw2
    refine hK.o _ _ ?_
    clear hK K
    go_wp2_with (go_at_call 152;refine HW.o.mono ?_;rintro en w3 ⟨A3,c3,rfl,hr3,ho3,hm3⟩)
    go_ret2
    exact ⟨A3,c3,rfl,hr3,ho3,HM2.o.trans hm3 (fun _ _ e=>e)⟩
   ·rw [if_pos (.inr (.inr e3))]
    have e3b:(F.turn != turn)=true:=by simpa using e3
    rw [e1] at c5
    rw [e2] at c6
    go_enter Tryz.func156,Tryz.ntmps156
    go_wp2_with fail
    refine z0a (by kernel_rfl) (by kernel_rfl) ?_
    repeat (go_big_quiet_step (fail))
    refine wpQuiet_nil ?_
    rintro _ ⟨x,rfl⟩
    go_wp2_with fail
    go_ret2
    exact ST.o _ x.gr
  ·rw [if_pos (.inr (.inl e2))]
   have e2b:(F.place != ref)=true:=by simpa using e2
   rw [e1] at c5
   go_enter Tryz.func156,Tryz.ntmps156
   go_wp2_with fail
   refine z0a (by kernel_rfl) (by kernel_rfl) ?_
   repeat (go_big_quiet_step (fail))
   refine wpQuiet_nil ?_
   rintro _ ⟨x,rfl⟩
   go_wp2_with fail
   go_ret2
   exact ST.o _ x.gr
 ·rw [if_pos (.inl e1)]
  have e1b:(F.task != 2)=true:=by simpa using e1
  go_enter Tryz.func156,Tryz.ntmps156
  go_wp2_with fail
  refine z0a (by kernel_rfl) (by kernel_rfl) ?_
  repeat (go_big_quiet_step (fail))
  refine wpQuiet_nil ?_
  rintro _ ⟨x,rfl⟩
  go_wp2_with fail
  go_ret2
  exact ST.o _ x.gr
set_option maxHeartbeats 1000000 in
theorem zdo (PUT:z0e) (k mb B1 B2 B3:Nat) (F:FS) (ref turn now:Int) (M:Bl) (w:World) (h:FW w M k mb F) (hF:FOk F) (h1:w.heap[B1]?=some (.cells #[.int .i64 ref] 3 (0,0))) (h2:w.heap[B2]?=some (.cells #[.int .i64 turn] 3 (0,0)))
    (h3:w.heap[B3]?=some (.cells #[.int .i64 now] 3 (0,0))) :
    Calls Tryz.prog 158 #[.pointer (some ⟨k,0,none⟩),.pointer (some ⟨B1,0,none⟩),.pointer (some ⟨B2,0,none⟩),.pointer (some ⟨B3,0,none⟩)] w (RetA M k mb (z29 ref turn now F) w):=by
  have q1:=z1b h1
  have q2:=z1b h2
  have q3:=z1b h3
  have l1:=block_lt h1
  have l2:=block_lt h2
  have l3:=block_lt h3
  have H3:=hid h3
  have H:=hid h
  have HLK:=hid (fun W (y:Gr w W)=>z4f (h.r.map.gr y) ref)
  obtain ⟨A,c,hc,⟨c0,c1,c2,c3,c4,c5,c6,c7,c8,c9,c10,c11⟩,hr,hk⟩:=h.r.parts
  clear h h1 h2 h3 hr hc
  unfold z29
  have stale:∀ W,Gr w W→RetA M k mb (F,[],21) w (.returned (.tuple #[.slice none 0 0,.int .i64 21])) W:=fun W g=>⟨none,0,rfl,H.o.r.gr g,z08.none _ _ _,g.mod _⟩
  have ST:=hid stale
  clear stale
  cases hx:lk F.op ref with
  | none =>
    rw [hx] at HLK
    simp only [Option.getD_none,Option.isSome_none,opV] at HLK
    go_enter Tryz.func158,Tryz.ntmps158
    go_wp2_with fail
    refine z01 [(0,false),(1,false),(2,false),(3,false),(4,false),(5,false),(6,false),(7,false),(8,false),(9,true),(10,true),(11,true)] (fun W=>Gr w W) (by kernel_rfl) (by kernel_rfl) (fun _ _ d _ _ h=>by cases d<;>exact h) (Gr.refl w).drew (fun _=>?_)
    iterate 9 (refine z03 (v:=?_) rfl (by rfl) ?_ ?_;rotate_left;(focus (intro W9 hW9;have hl9:=HLK.o W9 hW9;obtain ⟨x9,rfl⟩:∃ x:Ext w,W9=x.val:=⟨⟨W9,hW9⟩,rfl⟩;go_simp;(try with_reducible rfl);done));(try simp only [AP]))
    refine z05 rfl (by rfl) (fun K hK=>?_)
    go_simp
    refine hK.o (fun W=>Gr w W) _ _ ((Gr.refl w).drew.alloc _) (fun _ g=>g) (fun _=>?_)
    clear hK K
    (try simp only [AP])
    refine z05 rfl (by rfl) (fun K hK=>?_)
    go_simp
    refine hK.o (fun W=>Gr w W) _ _ (by repeat (first | exact (Gr.refl w).drew | exact Gr.refl w | refine Gr.alloc ?_ _ | refine Gr.drew ?_ | refine Gr.set ?_ ?_ _)) (fun _ g=>g) (fun _=>?_)
    clear hK K
    (try simp only [AP])
    refine z06 rfl (by rfl) (fun K hK=>?_)
    go_simp
    refine hK.o _ _ ?_
    clear hK K
    go_wp2_with fail
    go_ret2
    exact ST.o _ (by repeat (first | exact (Gr.refl w).drew | exact Gr.refl w | refine Gr.alloc ?_ _ | refine Gr.drew ?_ | refine Gr.set ?_ ?_ _))
  | some x =>
    rw [hx] at HLK
    rcases x with ⟨xk,xi,xw⟩
    simp only [Option.getD_some,Option.isSome_some,opV] at HLK ⊢
    by_cases e1:xk=12
    · by_cases e2:turn=0
      · rw [if_neg (by rintro (e | e);exact e e1;exact e e2)]
        subst e1 e2
        have HP:=hid (fun (W:World) (y:Gr w W)=>(show Calls Tryz.prog 143 #[.pointer (some ⟨k,0,none⟩),.agg #[.int .i64 13,.int .i64 now,.int .i64 ref,.int .i64 xi,.int .i64 0,.int .i64 0,.slice none 0 0]] W _ from
          fput PUT ⟨13,now,ref,xi,0,0,[]⟩ (.slice none 0 0) (H.o.gr y) (BysM.none W M).bys (okP hF (by unfold z0V;dsimp only;omega) (by dsimp only;omega) (by simp)) hF.l9 (by dsimp only;omega) (by dsimp only;omega)))
        go_enter Tryz.func158,Tryz.ntmps158
        go_wp2_with fail
        refine z01 [(0,false),(1,false),(2,false),(3,false),(4,false),(5,false),(6,false),(7,false),(8,false),(9,true),(10,true),(11,true)] (fun W=>Gr w W) (by kernel_rfl) (by kernel_rfl) (fun _ _ d _ _ h=>by cases d<;>exact h) (Gr.refl w).drew (fun _=>?_)
        iterate 9 (refine z03 (v:=?_) rfl (by rfl) ?_ ?_;rotate_left;(focus (intro W9 hW9;have hl9:=HLK.o W9 hW9;obtain ⟨x9,rfl⟩:∃ x:Ext w,W9=x.val:=⟨⟨W9,hW9⟩,rfl⟩;go_simp;(try with_reducible rfl);done));(try simp only [AP]))
        refine z05 rfl (by rfl) (fun K hK=>?_)
        go_simp
        refine hK.o (fun W=>Gr w W) _ _ ((Gr.refl w).drew.alloc _) (fun _ g=>g) (fun _=>?_)
        clear hK K
        (try simp only [AP])
        refine z05 rfl (by rfl) (fun K hK=>?_)
        go_simp
        refine hK.o (fun W=>Gr w W) _ _ (by repeat (first | exact (Gr.refl w).drew | exact Gr.refl w | refine Gr.alloc ?_ _ | refine Gr.drew ?_ | refine Gr.set ?_ ?_ _)) (fun _ g=>g) (fun _=>?_)
        clear hK K
        (try simp only [AP])
        refine z06 rfl (by rfl) (fun K hK=>?_)
        go_simp
        refine hK.o _ _ ?_
        clear hK K
        have G2:=hid (((Gr.refl w).alloc (.cells #[.int .i64 12,.int .i64 xi,.int .i64 xw] 185)).drew)
        go_wp2_with (first
          | (go_at_call 143
             refine (HP.o _ G2.o).mono ?_
             rintro en w2 ⟨rfl,hw2,hm2⟩
             have p3:=z1b (z1o (H.o.gr G2.o).r ((G2.o.block B3 l3).trans H3.o) (by decide) hm2)
             have HM2:=hid ((G2.o.mod (fun b=>b=k∨b=mb)).trans hm2 (fun _ _ e=>e))
             have HW:=hid (z4B PUT k mb _ now M w2 hw2)
             clear hm2 hw2)
          | (go_at_call 144
             refine HW.o.mono ?_
             rintro en w3 ⟨A3,c3,rfl,hr3,ho3,hm3⟩))
        go_ret2
        exact ⟨A3,c3,rfl,hr3,ho3,HM2.o.trans hm3 (fun _ _ e=>e)⟩
      · rw [if_pos (.inr e2)]
        have e2b:(turn != 0)=true:=by simpa using e2
        subst e1
        go_enter Tryz.func158,Tryz.ntmps158
        go_wp2_with fail
        refine z01 [(0,false),(1,false),(2,false),(3,false),(4,false),(5,false),(6,false),(7,false),(8,false),(9,true),(10,true),(11,true)] (fun W=>Gr w W) (by kernel_rfl) (by kernel_rfl) (fun _ _ d _ _ h=>by cases d<;>exact h) (Gr.refl w).drew (fun _=>?_)
        iterate 9 (refine z03 (v:=?_) rfl (by rfl) ?_ ?_;rotate_left;(focus (intro W9 hW9;have hl9:=HLK.o W9 hW9;obtain ⟨x9,rfl⟩:∃ x:Ext w,W9=x.val:=⟨⟨W9,hW9⟩,rfl⟩;go_simp;(try with_reducible rfl);done));(try simp only [AP]))
        refine z05 rfl (by rfl) (fun K hK=>?_)
        go_simp
        refine hK.o (fun W=>Gr w W) _ _ ((Gr.refl w).drew.alloc _) (fun _ g=>g) (fun _=>?_)
        clear hK K
        (try simp only [AP])
        refine z05 rfl (by rfl) (fun K hK=>?_)
        go_simp
        refine hK.o (fun W=>Gr w W) _ _ (by repeat (first | exact (Gr.refl w).drew | exact Gr.refl w | refine Gr.alloc ?_ _ | refine Gr.drew ?_ | refine Gr.set ?_ ?_ _)) (fun _ g=>g) (fun _=>?_)
        clear hK K
        (try simp only [AP])
        refine z06 rfl (by rfl) (fun K hK=>?_)
        go_simp
        refine hK.o _ _ ?_
        clear hK K
        go_wp2_with fail
        go_ret2
        exact ST.o _ (by repeat (first | exact (Gr.refl w).drew | exact Gr.refl w | refine Gr.alloc ?_ _ | refine Gr.drew ?_ | refine Gr.set ?_ ?_ _))
    · rw [if_pos (.inl e1)]
      have e1b:(xk != 12)=true:=by simpa using e1
      go_enter Tryz.func158,Tryz.ntmps158
      go_wp2_with fail
      refine z01 [(0,false),(1,false),(2,false),(3,false),(4,false),(5,false),(6,false),(7,false),(8,false),(9,true),(10,true),(11,true)] (fun W=>Gr w W) (by kernel_rfl) (by kernel_rfl) (fun _ _ d _ _ h=>by cases d<;>exact h) (Gr.refl w).drew (fun _=>?_)
      iterate 9 (refine z03 (v:=?_) rfl (by rfl) ?_ ?_;rotate_left;(focus (intro W9 hW9;have hl9:=HLK.o W9 hW9;obtain ⟨x9,rfl⟩:∃ x:Ext w,W9=x.val:=⟨⟨W9,hW9⟩,rfl⟩;go_simp;(try with_reducible rfl);done));(try simp only [AP]))
      refine z05 rfl (by rfl) (fun K hK=>?_)
      go_simp
      refine hK.o (fun W=>Gr w W) _ _ ((Gr.refl w).drew.alloc _) (fun _ g=>g) (fun _=>?_)
      clear hK K
      (try simp only [AP])
      refine z05 rfl (by rfl) (fun K hK=>?_)
      go_simp
      refine hK.o (fun W=>Gr w W) _ _ (by repeat (first | exact (Gr.refl w).drew | exact Gr.refl w | refine Gr.alloc ?_ _ | refine Gr.drew ?_ | refine Gr.set ?_ ?_ _)) (fun _ g=>g) (fun _=>?_)
      clear hK K
      (try simp only [AP])
      refine z06 rfl (by rfl) (fun K hK=>?_)
      go_simp
      refine hK.o _ _ ?_
      clear hK K
      go_wp2_with fail
      go_ret2
      exact ST.o _ (by repeat (first | exact (Gr.refl w).drew | exact Gr.refl w | refine Gr.alloc ?_ _ | refine Gr.drew ?_ | refine Gr.set ?_ ?_ _))
set_option maxHeartbeats 2000000 in
theorem zaN (PUT:z0e) (k:Nat) (F:FS) (ref:Int) (turn:Int) (now:Int) (M:Bl) (w:World) (h:z0O w M k F) (hM:∀ b,M b→b<w.heap.size) (hk:M k) (hF:FOk F) :
  Calls Tryz.prog 114 #[.pointer (some ⟨k,0,none⟩),.int .i64 ref,.int .i64 turn,.int .i64 now] w (RetT M k (tryF F [] now (z1r ref turn now)) w):=by
 have b0:=heap_alloc_new w (.cells #[.int .i64 ref] 3)
 have HB0:=hid (((((Gr.refl _).alloc (.cells #[.int .i64 turn] 3)).alloc (.cells #[.int .i64 now] 3)).block _ (block_lt b0)).trans b0)
 clear b0
 have b1:=heap_alloc_new (w.alloc (.cells #[.int .i64 ref] 3)) (.cells #[.int .i64 turn] 3)
 rw [show (w.alloc (.cells #[.int .i64 ref] 3)).heap.size=w.heap.size+1 by simp] at b1
 have HB1:=hid ((((Gr.refl _).alloc (.cells #[.int .i64 now] 3)).block _ (block_lt b1)).trans b1)
 clear b1
 have b2:=heap_alloc_new ((w.alloc (.cells #[.int .i64 ref] 3)).alloc (.cells #[.int .i64 turn] 3)) (.cells #[.int .i64 now] 3)
 rw [show ((w.alloc (.cells #[.int .i64 ref] 3)).alloc (.cells #[.int .i64 turn] 3)).heap.size=w.heap.size+1+1 by simp] at b2
 have HB2:=hid (((Gr.refl _).block _ (block_lt b2)).trans b2)
 clear b2
 have G1:=hid (show Gr w (((w.alloc (.cells #[.int .i64 ref] 3)).alloc (.cells #[.int .i64 turn] 3)).alloc (.cells #[.int .i64 now] 3)) from ((((Gr.refl w).alloc _).alloc _).alloc _))
 have HT:=hid (show ∀ _:Unit,Calls Tryz.prog 141 _ (((w.alloc (.cells #[.int .i64 ref] 3)).alloc (.cells #[.int .i64 turn] 3)).alloc (.cells #[.int .i64 now] 3)) _ from fun _ =>
  z2M 156 #[.pointer (some ⟨w.heap.size,0,none⟩),.pointer (some ⟨w.heap.size+1,0,none⟩),.pointer (some ⟨w.heap.size+1+1,0,none⟩)] k F (.slice none 0 0) [] now (z1r ref turn now) M (((w.alloc (.cells #[.int .i64 ref] 3)).alloc (.cells #[.int .i64 turn] 3)).alloc (.cells #[.int .i64 now] 3)) (h.gr G1.o) (fun b e=>Nat.lt_of_lt_of_le (hM b e) G1.o.size) hk ((BysM.none _ M).bys) hF.i hF.len (fun _ _=>rfl) fun hr W k' mb' g n1 n2 hfw=>by
   obtain ⟨r1,r2,r3⟩:=z0X hr
   exact zbh PUT k' mb' (w.heap.size) (w.heap.size+1) (w.heap.size+1+1) F ref turn now (plus M k' mb') W hfw hF ((g.block _ (block_lt HB0.o)).trans HB0.o) ((g.block _ (block_lt HB1.o)).trans HB1.o) ((g.block _ (block_lt HB2.o)).trans HB2.o))
 have H:=hid h
 clear h hk
 go_enter Tryz.func114,Tryz.ntmps114
 go_wp2_with (first
  | (go_at_call 141;refine (HT.o ()).mono ?_;rintro en w3 ⟨A3,c3,rfl,hf3,ho3,hm3⟩))
 go_ret2
 exact ⟨A3,c3,rfl,hf3,ho3,(G1.o.mod _).trans hm3 (fun _ _ e=>e)⟩
set_option maxHeartbeats 2000000 in
theorem zaK (PUT:z0e) (k:Nat) (F:FS) (ref:Int) (turn:Int) (now:Int) (M:Bl) (w:World) (h:z0O w M k F) (hM:∀ b,M b→b<w.heap.size) (hk:M k) (hF:FOk F) :
  Calls Tryz.prog 115 #[.pointer (some ⟨k,0,none⟩),.int .i64 ref,.int .i64 turn,.int .i64 now] w (RetT M k (tryF F [] now (z1x ref turn now)) w):=by
 have b0:=heap_alloc_new w (.cells #[.int .i64 ref] 3)
 have HB0:=hid (((((Gr.refl _).alloc (.cells #[.int .i64 turn] 3)).alloc (.cells #[.int .i64 now] 3)).block _ (block_lt b0)).trans b0)
 clear b0
 have b1:=heap_alloc_new (w.alloc (.cells #[.int .i64 ref] 3)) (.cells #[.int .i64 turn] 3)
 rw [show (w.alloc (.cells #[.int .i64 ref] 3)).heap.size=w.heap.size+1 by simp] at b1
 have HB1:=hid ((((Gr.refl _).alloc (.cells #[.int .i64 now] 3)).block _ (block_lt b1)).trans b1)
 clear b1
 have b2:=heap_alloc_new ((w.alloc (.cells #[.int .i64 ref] 3)).alloc (.cells #[.int .i64 turn] 3)) (.cells #[.int .i64 now] 3)
 rw [show ((w.alloc (.cells #[.int .i64 ref] 3)).alloc (.cells #[.int .i64 turn] 3)).heap.size=w.heap.size+1+1 by simp] at b2
 have HB2:=hid (((Gr.refl _).block _ (block_lt b2)).trans b2)
 clear b2
 have G1:=hid (show Gr w (((w.alloc (.cells #[.int .i64 ref] 3)).alloc (.cells #[.int .i64 turn] 3)).alloc (.cells #[.int .i64 now] 3)) from ((((Gr.refl w).alloc _).alloc _).alloc _))
 have HT:=hid (show ∀ _:Unit,Calls Tryz.prog 141 _ (((w.alloc (.cells #[.int .i64 ref] 3)).alloc (.cells #[.int .i64 turn] 3)).alloc (.cells #[.int .i64 now] 3)) _ from fun _ =>
  z2M 157 #[.pointer (some ⟨w.heap.size+1,0,none⟩),.pointer (some ⟨w.heap.size,0,none⟩),.pointer (some ⟨w.heap.size+1+1,0,none⟩)] k F (.slice none 0 0) [] now (z1x ref turn now) M (((w.alloc (.cells #[.int .i64 ref] 3)).alloc (.cells #[.int .i64 turn] 3)).alloc (.cells #[.int .i64 now] 3)) (h.gr G1.o) (fun b e=>Nat.lt_of_lt_of_le (hM b e) G1.o.size) hk ((BysM.none _ M).bys) hF.i hF.len (fun _ _=>rfl) fun hr W k' mb' g n1 n2 hfw=>by
   obtain ⟨r1,r2,r3⟩:=z0X hr
   exact zbg PUT k' mb' (w.heap.size+1) (w.heap.size) (w.heap.size+1+1) F turn ref now (plus M k' mb') W hfw hF ((g.block _ (block_lt HB1.o)).trans HB1.o) ((g.block _ (block_lt HB0.o)).trans HB0.o) ((g.block _ (block_lt HB2.o)).trans HB2.o))
 have H:=hid h
 clear h hk
 go_enter Tryz.func115,Tryz.ntmps115
 go_wp2_with (first
  | (go_at_call 141;refine (HT.o ()).mono ?_;rintro en w3 ⟨A3,c3,rfl,hf3,ho3,hm3⟩))
 go_ret2
 exact ⟨A3,c3,rfl,hf3,ho3,(G1.o.mod _).trans hm3 (fun _ _ e=>e)⟩
set_option maxHeartbeats 2000000 in
theorem zbL (PUT:z0e) (k:Nat) (F:FS) (ref:Int) (turn:Int) (now:Int) (M:Bl) (w:World) (h:z0O w M k F) (hM:∀ b,M b→b<w.heap.size) (hk:M k) (hF:FOk F) :
  Calls Tryz.prog 116 #[.pointer (some ⟨k,0,none⟩),.int .i64 ref,.int .i64 turn,.int .i64 now] w (RetT M k (tryF F [] now (z29 ref turn now)) w):=by
 have b0:=heap_alloc_new w (.cells #[.int .i64 ref] 3)
 have HB0:=hid (((((Gr.refl _).alloc (.cells #[.int .i64 turn] 3)).alloc (.cells #[.int .i64 now] 3)).block _ (block_lt b0)).trans b0)
 clear b0
 have b1:=heap_alloc_new (w.alloc (.cells #[.int .i64 ref] 3)) (.cells #[.int .i64 turn] 3)
 rw [show (w.alloc (.cells #[.int .i64 ref] 3)).heap.size=w.heap.size+1 by simp] at b1
 have HB1:=hid ((((Gr.refl _).alloc (.cells #[.int .i64 now] 3)).block _ (block_lt b1)).trans b1)
 clear b1
 have b2:=heap_alloc_new ((w.alloc (.cells #[.int .i64 ref] 3)).alloc (.cells #[.int .i64 turn] 3)) (.cells #[.int .i64 now] 3)
 rw [show ((w.alloc (.cells #[.int .i64 ref] 3)).alloc (.cells #[.int .i64 turn] 3)).heap.size=w.heap.size+1+1 by simp] at b2
 have HB2:=hid (((Gr.refl _).block _ (block_lt b2)).trans b2)
 clear b2
 have G1:=hid (show Gr w (((w.alloc (.cells #[.int .i64 ref] 3)).alloc (.cells #[.int .i64 turn] 3)).alloc (.cells #[.int .i64 now] 3)) from ((((Gr.refl w).alloc _).alloc _).alloc _))
 have HT:=hid (show ∀ _:Unit,Calls Tryz.prog 141 _ (((w.alloc (.cells #[.int .i64 ref] 3)).alloc (.cells #[.int .i64 turn] 3)).alloc (.cells #[.int .i64 now] 3)) _ from fun _ =>
  z2M 158 #[.pointer (some ⟨w.heap.size,0,none⟩),.pointer (some ⟨w.heap.size+1,0,none⟩),.pointer (some ⟨w.heap.size+1+1,0,none⟩)] k F (.slice none 0 0) [] now (z29 ref turn now) M (((w.alloc (.cells #[.int .i64 ref] 3)).alloc (.cells #[.int .i64 turn] 3)).alloc (.cells #[.int .i64 now] 3)) (h.gr G1.o) (fun b e=>Nat.lt_of_lt_of_le (hM b e) G1.o.size) hk ((BysM.none _ M).bys) hF.i hF.len (fun _ _=>rfl) fun hr W k' mb' g n1 n2 hfw=>by
   obtain ⟨r1,r2,r3⟩:=z0X hr
   exact zdo PUT k' mb' (w.heap.size) (w.heap.size+1) (w.heap.size+1+1) F ref turn now (plus M k' mb') W hfw hF ((g.block _ (block_lt HB0.o)).trans HB0.o) ((g.block _ (block_lt HB1.o)).trans HB1.o) ((g.block _ (block_lt HB2.o)).trans HB2.o))
 have H:=hid h
 clear h hk
 go_enter Tryz.func116,Tryz.ntmps116
 go_wp2_with (first
  | (go_at_call 141;refine (HT.o ()).mono ?_;rintro en w3 ⟨A3,c3,rfl,hf3,ho3,hm3⟩))
 go_ret2
 exact ⟨A3,c3,rfl,hf3,ho3,(G1.o.mod _).trans hm3 (fun _ _ e=>e)⟩
set_option maxHeartbeats 2000000 in
theorem z9j (PUT:z0e) (k:Nat) (F:FS) (ref:Int) (d:Value) (data:List UInt8)  (now:Int) (M:Bl) (w:World) (h:z0O w M k F) (hM:∀ b,M b→b<w.heap.size) (hk:M k) (hF:FOk F) (hd:BysM w M d data) :
  Calls Tryz.prog 111 #[.pointer (some ⟨k,0,none⟩),.int .i64 ref,d,.bool true,.int .i64 now] w (RetT M k (z2N F ref data true now) w):=by
 obtain ⟨Ad,cd,rfl⟩:∃ A c,d=.slice A data.length c:=by
  obtain ⟨A,c,e,_⟩:=hd
  exact ⟨A,c,e⟩
 have b0:=heap_alloc_new w (.cells #[.int .i64 ref] 3)
 have HB0:=hid ((((((Gr.refl _).alloc (.cells #[.slice Ad data.length cd] 22)).alloc (.cells #[.int .i64 now] 3)).alloc (.cells #[.int .i64 9] 3)).block _ (block_lt b0)).trans b0)
 clear b0
 have b1:=heap_alloc_new (w.alloc (.cells #[.int .i64 ref] 3)) (.cells #[.slice Ad data.length cd] 22)
 rw [show (w.alloc (.cells #[.int .i64 ref] 3)).heap.size=w.heap.size+1 by simp] at b1
 have HB1:=hid (((((Gr.refl _).alloc (.cells #[.int .i64 now] 3)).alloc (.cells #[.int .i64 9] 3)).block _ (block_lt b1)).trans b1)
 clear b1
 have b2:=heap_alloc_new ((w.alloc (.cells #[.int .i64 ref] 3)).alloc (.cells #[.slice Ad data.length cd] 22)) (.cells #[.int .i64 now] 3)
 rw [show ((w.alloc (.cells #[.int .i64 ref] 3)).alloc (.cells #[.slice Ad data.length cd] 22)).heap.size=w.heap.size+1+1 by simp] at b2
 have HB2:=hid ((((Gr.refl _).alloc (.cells #[.int .i64 9] 3)).block _ (block_lt b2)).trans b2)
 clear b2
 have b3:=heap_alloc_new (((w.alloc (.cells #[.int .i64 ref] 3)).alloc (.cells #[.slice Ad data.length cd] 22)).alloc (.cells #[.int .i64 now] 3)) (.cells #[.int .i64 9] 3)
 rw [show (((w.alloc (.cells #[.int .i64 ref] 3)).alloc (.cells #[.slice Ad data.length cd] 22)).alloc (.cells #[.int .i64 now] 3)).heap.size=w.heap.size+1+1+1 by simp] at b3
 have HB3:=hid (((Gr.refl _).block _ (block_lt b3)).trans b3)
 clear b3
 have G1:=hid (show Gr w ((((w.alloc (.cells #[.int .i64 ref] 3)).alloc (.cells #[.slice Ad data.length cd] 22)).alloc (.cells #[.int .i64 now] 3)).alloc (.cells #[.int .i64 9] 3)) from (((((Gr.refl w).alloc _).alloc _).alloc _).alloc _))
 have HT:=hid (show ∀ _:Unit,Calls Tryz.prog 141 _ ((((w.alloc (.cells #[.int .i64 ref] 3)).alloc (.cells #[.slice Ad data.length cd] 22)).alloc (.cells #[.int .i64 now] 3)).alloc (.cells #[.int .i64 9] 3)) _ from fun _ =>
  z2M 154 #[.pointer (some ⟨w.heap.size+1+1+1,0,none⟩),.pointer (some ⟨w.heap.size,0,none⟩),.pointer (some ⟨w.heap.size+1,0,none⟩),.pointer (some ⟨w.heap.size+1+1,0,none⟩)] k F (.slice Ad data.length cd) data now (z2q 9 ref data now) M ((((w.alloc (.cells #[.int .i64 ref] 3)).alloc (.cells #[.slice Ad data.length cd] 22)).alloc (.cells #[.int .i64 now] 3)).alloc (.cells #[.int .i64 9] 3)) (h.gr G1.o) (fun b e=>Nat.lt_of_lt_of_le (hM b e) G1.o.size) hk ((hd.up (Gr.up G1.o M)).bys) hF.i hF.len (fun _ _=>rfl) fun hr W k' mb' g n1 n2 hfw=>by
   obtain ⟨r1,r2,r3⟩:=z0X hr
   exact z7D PUT k' mb' (w.heap.size+1+1+1) (w.heap.size) (w.heap.size+1) (w.heap.size+1+1) F 9 ref now (.slice Ad data.length cd) data (plus M k' mb') W hfw hF ((g.block _ (block_lt HB3.o)).trans HB3.o) ((g.block _ (block_lt HB0.o)).trans HB0.o) ((g.block _ (block_lt HB1.o)).trans HB1.o) ((g.block _ (block_lt HB2.o)).trans HB2.o) (.inl rfl) ((hd.up (Gr.up (G1.o.trans g) M)).bys) r1)
 have H:=hid h
 clear h hk
 go_enter Tryz.func111,Tryz.ntmps111
 go_wp2_with (first
  | (go_at_call 141;refine (HT.o ()).mono ?_;rintro en w3 ⟨A3,c3,rfl,hf3,ho3,hm3⟩))
 go_ret2
 exact ⟨A3,c3,rfl,hf3,ho3,(G1.o.mod _).trans hm3 (fun _ _ e=>e)⟩
set_option maxHeartbeats 2000000 in
theorem z8t (PUT:z0e) (k:Nat) (F:FS) (ref:Int) (d:Value) (data:List UInt8)  (now:Int) (M:Bl) (w:World) (h:z0O w M k F) (hM:∀ b,M b→b<w.heap.size) (hk:M k) (hF:FOk F) (hd:BysM w M d data) :
  Calls Tryz.prog 111 #[.pointer (some ⟨k,0,none⟩),.int .i64 ref,d,.bool false,.int .i64 now] w (RetT M k (z2N F ref data false now) w):=by
 obtain ⟨Ad,cd,rfl⟩:∃ A c,d=.slice A data.length c:=by
  obtain ⟨A,c,e,_⟩:=hd
  exact ⟨A,c,e⟩
 have b0:=heap_alloc_new w (.cells #[.int .i64 ref] 3)
 have HB0:=hid ((((((Gr.refl _).alloc (.cells #[.slice Ad data.length cd] 22)).alloc (.cells #[.int .i64 now] 3)).alloc (.cells #[.int .i64 10] 3)).block _ (block_lt b0)).trans b0)
 clear b0
 have b1:=heap_alloc_new (w.alloc (.cells #[.int .i64 ref] 3)) (.cells #[.slice Ad data.length cd] 22)
 rw [show (w.alloc (.cells #[.int .i64 ref] 3)).heap.size=w.heap.size+1 by simp] at b1
 have HB1:=hid (((((Gr.refl _).alloc (.cells #[.int .i64 now] 3)).alloc (.cells #[.int .i64 10] 3)).block _ (block_lt b1)).trans b1)
 clear b1
 have b2:=heap_alloc_new ((w.alloc (.cells #[.int .i64 ref] 3)).alloc (.cells #[.slice Ad data.length cd] 22)) (.cells #[.int .i64 now] 3)
 rw [show ((w.alloc (.cells #[.int .i64 ref] 3)).alloc (.cells #[.slice Ad data.length cd] 22)).heap.size=w.heap.size+1+1 by simp] at b2
 have HB2:=hid ((((Gr.refl _).alloc (.cells #[.int .i64 10] 3)).block _ (block_lt b2)).trans b2)
 clear b2
 have b3:=heap_alloc_new (((w.alloc (.cells #[.int .i64 ref] 3)).alloc (.cells #[.slice Ad data.length cd] 22)).alloc (.cells #[.int .i64 now] 3)) (.cells #[.int .i64 10] 3)
 rw [show (((w.alloc (.cells #[.int .i64 ref] 3)).alloc (.cells #[.slice Ad data.length cd] 22)).alloc (.cells #[.int .i64 now] 3)).heap.size=w.heap.size+1+1+1 by simp] at b3
 have HB3:=hid (((Gr.refl _).block _ (block_lt b3)).trans b3)
 clear b3
 have G1:=hid (show Gr w ((((w.alloc (.cells #[.int .i64 ref] 3)).alloc (.cells #[.slice Ad data.length cd] 22)).alloc (.cells #[.int .i64 now] 3)).alloc (.cells #[.int .i64 10] 3)) from (((((Gr.refl w).alloc _).alloc _).alloc _).alloc _))
 have HT:=hid (show ∀ _:Unit,Calls Tryz.prog 141 _ ((((w.alloc (.cells #[.int .i64 ref] 3)).alloc (.cells #[.slice Ad data.length cd] 22)).alloc (.cells #[.int .i64 now] 3)).alloc (.cells #[.int .i64 10] 3)) _ from fun _ =>
  z2M 154 #[.pointer (some ⟨w.heap.size+1+1+1,0,none⟩),.pointer (some ⟨w.heap.size,0,none⟩),.pointer (some ⟨w.heap.size+1,0,none⟩),.pointer (some ⟨w.heap.size+1+1,0,none⟩)] k F (.slice Ad data.length cd) data now (z2q 10 ref data now) M ((((w.alloc (.cells #[.int .i64 ref] 3)).alloc (.cells #[.slice Ad data.length cd] 22)).alloc (.cells #[.int .i64 now] 3)).alloc (.cells #[.int .i64 10] 3)) (h.gr G1.o) (fun b e=>Nat.lt_of_lt_of_le (hM b e) G1.o.size) hk ((hd.up (Gr.up G1.o M)).bys) hF.i hF.len (fun _ _=>rfl) fun hr W k' mb' g n1 n2 hfw=>by
   obtain ⟨r1,r2,r3⟩:=z0X hr
   exact z7D PUT k' mb' (w.heap.size+1+1+1) (w.heap.size) (w.heap.size+1) (w.heap.size+1+1) F 10 ref now (.slice Ad data.length cd) data (plus M k' mb') W hfw hF ((g.block _ (block_lt HB3.o)).trans HB3.o) ((g.block _ (block_lt HB0.o)).trans HB0.o) ((g.block _ (block_lt HB1.o)).trans HB1.o) ((g.block _ (block_lt HB2.o)).trans HB2.o) (.inr (.inl rfl)) ((hd.up (Gr.up (G1.o.trans g) M)).bys) r1)
 have H:=hid h
 clear h hk
 go_enter Tryz.func111,Tryz.ntmps111
 go_wp2_with (first
  | (go_at_call 141;refine (HT.o ()).mono ?_;rintro en w3 ⟨A3,c3,rfl,hf3,ho3,hm3⟩))
 go_ret2
 exact ⟨A3,c3,rfl,hf3,ho3,(G1.o.mod _).trans hm3 (fun _ _ e=>e)⟩
end Go.Proofs.YtniknicnnaiilaaGreat
end
