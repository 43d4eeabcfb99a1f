/- Lemmas of the engine. -/
import Derived.Test.YtniknicnnaiilaaGreatX04
import Derived.Test.YtniknicnnaiilaaGreatX07
import Derived.Test.YtniknicnnaiilaaGreatX10
import Derived.Test.YtniknicnnaiilaaGreatX11
section
namespace Go.Proofs.YtniknicnnaiilaaGreat
set_option maxRecDepth 100000
open Go.RowKit Go.Ext Go.BigFrame Go.Maps Go.MapKept
attribute [local go_sem] Ext.cell Ext.frozen Ext.lt Ext.le s1 s2 s3 s4 s5 s6 t1 t2 t3 t4 t5 t6
attribute [local go_sem ↓] Go.wp_at_zero Go.wp_at_succ
section
variable {w w':World} {M S:Bl} {k kd ka md ma mr kh:Nat} {hv hv':Value} {E:ES}
theorem EngP.nes (h:EngP w M S k E kd ka md ma mr kh hv):k≠mr∧k≠md∧k≠ma∧kh≠mr∧kh≠md∧kh≠ma∧k≠kh∧(∀ b,hv.ownBlock=some b→b≠mr∧b≠md∧b≠ma∧b≠k∧b<w.heap.size):=by
 obtain ⟨kv,h1,_⟩:=h.r
 obtain ⟨kvd,h2,_⟩:=h.d.map
 obtain ⟨kva,h3,_⟩:=h.a.map
 refine ⟨(z0u h1 h.cell).symm,(z0u h2 h.cell).symm,(z0u h3 h.cell).symm,(z0u h1 h.h.cell).symm,(z0u h2 h.h.cell).symm,(z0u h3 h.h.cell).symm,z9T h.cell h.h.cell (by decide),fun b hb=>?_⟩
 rcases h.h.row.2 with ⟨e,_⟩ | ⟨g',cap,cur,e,_,hh,_⟩
 ·rw [e] at hb;cases hb
 ·rw [e] at hb
  injection hb with hb
  subst hb
  exact ⟨(z0u h1 hh).symm,(z0u h2 hh).symm,(z0u h3 hh).symm,(z9T h.cell hh (by decide)).symm,block_lt hh⟩
theorem EngP.setRuns (h:EngP w M S k E kd ka md ma mr kh hv) (m:Mod (fun b=>b=mr) w w') {kv:List (Int × Value)} {runs:List (Int × RunS)} (h1:MI w' mr kv) (h2:Rel (fun r v=>RunM w' M r v) runs kv):EngP w' M S k { E with runs:=runs } kd ka md ma mr kh hv:=by
 obtain ⟨n1,n2,n3,n4,n5,n6,n7,n8⟩:=h.nes
 have u:Up M w M w':=Mod.up m (fun b _ e=>e▸h.SM _ h.smr)
 have nd:kd≠mr:=fun e=>h.nd (e▸h.SM _ h.smr)
 have na:ka≠mr:=fun e=>h.na (e▸h.SM _ h.smr)
 exact ⟨(m.block k (block_lt h.cell) n1).trans h.cell,h.d.up u (m.block kd h.d.lt.1 nd) (m.block md h.d.lt.2 h.ne2),h.a.up u (m.block ka h.a.lt.1 na) (m.block ma h.a.lt.2 h.ne3),⟨kv,h1,h2⟩,h.h.mod m n4 (fun b e=>(n8 b e).1),h.sk,h.smd,h.sma,h.smr,h.skh,h.shv,h.nd,h.na,h.ne1,h.ne2,h.ne3,h.SM,fun b hb=>Nat.lt_of_lt_of_le (h.lt b hb) m.size⟩
theorem EngP.setDec (h:EngP w M S k E kd ka md ma mr kh hv) (m:Mod (fun b=>b=md) w w') {dec:Rows} (h1:z1e w' M kd md dec):EngP w' M S k { E with dec:=dec } kd ka md ma mr kh hv:=by
 obtain ⟨n1,n2,n3,n4,n5,n6,n7,n8⟩:=h.nes
 have u:Up M w M w':=Mod.up m (fun b _ e=>e▸h.SM _ h.smd)
 have na:ka≠md:=fun e=>h.na (e▸h.SM _ h.smd)
 obtain ⟨kv,h3,h4⟩:=h.r
 exact ⟨(m.block k (block_lt h.cell) n2).trans h.cell,h1,h.a.up u (m.block ka h.a.lt.1 na) (m.block ma h.a.lt.2 h.ne1.symm),⟨kv,h3.keep (m.block mr h.mrlt h.ne2.symm),h4.mono fun a v hr=>hr.up u⟩,h.h.mod m n5 (fun b e=>(n8 b e).2.1),h.sk,h.smd,h.sma,h.smr,h.skh,h.shv,h.nd,h.na,h.ne1,h.ne2,h.ne3,h.SM,fun b hb=>Nat.lt_of_lt_of_le (h.lt b hb) m.size⟩
theorem EngP.setAct (h:EngP w M S k E kd ka md ma mr kh hv) (m:Mod (fun b=>b=ma) w w') {act:Rows} (h1:z1e w' M ka ma act):EngP w' M S k { E with act:=act } kd ka md ma mr kh hv:=by
 obtain ⟨n1,n2,n3,n4,n5,n6,n7,n8⟩:=h.nes
 have u:Up M w M w':=Mod.up m (fun b _ e=>e▸h.SM _ h.sma)
 have nd:kd≠ma:=fun e=>h.nd (e▸h.SM _ h.sma)
 obtain ⟨kv,h3,h4⟩:=h.r
 exact ⟨(m.block k (block_lt h.cell) n3).trans h.cell,h.d.up u (m.block kd h.d.lt.1 nd) (m.block md h.d.lt.2 h.ne1),h1,⟨kv,h3.keep (m.block mr h.mrlt h.ne3.symm),h4.mono fun a v hr=>hr.up u⟩,h.h.mod m n6 (fun b e=>(n8 b e).2.2.1),h.sk,h.smd,h.sma,h.smr,h.skh,h.shv,h.nd,h.na,h.ne1,h.ne2,h.ne3,h.SM,fun b hb=>Nat.lt_of_lt_of_le (h.lt b hb) m.size⟩
def own (M:Bl) (v:Value):Bl:=fun b=>M b∨v.ownBlock=some b
theorem EngP.setDue (h:EngP w M S k E kd ka md ma mr kh hv) {due:List It} (m:Mod (fun b=>b=kh∨some b=hv.ownBlock) w w') (h1:HB 0 w' kh hv' due) (ho:hv'.ownBlock=hv.ownBlock∨∃ b,hv'.ownBlock=some b∧w.heap.size≤b):EngP w' (own M hv') (own S hv') k { E with due:=due } kd ka md ma mr kh hv':=by
 obtain ⟨n1,n2,n3,n4,n5,n6,n7,n8⟩:=h.nes
 have hold:∀ b,b<w.heap.size→own M hv' b→M b:=fun b hb e=>by
  rcases e with e | e
  ·exact e
  ·rcases ho with ho | ⟨c,ho,hc⟩
   ·rw [ho] at e;exact h.SM b (h.shv b e)
   ·rw [ho] at e;injection e with e;omega
 have u:Up M w (own M hv') w':=⟨m.mono fun b _ e=>by
  rcases e with rfl | e
  ·exact h.SM _ h.skh
  ·exact h.SM b (h.shv b e.symm),hold⟩
 have ns:∀ b,b≠kh→(∀ c,hv.ownBlock=some c→c≠b)→¬ (b=kh∨some b=hv.ownBlock):=fun b h1 h2 e=>by
  rcases e with e | e
  ·exact h1 e
  ·exact h2 b e.symm rfl
 have nd:¬ (kd=kh∨some kd=hv.ownBlock):=ns kd (fun e=>h.nd (e▸h.SM _ h.skh)) (fun c e1 e2=>h.nd (e2▸h.SM c (h.shv c e1)))
 have na:¬ (ka=kh∨some ka=hv.ownBlock):=ns ka (fun e=>h.na (e▸h.SM _ h.skh)) (fun c e1 e2=>h.na (e2▸h.SM c (h.shv c e1)))
 obtain ⟨kv,h3,h4⟩:=h.r
 exact ⟨(m.block k (block_lt h.cell) (ns k n7 (fun c e=>(n8 c e).2.2.2.1))).trans h.cell,h.d.up u (m.block kd h.d.lt.1 nd) (m.block md h.d.lt.2 (ns md n5.symm (fun c e=>(n8 c e).2.1))),h.a.up u (m.block ka h.a.lt.1 na) (m.block ma h.a.lt.2 (ns ma n6.symm (fun c e=>(n8 c e).2.2.1))),
  ⟨kv,h3.keep (m.block mr h.mrlt (ns mr n4.symm (fun c e=>(n8 c e).1))),h4.mono fun a v hr=>hr.up u⟩,h1,.inl h.sk,.inl h.smd,.inl h.sma,.inl h.smr,.inl h.skh,fun b e=>.inr e,fun e=>h.nd (hold kd h.d.lt.1 e),fun e=>h.na (hold ka h.a.lt.1 e),h.ne1,h.ne2,h.ne3,
  fun b e=>e.imp (h.SM b) id,fun b e=>by
   rcases e with e | e
   ·exact Nat.lt_of_lt_of_le (h.lt b e) m.size
   ·rcases h1.row.2 with ⟨e2,_⟩ | ⟨g',cap,cur,e2,_,hh,_⟩
    ·rw [e2] at e;cases e
    ·rw [e2] at e;injection e with e;subst e;exact block_lt hh⟩
theorem EngP.retDue (h:EngP w M S k E kd ka md ma mr kh hv) {due:List It} {r:Value} {vok:Value} {vfull:Value→Prop} {e:Ending} (hr:RetH 0 kh hv due r w e w'):RetS M S k (some { E with due:=due }) vok vfull w (.returned vok) w':=by
 obtain ⟨v',_,hb,hm,ho⟩:=hr
 refine ⟨hm.mono fun b _ e=>?_,rfl,own M v',own S v',⟨kd,ka,md,ma,mr,kh,v',h.setDue hm hb ho⟩,fun b hb e=>?_,fun b hb e=>?_,fun b e=>.inl e⟩
 ·rcases e with rfl | e
  ·exact h.skh
  ·exact h.shv b e.symm
 ·rcases e with e | e
  ·exact e
  ·rcases ho with ho | ⟨c,ho,hc⟩
   ·rw [ho] at e;exact h.shv b e
   ·rw [ho] at e;injection e with e;omega
 ·rcases e with e | e
  ·exact e
  ·rcases ho with ho | ⟨c,ho,hc⟩
   ·rw [ho] at e;exact h.SM b (h.shv b e)
   ·rw [ho] at e;injection e with e;omega
end
def outV (o:Out) (d:Value):Value:=.agg #[.int .i64 o.kind,.int .i64 o.list,.int .i64 o.ref,.int .i64 o.turn,.int .i64 o.tick,.int .i64 o.id,.int .i64 o.n,d]
def vF:Value→Prop:=fun v=>v=.bool false
set_option maxHeartbeats 4000000 in
theorem zgD (k:Nat) (E:ES) (id n now:Int) (o:Out) (d:Value) (M S:Bl) (w:World) (h:EngR w M S k E) (hE:EOk E) (hd:∃ A l c,d=.slice A l c) (hk:o.kind=1) :
  Calls Tryz.prog 117 #[.pointer (some ⟨k,0,none⟩),.int .i64 id,.int .i64 n,.int .i64 now,outV o d] w (RetS M S k (out0 E id n o) (.bool true) vF w):=by
 obtain ⟨kd,ka,md,ma,mr,kh,hv,h⟩:=h
 have H:=hid h
 obtain ⟨e0,e1,e2,e3,e4,e5,e6,hkl⟩:=h.cells
 have hl:=z2h hE.d o.list
 have HP:=hid (fun W (y:Gr w W)=>z8l kd md E.dec o.list ⟨id,n,o.ref,o.turn⟩ M W (h.gr y).d (h.SM _ h.smd) (h.gr y).lt (by omega))
 have hml:=h.d.lt.2
 have hkm:=h.nes.2.1
 unfold out0
 rw [if_pos hk]
 rcases o with ⟨ok,ol,or_,ot,oa,oi,on,od⟩
 obtain ⟨Ad,dl,cd,rfl⟩:=hd
 simp only at hk
 subst hk
 clear h hl
 simp only [outV,tkV] at *
 obtain ⟨R,hR⟩:∃ R,z38 E.dec ol ⟨id,n,or_,ot⟩=R:=⟨_,rfl⟩
 rw [hR] at HP ⊢
 clear hR
 go_enter Tryz.func117,Tryz.ntmps117
 go_wp2_with fail
 have G1:=hid ((Gr.refl w).alloc (.cells #[.int .i64 1,.int .i64 ol,.int .i64 or_,.int .i64 ot,.int .i64 oa,.int .i64 oi,.int .i64 on,.slice Ad dl cd] 188))
 have HB1:=hid (heap_alloc_new w (.cells #[.int .i64 1,.int .i64 ol,.int .i64 or_,.int .i64 ot,.int .i64 oa,.int .i64 oi,.int .i64 on,.slice Ad dl cd] 188))
 obtain ⟨W1,hW1⟩:∃ W1,w.alloc (.cells #[.int .i64 1,.int .i64 ol,.int .i64 or_,.int .i64 ot,.int .i64 oa,.int .i64 oi,.int .i64 on,.slice Ad dl cd] 188)=W1:=⟨_,rfl⟩
 rw [hW1] at G1 HB1 ⊢
 clear hW1
 have hl1:w.heap.size<W1.heap.size:=block_lt HB1.o
 obtain ⟨b1,b2,b3⟩:W1.cell? ⟨w.heap.size,1,none⟩=some (.int .i64 ol)∧W1.cell? ⟨w.heap.size,2,none⟩=some (.int .i64 or_)∧W1.cell? ⟨w.heap.size,3,none⟩=some (.int .i64 ot):=by
  refine ⟨?_,?_,?_⟩<;>simp [World.cell?,HB1.o]
 have f0:W1.cell? ⟨k,0,none⟩=some (.pointer (some ⟨kd,0,none⟩)):=(G1.o.cell (p:=⟨k,0,none⟩) hkl).trans e0
 have f1:W1.cell? ⟨k,1,none⟩=some (.pointer (some ⟨ka,0,none⟩)):=(G1.o.cell (p:=⟨k,1,none⟩) hkl).trans e1
 have hk1:k<W1.heap.size:=Nat.lt_of_lt_of_le hkl G1.o.size
 have hsame:∀ W,Mod (fun b=>b=md) W1.drew W→W.heap[k]?=W1.heap[k]?∧W.heap[w.heap.size]?=W1.heap[w.heap.size]?:=fun W m=>⟨m.block k hk1 hkm,m.block _ hl1 (by show ¬ w.heap.size=md;omega)⟩
 have HS:=hid hsame
 clear hsame
 refine z01 [(0,false),(1,false),(2,false),(3,false),(4,false),(5,false),(6,false),(7,false),(8,false),(9,false),(10,false),(11,false),(12,false),(13,false),(14,true),(15,false),(16,true)] (fun W=>W.heap[k]?=W1.heap[k]?∧W.heap[w.heap.size]?=W1.heap[w.heap.size]?) (by kernel_rfl) (by kernel_rfl) (fun _ _ d _ _ h=>by cases d<;>exact h) ⟨rfl,rfl⟩ (fun _=>?_)
 iterate 14 (refine z03 (v:=?_) rfl (by rfl) ?_ ?_;rotate_left;(focus (intro W9 hW9;have q0:=(World.cell?_of_block (a:=⟨k,0,none⟩) hW9.1).trans f0;have q1:=(World.cell?_of_block (a:=⟨k,1,none⟩) hW9.1).trans f1;have q2:=(World.cell?_of_block (a:=⟨w.heap.size,1,none⟩) hW9.2).trans b1;have q3:=(World.cell?_of_block (a:=⟨w.heap.size,2,none⟩) hW9.2).trans b2;have q4:=(World.cell?_of_block (a:=⟨w.heap.size,3,none⟩) hW9.2).trans b3;clear hW9;go_simp;(try with_reducible rfl);done));(try simp only [AP]))
 refine z05 rfl (by rfl) (fun K hK=>?_)
 go_simp
 go_at_call 159
 refine (HP.o _ (G1.o.drew)).mono ?_
 cases R with
 | none =>
  rintro en w2 ⟨rfl,g2⟩
  have G2:=hid ((G1.o.drew).trans g2)
  refine hK.o (fun W=>W.heap[k]?=W1.heap[k]?∧W.heap[w.heap.size]?=W1.heap[w.heap.size]?) _ _ (HS.o _ (g2.mod _)) (fun _ g=>g) (fun _=>?_)
  clear hK K
  (try simp only [AP])
  iterate 1 (refine z03 (v:=?_) rfl (by rfl) ?_ ?_;rotate_left;(focus (intro W9 hW9;clear hW9;go_simp;(try with_reducible rfl);done));(try simp only [AP]))
  refine z06 rfl (by rfl) (fun K hK=>?_)
  go_simp
  refine hK.o _ _ ?_
  clear hK K
  go_wp2_with fail
  go_ret
  exact RetS.full (G2.o.mod S) rfl
 | some m' =>
  rintro en w2 ⟨rfl,hl2,hm2⟩
  have P2:=hid ((H.o.gr (G1.o.drew)).setDec hm2 hl2)
  have M2:=hid (((G1.o.drew).mod S).trans hm2 (fun b _ e=>e▸H.o.smd))
  refine hK.o (fun W=>W.heap[k]?=W1.heap[k]?∧W.heap[w.heap.size]?=W1.heap[w.heap.size]?) _ _ (HS.o _ (hm2)) (fun _ g=>g) (fun _=>?_)
  clear hK K hl2 hm2
  (try simp only [AP])
  iterate 1 (refine z03 (v:=?_) rfl (by rfl) ?_ ?_;rotate_left;(focus (intro W9 hW9;clear hW9;go_simp;(try with_reducible rfl);done));(try simp only [AP]))
  refine z06 rfl (by rfl) (fun K hK=>?_)
  go_simp
  refine hK.o _ _ ?_
  clear hK K
  go_wp2_with fail
  go_ret
  exact RetS.done ⟨kd,ka,md,ma,mr,kh,hv,P2.o⟩ M2.o
set_option maxHeartbeats 4000000 in
theorem zgE (k:Nat) (E:ES) (id n now:Int) (o:Out) (d:Value) (M S:Bl) (w:World) (h:EngR w M S k E) (hE:EOk E) (hd:∃ A l c,d=.slice A l c) (hk:o.kind=2) :
  Calls Tryz.prog 117 #[.pointer (some ⟨k,0,none⟩),.int .i64 id,.int .i64 n,.int .i64 now,outV o d] w (RetS M S k (out0 E id n o) (.bool true) vF w):=by
 obtain ⟨kd,ka,md,ma,mr,kh,hv,h⟩:=h
 have H:=hid h
 obtain ⟨e0,e1,e2,e3,e4,e5,e6,hkl⟩:=h.cells
 have hl:=z2h hE.a.toROk o.list
 have HP:=hid (fun W (y:Gr w W)=>z8l ka ma E.act o.list ⟨id,n,o.ref,(-1)⟩ M W (h.gr y).a (h.SM _ h.sma) (h.gr y).lt (by omega))
 have hml:=h.a.lt.2
 have hkm:=h.nes.2.2.1
 unfold out0
 rw [if_neg (by omega),if_pos hk]
 rcases o with ⟨ok,ol,or_,ot,oa,oi,on,od⟩
 obtain ⟨Ad,dl,cd,rfl⟩:=hd
 simp only at hk
 subst hk
 clear h hl
 simp only [outV,tkV] at *
 obtain ⟨R,hR⟩:∃ R,z38 E.act ol ⟨id,n,or_,(-1)⟩=R:=⟨_,rfl⟩
 rw [hR] at HP ⊢
 clear hR
 go_enter Tryz.func117,Tryz.ntmps117
 go_wp2_with fail
 have G1:=hid ((Gr.refl w).alloc (.cells #[.int .i64 2,.int .i64 ol,.int .i64 or_,.int .i64 ot,.int .i64 oa,.int .i64 oi,.int .i64 on,.slice Ad dl cd] 188))
 have HB1:=hid (heap_alloc_new w (.cells #[.int .i64 2,.int .i64 ol,.int .i64 or_,.int .i64 ot,.int .i64 oa,.int .i64 oi,.int .i64 on,.slice Ad dl cd] 188))
 obtain ⟨W1,hW1⟩:∃ W1,w.alloc (.cells #[.int .i64 2,.int .i64 ol,.int .i64 or_,.int .i64 ot,.int .i64 oa,.int .i64 oi,.int .i64 on,.slice Ad dl cd] 188)=W1:=⟨_,rfl⟩
 rw [hW1] at G1 HB1 ⊢
 clear hW1
 have hl1:w.heap.size<W1.heap.size:=block_lt HB1.o
 obtain ⟨b1,b2,b3⟩:W1.cell? ⟨w.heap.size,1,none⟩=some (.int .i64 ol)∧W1.cell? ⟨w.heap.size,2,none⟩=some (.int .i64 or_)∧W1.cell? ⟨w.heap.size,3,none⟩=some (.int .i64 ot):=by
  refine ⟨?_,?_,?_⟩<;>simp [World.cell?,HB1.o]
 have f0:W1.cell? ⟨k,0,none⟩=some (.pointer (some ⟨kd,0,none⟩)):=(G1.o.cell (p:=⟨k,0,none⟩) hkl).trans e0
 have f1:W1.cell? ⟨k,1,none⟩=some (.pointer (some ⟨ka,0,none⟩)):=(G1.o.cell (p:=⟨k,1,none⟩) hkl).trans e1
 have hk1:k<W1.heap.size:=Nat.lt_of_lt_of_le hkl G1.o.size
 have hsame:∀ W,Mod (fun b=>b=ma) W1.drew W→W.heap[k]?=W1.heap[k]?∧W.heap[w.heap.size]?=W1.heap[w.heap.size]?:=fun W m=>⟨m.block k hk1 hkm,m.block _ hl1 (by show ¬ w.heap.size=ma;omega)⟩
 have HS:=hid hsame
 clear hsame
 refine z01 [(0,false),(1,false),(2,false),(3,false),(4,false),(5,false),(6,false),(7,false),(8,false),(9,false),(10,false),(11,false),(12,true),(13,false),(14,true)] (fun W=>W.heap[k]?=W1.heap[k]?∧W.heap[w.heap.size]?=W1.heap[w.heap.size]?) (by kernel_rfl) (by kernel_rfl) (fun _ _ d _ _ h=>by cases d<;>exact h) ⟨rfl,rfl⟩ (fun _=>?_)
 iterate 12 (refine z03 (v:=?_) rfl (by rfl) ?_ ?_;rotate_left;(focus (intro W9 hW9;have q0:=(World.cell?_of_block (a:=⟨k,0,none⟩) hW9.1).trans f0;have q1:=(World.cell?_of_block (a:=⟨k,1,none⟩) hW9.1).trans f1;have q2:=(World.cell?_of_block (a:=⟨w.heap.size,1,none⟩) hW9.2).trans b1;have q3:=(World.cell?_of_block (a:=⟨w.heap.size,2,none⟩) hW9.2).trans b2;have q4:=(World.cell?_of_block (a:=⟨w.heap.size,3,none⟩) hW9.2).trans b3;clear hW9;go_simp;(try with_reducible rfl);done));(try simp only [AP]))
 refine z05 rfl (by rfl) (fun K hK=>?_)
 go_simp
 go_at_call 159
 refine (HP.o _ (G1.o.drew)).mono ?_
 cases R with
 | none =>
  rintro en w2 ⟨rfl,g2⟩
  have G2:=hid ((G1.o.drew).trans g2)
  refine hK.o (fun W=>W.heap[k]?=W1.heap[k]?∧W.heap[w.heap.size]?=W1.heap[w.heap.size]?) _ _ (HS.o _ (g2.mod _)) (fun _ g=>g) (fun _=>?_)
  clear hK K
  (try simp only [AP])
  iterate 1 (refine z03 (v:=?_) rfl (by rfl) ?_ ?_;rotate_left;(focus (intro W9 hW9;clear hW9;go_simp;(try with_reducible rfl);done));(try simp only [AP]))
  refine z06 rfl (by rfl) (fun K hK=>?_)
  go_simp
  refine hK.o _ _ ?_
  clear hK K
  go_wp2_with fail
  go_ret
  exact RetS.full (G2.o.mod S) rfl
 | some m' =>
  rintro en w2 ⟨rfl,hl2,hm2⟩
  have P2:=hid ((H.o.gr (G1.o.drew)).setAct hm2 hl2)
  have M2:=hid (((G1.o.drew).mod S).trans hm2 (fun b _ e=>e▸H.o.sma))
  refine hK.o (fun W=>W.heap[k]?=W1.heap[k]?∧W.heap[w.heap.size]?=W1.heap[w.heap.size]?) _ _ (HS.o _ (hm2)) (fun _ g=>g) (fun _=>?_)
  clear hK K hl2 hm2
  (try simp only [AP])
  iterate 1 (refine z03 (v:=?_) rfl (by rfl) ?_ ?_;rotate_left;(focus (intro W9 hW9;clear hW9;go_simp;(try with_reducible rfl);done));(try simp only [AP]))
  refine z06 rfl (by rfl) (fun K hK=>?_)
  go_simp
  refine hK.o _ _ ?_
  clear hK K
  go_wp2_with fail
  go_ret
  exact RetS.done ⟨kd,ka,md,ma,mr,kh,hv,P2.o⟩ M2.o
set_option maxHeartbeats 4000000 in
theorem zgF (k:Nat) (E:ES) (id n now:Int) (o:Out) (d:Value) (M S:Bl) (w:World) (h:EngR w M S k E) (hE:EOk E) (hdue:E.due.length≤1000000) (hd:∃ A l c,d=.slice A l c) (hk:o.kind=3) :
  Calls Tryz.prog 117 #[.pointer (some ⟨k,0,none⟩),.int .i64 id,.int .i64 n,.int .i64 now,outV o d] w (RetS M S k (out0 E id n o) (.bool true) vF w):=by
 obtain ⟨kd,ka,md,ma,mr,kh,hv,h⟩:=h
 have H:=hid h
 obtain ⟨e0,e1,e2,e3,e4,e5,e6,hkl⟩:=h.cells
 have HA:=hid (fun W (y:Gr w W)=>z6D 0 kh hv E.due (o.tick,id,n,o.ref,o.turn,o.kind) W (h.gr y).h hE.due hdue (Nat.zero_le _))
 unfold out0
 rw [if_neg (by omega),if_neg (by omega)]
 rcases o with ⟨ok,ol,or_,ot,oa,oi,on,od⟩
 obtain ⟨Ad,dl,cd,rfl⟩:=hd
 simp only at hk
 subst hk
 clear h
 simp only [outV,iv] at *
 have HAE:=hid (show addD E.due (oa,id,n,or_,ot,3)=addF E.due (oa,id,n,or_,ot,3) from rfl)
 rw [HAE.o]
 go_enter Tryz.func117,Tryz.ntmps117
 go_wp2_with fail
 have G1:=hid ((Gr.refl w).alloc (.cells #[.int .i64 3,.int .i64 ol,.int .i64 or_,.int .i64 ot,.int .i64 oa,.int .i64 oi,.int .i64 on,.slice Ad dl cd] 188))
 have HB1:=hid (heap_alloc_new w (.cells #[.int .i64 3,.int .i64 ol,.int .i64 or_,.int .i64 ot,.int .i64 oa,.int .i64 oi,.int .i64 on,.slice Ad dl cd] 188))
 obtain ⟨W1,hW1⟩:∃ W1,w.alloc (.cells #[.int .i64 3,.int .i64 ol,.int .i64 or_,.int .i64 ot,.int .i64 oa,.int .i64 oi,.int .i64 on,.slice Ad dl cd] 188)=W1:=⟨_,rfl⟩
 rw [hW1] at G1 HB1 ⊢
 clear hW1
 have hl1:w.heap.size<W1.heap.size:=block_lt HB1.o
 obtain ⟨b0,b1,b2,b3,b4⟩:W1.cell? ⟨w.heap.size,0,none⟩=some (.int .i64 3)∧W1.cell? ⟨w.heap.size,1,none⟩=some (.int .i64 ol)∧W1.cell? ⟨w.heap.size,2,none⟩=some (.int .i64 or_)∧W1.cell? ⟨w.heap.size,3,none⟩=some (.int .i64 ot)∧W1.cell? ⟨w.heap.size,4,none⟩=some (.int .i64 oa):=by
  refine ⟨?_,?_,?_,?_,?_⟩<;>simp [World.cell?,HB1.o]
 have f6:W1.cell? ⟨k,6,none⟩=some (.pointer (some ⟨kh,0,none⟩)):=(G1.o.cell (p:=⟨k,6,none⟩) hkl).trans e6
 have hk1:k<W1.heap.size:=Nat.lt_of_lt_of_le hkl G1.o.size
 refine z01 [(0,false),(1,false),(2,false),(3,false),(4,false),(5,false),(6,false),(7,false),(8,false),(9,false),(10,false),(11,false),(12,false),(13,false),(14,false),(15,true)] (fun W=>Gr W1 W) (by kernel_rfl) (by kernel_rfl) (fun _ _ d _ _ h=>by cases d<;>exact h) (Gr.refl W1).drew (fun _=>?_)
 iterate 15 (refine z03 (v:=?_) rfl (by rfl) ?_ ?_;rotate_left;(focus (intro W9 hW9;obtain ⟨x9,rfl⟩:∃ x:Ext W1,W9=x.val:=⟨⟨W9,hW9⟩,rfl⟩;go_simp;(try with_reducible rfl);done));(try simp only [AP]))
 refine z06 rfl (by rfl) (fun K hK=>?_)
 go_simp
 go_at_call 44
 refine (HA.o _ (G1.o.drew)).mono ?_
 intro en w2 hr
 have R2:=hid (((H.o.gr G1.o.drew).retDue (vok:=.bool true) (vfull:=vF) hr).grow G1.o.drew)
 obtain ⟨_,rfl,_⟩:=hr
 refine hK.o _ _ ?_
 clear hK K
 go_wp2_with fail
 go_ret
 exact R2.o
set_option maxHeartbeats 4000000 in
theorem zgG (k:Nat) (E:ES) (id n now:Int) (o:Out) (d:Value) (M S:Bl) (w:World) (h:EngR w M S k E) (hE:EOk E) (hdue:E.due.length≤1000000) (hd:∃ A l c,d=.slice A l c) (hk:o.kind=4) :
  Calls Tryz.prog 117 #[.pointer (some ⟨k,0,none⟩),.int .i64 id,.int .i64 n,.int .i64 now,outV o d] w (RetS M S k (out0 E id n o) (.bool true) vF w):=by
 obtain ⟨kd,ka,md,ma,mr,kh,hv,h⟩:=h
 have H:=hid h
 obtain ⟨e0,e1,e2,e3,e4,e5,e6,hkl⟩:=h.cells
 have HA:=hid (fun W (y:Gr w W)=>z6D 0 kh hv E.due (o.tick,id,n,o.ref,o.turn,o.kind) W (h.gr y).h hE.due hdue (Nat.zero_le _))
 unfold out0
 rw [if_neg (by omega),if_neg (by omega)]
 rcases o with ⟨ok,ol,or_,ot,oa,oi,on,od⟩
 obtain ⟨Ad,dl,cd,rfl⟩:=hd
 simp only at hk
 subst hk
 clear h
 simp only [outV,iv] at *
 have HAE:=hid (show addD E.due (oa,id,n,or_,ot,4)=addF E.due (oa,id,n,or_,ot,4) from rfl)
 rw [HAE.o]
 go_enter Tryz.func117,Tryz.ntmps117
 go_wp2_with fail
 have G1:=hid ((Gr.refl w).alloc (.cells #[.int .i64 4,.int .i64 ol,.int .i64 or_,.int .i64 ot,.int .i64 oa,.int .i64 oi,.int .i64 on,.slice Ad dl cd] 188))
 have HB1:=hid (heap_alloc_new w (.cells #[.int .i64 4,.int .i64 ol,.int .i64 or_,.int .i64 ot,.int .i64 oa,.int .i64 oi,.int .i64 on,.slice Ad dl cd] 188))
 obtain ⟨W1,hW1⟩:∃ W1,w.alloc (.cells #[.int .i64 4,.int .i64 ol,.int .i64 or_,.int .i64 ot,.int .i64 oa,.int .i64 oi,.int .i64 on,.slice Ad dl cd] 188)=W1:=⟨_,rfl⟩
 rw [hW1] at G1 HB1 ⊢
 clear hW1
 have hl1:w.heap.size<W1.heap.size:=block_lt HB1.o
 obtain ⟨b0,b1,b2,b3,b4⟩:W1.cell? ⟨w.heap.size,0,none⟩=some (.int .i64 4)∧W1.cell? ⟨w.heap.size,1,none⟩=some (.int .i64 ol)∧W1.cell? ⟨w.heap.size,2,none⟩=some (.int .i64 or_)∧W1.cell? ⟨w.heap.size,3,none⟩=some (.int .i64 ot)∧W1.cell? ⟨w.heap.size,4,none⟩=some (.int .i64 oa):=by
  refine ⟨?_,?_,?_,?_,?_⟩<;>simp [World.cell?,HB1.o]
 have f6:W1.cell? ⟨k,6,none⟩=some (.pointer (some ⟨kh,0,none⟩)):=(G1.o.cell (p:=⟨k,6,none⟩) hkl).trans e6
 have hk1:k<W1.heap.size:=Nat.lt_of_lt_of_le hkl G1.o.size
 refine z01 [(0,false),(1,false),(2,false),(3,false),(4,false),(5,false),(6,false),(7,false),(8,false),(9,false),(10,false),(11,false),(12,false),(13,false),(14,false),(15,true)] (fun W=>Gr W1 W) (by kernel_rfl) (by kernel_rfl) (fun _ _ d _ _ h=>by cases d<;>exact h) (Gr.refl W1).drew (fun _=>?_)
 iterate 15 (refine z03 (v:=?_) rfl (by rfl) ?_ ?_;rotate_left;(focus (intro W9 hW9;obtain ⟨x9,rfl⟩:∃ x:Ext W1,W9=x.val:=⟨⟨W9,hW9⟩,rfl⟩;go_simp;(try with_reducible rfl);done));(try simp only [AP]))
 refine z06 rfl (by rfl) (fun K hK=>?_)
 go_simp
 go_at_call 44
 refine (HA.o _ (G1.o.drew)).mono ?_
 intro en w2 hr
 have R2:=hid (((H.o.gr G1.o.drew).retDue (vok:=.bool true) (vfull:=vF) hr).grow G1.o.drew)
 obtain ⟨_,rfl,_⟩:=hr
 refine hK.o _ _ ?_
 clear hK K
 go_wp2_with fail
 go_ret
 exact R2.o
set_option maxHeartbeats 4000000 in
theorem zgH (k:Nat) (E:ES) (id n now:Int) (o:Out) (d:Value) (M S:Bl) (w:World) (h:EngR w M S k E) (hE:EOk E) (hdue:E.due.length≤1000000) (hd:∃ A l c,d=.slice A l c) (hk:o.kind=5) :
  Calls Tryz.prog 117 #[.pointer (some ⟨k,0,none⟩),.int .i64 id,.int .i64 n,.int .i64 now,outV o d] w (RetS M S k (out0 E id n o) (.bool true) vF w):=by
 obtain ⟨kd,ka,md,ma,mr,kh,hv,h⟩:=h
 have H:=hid h
 obtain ⟨e0,e1,e2,e3,e4,e5,e6,hkl⟩:=h.cells
 have HA:=hid (fun W (y:Gr w W)=>z6D 0 kh hv E.due (o.tick,id,n,o.ref,o.turn,o.kind) W (h.gr y).h hE.due hdue (Nat.zero_le _))
 unfold out0
 rw [if_neg (by omega),if_neg (by omega)]
 rcases o with ⟨ok,ol,or_,ot,oa,oi,on,od⟩
 obtain ⟨Ad,dl,cd,rfl⟩:=hd
 simp only at hk
 subst hk
 clear h
 simp only [outV,iv] at *
 have HAE:=hid (show addD E.due (oa,id,n,or_,ot,5)=addF E.due (oa,id,n,or_,ot,5) from rfl)
 rw [HAE.o]
 go_enter Tryz.func117,Tryz.ntmps117
 go_wp2_with fail
 have G1:=hid ((Gr.refl w).alloc (.cells #[.int .i64 5,.int .i64 ol,.int .i64 or_,.int .i64 ot,.int .i64 oa,.int .i64 oi,.int .i64 on,.slice Ad dl cd] 188))
 have HB1:=hid (heap_alloc_new w (.cells #[.int .i64 5,.int .i64 ol,.int .i64 or_,.int .i64 ot,.int .i64 oa,.int .i64 oi,.int .i64 on,.slice Ad dl cd] 188))
 obtain ⟨W1,hW1⟩:∃ W1,w.alloc (.cells #[.int .i64 5,.int .i64 ol,.int .i64 or_,.int .i64 ot,.int .i64 oa,.int .i64 oi,.int .i64 on,.slice Ad dl cd] 188)=W1:=⟨_,rfl⟩
 rw [hW1] at G1 HB1 ⊢
 clear hW1
 have hl1:w.heap.size<W1.heap.size:=block_lt HB1.o
 obtain ⟨b0,b1,b2,b3,b4⟩:W1.cell? ⟨w.heap.size,0,none⟩=some (.int .i64 5)∧W1.cell? ⟨w.heap.size,1,none⟩=some (.int .i64 ol)∧W1.cell? ⟨w.heap.size,2,none⟩=some (.int .i64 or_)∧W1.cell? ⟨w.heap.size,3,none⟩=some (.int .i64 ot)∧W1.cell? ⟨w.heap.size,4,none⟩=some (.int .i64 oa):=by
  refine ⟨?_,?_,?_,?_,?_⟩<;>simp [World.cell?,HB1.o]
 have f6:W1.cell? ⟨k,6,none⟩=some (.pointer (some ⟨kh,0,none⟩)):=(G1.o.cell (p:=⟨k,6,none⟩) hkl).trans e6
 have hk1:k<W1.heap.size:=Nat.lt_of_lt_of_le hkl G1.o.size
 refine z01 [(0,false),(1,false),(2,false),(3,false),(4,false),(5,false),(6,false),(7,false),(8,false),(9,false),(10,false),(11,false),(12,false),(13,false),(14,false),(15,true)] (fun W=>Gr W1 W) (by kernel_rfl) (by kernel_rfl) (fun _ _ d _ _ h=>by cases d<;>exact h) (Gr.refl W1).drew (fun _=>?_)
 iterate 15 (refine z03 (v:=?_) rfl (by rfl) ?_ ?_;rotate_left;(focus (intro W9 hW9;obtain ⟨x9,rfl⟩:∃ x:Ext W1,W9=x.val:=⟨⟨W9,hW9⟩,rfl⟩;go_simp;(try with_reducible rfl);done));(try simp only [AP]))
 refine z06 rfl (by rfl) (fun K hK=>?_)
 go_simp
 go_at_call 44
 refine (HA.o _ (G1.o.drew)).mono ?_
 intro en w2 hr
 have R2:=hid (((H.o.gr G1.o.drew).retDue (vok:=.bool true) (vfull:=vF) hr).grow G1.o.drew)
 obtain ⟨_,rfl,_⟩:=hr
 refine hK.o _ _ ?_
 clear hK K
 go_wp2_with fail
 go_ret
 exact R2.o
theorem z9Y (k:Nat) (E:ES) (id n now:Int) (o:Out) (d:Value) (M S:Bl) (w:World) (h:EngR w M S k E) (hE:EOk E) (hdue:E.due.length≤1000000) (hd:∃ A l c,d=.slice A l c) (hk:1≤o.kind∧o.kind≤5) :
  Calls Tryz.prog 117 #[.pointer (some ⟨k,0,none⟩),.int .i64 id,.int .i64 n,.int .i64 now,outV o d] w (RetS M S k (out0 E id n o) (.bool true) vF w):=by
 have hc:o.kind=1∨o.kind=2∨o.kind=3∨o.kind=4∨o.kind=5:=by omega
 rcases hc with hc | hc | hc | hc | hc
 ·exact zgD k E id n now o d M S w h hE hd hc
 ·exact zgE k E id n now o d M S w h hE hd hc
 ·exact zgF k E id n now o d M S w h hE hdue hd hc
 ·exact zgG k E id n now o d M S w h hE hdue hd hc
 ·exact zgH k E id n now o d M S w h hE hdue hd hc
def z4Y (step:ES→Out→Option ES):ES→List Out→Option ES
 | E,[]=>some E
 | E,o::r=>(step E o).bind fun E'=>z4Y step E' r
theorem z6p (id n:Int):∀ (l:List Out) (E:ES),z3h E id n l=z4Y (fun E o=>out0 E id n o) E l
 | [],_=>rfl
 | o::r,E=>by
  simp only [z3h,z4Y]
  congr 1
  funext E'
  exact z6p id n r E'
theorem z6q (id n now:Int):∀ (l:List Out) (E:ES),z2F E id n now l=z4Y (fun E o=>outE E id n now o) E l
 | [],_=>rfl
 | o::r,E=>by
  simp only [z2F,z4Y]
  congr 1
  funext E'
  exact z6q id n now r E'
theorem zgC {w:World} {M:Bl} {A:Option Addr} {n c i:Nat} {l:List Out} {o:Out} (h:z08 outR w M (.slice A n c) l) (ho:l[i]?=some o):∃ b off d,A=some ⟨b,off,none⟩∧b<w.heap.size∧¬ M b∧BysM w M d o.data ∧
  w.cell? ⟨b,off+i * 8,none⟩=some (.int .i64 o.kind)∧w.cell? ⟨b,off+i * 8+1,none⟩=some (.int .i64 o.list)∧w.cell? ⟨b,off+i * 8+2,none⟩=some (.int .i64 o.ref)∧w.cell? ⟨b,off+i * 8+3,none⟩=some (.int .i64 o.turn)∧w.cell? ⟨b,off+i * 8+4,none⟩=some (.int .i64 o.tick) ∧
  w.cell? ⟨b,off+i * 8+5,none⟩=some (.int .i64 o.id)∧w.cell? ⟨b,off+i * 8+6,none⟩=some (.int .i64 o.n)∧w.cell? ⟨b,off+i * 8+7,none⟩=some d:=by
 obtain ⟨b,off,v,h1,h2,h3,h4,h5⟩:=h.at_ (m:=7) (fun x=>ze3 x) ho
 exact ⟨b,off,v,h1,h2,h3,h4,h5 0 _ rfl,h5 1 _ rfl,h5 2 _ rfl,h5 3 _ rfl,h5 4 _ rfl,h5 5 _ rfl,h5 6 _ rfl,h5 7 _ rfl⟩
structure z0j (w:World) (M S:Bl) (w':World) (M' S':Bl):Prop where
 mod:Mod S w w'
 s:∀ b,b<w.heap.size→S' b→S b
 m:∀ b,b<w.heap.size→M' b→M b
 mm:∀ b,M b→M' b
section
variable {w w1 w2:World} {M M' M1 S S' S1:Bl} {k:Nat}
theorem z0j.refl (w:World) (M S:Bl):z0j w M S w M S:=⟨(Gr.refl w).mod S,fun _ _ e=>e,fun _ _ e=>e,fun _ e=>e⟩
theorem z0j.trans (h:z0j w M S w1 M1 S1) (k:z0j w1 M1 S1 w2 M' S'):z0j w M S w2 M' S' :=
 ⟨h.mod.trans k.mod h.s,fun b hb e=>h.s b hb (k.s b (Nat.lt_of_lt_of_le hb h.mod.size) e),fun b hb e=>h.m b hb (k.m b (Nat.lt_of_lt_of_le hb h.mod.size) e),fun b e=>k.mm b (h.mm b e)⟩
theorem z0j.gr (h:z0j w M S w1 M1 S1) (g:Gr w1 w2):z0j w M S w2 M1 S1:=h.trans ⟨g.mod _,fun _ _ e=>e,fun _ _ e=>e,fun _ e=>e⟩
theorem z0j.up (h:z0j w M S w1 M1 S1) (SM:∀ b,S b→M b):Up M w M1 w1:=⟨h.mod.mono fun b _ e=>SM b e,h.m⟩
theorem RetS.along {R:Option ES} {vok:Value} {vfull:Value→Prop} {en:Ending} (a:z0j w M S w1 M1 S1) (h:RetS M1 S1 k R vok vfull w1 en w2):RetS M S k R vok vfull w en w2:=h.after a.mod a.s a.m a.mm
theorem RetS.cases {R:Option ES} {vok:Value} {vfull:Value→Prop} {en:Ending} (h:RetS M S k R vok vfull w en w2) :
  (R=none∧∃ v,en=.returned v∧vfull v∧Mod S w w2)∨∃ E' M' S',R=some E'∧en=.returned vok∧EngR w2 M' S' k E'∧z0j w M S w2 M' S':=by
 obtain ⟨hm,h⟩:=h
 cases R with
 | none =>
  obtain ⟨v,e,hv⟩:=h
  exact .inl ⟨rfl,v,e,hv,hm⟩
 | some E' =>
  obtain ⟨e,M',S',h1,h2,h3,h4⟩:=h
  exact .inr ⟨E',M',S',rfl,e,h1,hm,h2,h3,h4⟩
theorem RetS.some_ {E:ES} {vok:Value} {vfull:Value→Prop} (a:z0j w M S w1 M1 S1) (h:EngR w1 M1 S1 k E):RetS M S k (some E) vok vfull w (.returned vok) w1:=RetS.along a (RetS.done h ((Gr.refl w1).mod _))
theorem RetS.none_ {vok v:Value} {vfull:Value→Prop} (a:z0j w M S w1 M1 S1) (m:Mod S1 w1 w2) (hv:vfull v):RetS M S k none vok vfull w (.returned v) w2:=RetS.along a (RetS.full m hv)
end
theorem zdA (p:Option Addr) (x y:Int) (w:World):(Instr.field 109 (.agg #[.pointer p,.int .i64 x,.int .i64 y]) 0).run Tryz.prog w=.ok (.pointer p) w:=by kernel_rfl
set_option maxHeartbeats 4000000 in
theorem z8h (Q:ES→Prop) (B:Nat) (hB:B≤1000000) (k:Nat) (E:ES) (id now:Int) (l:List Out) (v:Value) (M S:Bl) (w:World) (h:EngR w M S k E) (hE:EOk E) (r:RunS) (hr:lk E.runs id=some r) (hl:z08 outR w M v l) (hdue:E.due.length+l.length≤B) (hQ:Q E)
    (step:ES→Out→Option ES) (hnx:∀ E E' o,o∈l→EOk E→Q E→step E o=some E'→Nx 1 E E'∧Q E')
    (hout:∀ W M' S' E' o d,o∈l→EngR W M' S' k E'→EOk E'→Q E'→E'.due.length≤B→BysM W M' d o.data→Calls Tryz.prog 117 #[.pointer (some ⟨k,0,none⟩),.int .i64 id,.int .i64 r.f.run,.int .i64 now,outV o d] W (RetS M' S' k (step E' o) (.bool true) vF W)) :
    Calls Tryz.prog 77 #[.pointer (some ⟨k,0,none⟩),.int .i64 id,.int .i64 now,v] w (RetS M S k (z4Y step E l) (.bool true) vF w):=by
  have HENG:=hid h
  have HLT:=hid h.lt
  obtain ⟨kd,ka,md,ma,mr,kh,hv,hP⟩:=h
  obtain ⟨e0,e1,e2,e3,e4,e5,e6,hkl⟩:=hP.cells
  rcases hP.look id false with ⟨hn,_⟩ | ⟨r',kf,hr',hf,hlk⟩
  · rw [hr] at hn;cases hn
  rw [hr] at hr'
  injection hr' with hr'
  subst hr'
  have hlk0:=hlk w (Gr.refl w)
  obtain ⟨_,mb,_,hfr⟩:=hf
  have hfld:=zdA (some ⟨kf,0,none⟩) r.pf r.pr w
  have HRUN:=hid (z2S kf mb r.f M w hfr)
  obtain ⟨A,c,rfl,hlc⟩:=hl.shape
  have HL:=hid hl
  have HNX:=hid hnx
  have HOUT:=hid hout
  clear hP hlk hfr hl hnx hout hr
  simp only [runV,Bool.false_eq_true,if_false] at hlk0
  obtain ⟨X,hX⟩:∃ X,z4Y step E l=X:=⟨_,rfl⟩
  rw [hX]
  have HX:=hid hX
  clear hX
  go_enter Tryz.func77,Tryz.ntmps77
  go_wp2_with (go_at_call 63;refine HRUN.o.mono ?_;rintro en _ ⟨rfl,y1,rfl⟩)
  have HY:=hid y1.gr
  go_loopw [22] (fun iv wr=>∃ (i:Nat) (Ei:ES) (Mi Si:Bl),iv=.int .i64 i∧i≤l.length∧EngR wr Mi Si k Ei∧EOk Ei∧Q Ei∧z4Y step Ei (l.drop i)=X∧Ei.due.length≤E.due.length+i∧z0j w M S wr Mi Si) (fun iv _=>l.length-(intOf iv).toNat)
  case atStart=>exact ⟨0,E,M,S,rfl,Nat.zero_le _,HENG.o.gr HY.o,hE,hQ,by rw [List.drop_zero];exact HX.o,by omega,(z0j.refl w M S).gr HY.o⟩
  case round =>
    obtain ⟨i,Ei,Mi,Si,rfl,hi,heng,hok,hqi,hfold,hd,hal⟩:=hrel
    have HE:=hid heng
    have HAL:=hid hal
    have HLR:=hid (HL.o.up (hal.up HLT.o.2.1))
    have HF:=hid hfold
    clear heng hal hfold
    by_cases hlt:i<l.length
    · have hget:l[i]?=some l[i]:=List.getElem?_eq_getElem hlt
      have hmem:l[i]∈l:=List.getElem_mem hlt
      have hdrop:l.drop i=l[i]::l.drop (i+1):=List.drop_eq_getElem_cons hlt
      rw [hdrop] at HF
      obtain ⟨o,ho⟩:∃ o,l[i]=o:=⟨_,rfl⟩
      rw [ho] at hget hmem HF
      obtain ⟨b,off,d,rfl,hb,hMb,hdat,c0,c1,c2,c3,c4,c5,c6,c7⟩:=zgC HLR.o hget
      have HC:=hid (HOUT.o wr Mi Si Ei o d hmem HE.o hok hqi (by omega) hdat)
      have HG:=hid (fun W (g:Gr wr W)=>HOUT.o W Mi Si Ei o d hmem (HE.o.gr g) hok hqi (by omega) (hdat.up (Gr.up g Mi)))
      have HMEM:=hid hmem
      obtain ⟨Ad,cd,rfl⟩:=hdat.shape
      have hlz:(i:Int)<(l.length:Int):=by omega
      clear hdat ho hdrop hget hmem HC
      rcases o with ⟨ok_,ol,or_,ot,oa,oi,on,od⟩
      simp only [outV] at HG c0 c1 c2 c3 c4 c5 c6 c7
      generalize od.length=dl at *
      obtain ⟨R,hR⟩:∃ R,step Ei ⟨ok_,ol,or_,ot,oa,oi,on,od⟩=R:=⟨_,rfl⟩
      have HR:=hid hR
      rw [hR] at HG
      clear hR
      have G1:=hid ((Gr.refl wr).alloc (.cells #[.int .i64 ok_,.int .i64 ol,.int .i64 or_,.int .i64 ot,.int .i64 oa,.int .i64 oi,.int .i64 on,.slice Ad dl cd] 188))
      cases R with
      | none =>
        have HX0:=hid (show X=none by rw [← HF.o];simp only [z4Y,HR.o,Option.bind_none])
        go_wp2_with (go_at_call 117;go_loud ((refine (HG.o _ G1.o).mono ?_;intro en w2 hret;rcases (hret.grow G1.o).cases with ⟨_,v2,hen,hv2,hm2⟩ | ⟨E2,M2,S2,e2,_⟩;rotate_left;(cases e2);have hv2:v2=.bool false:=hv2;subst hv2;subst hen;have HM2:=hid hm2;clear hret hm2)))
        go_ret
        rw [HX0.o]
        exact RetS.none_ HAL.o HM2.o rfl
      | some E1 =>
        have HN1:=hid (HNX.o Ei E1 _ HMEM.o hok hqi HR.o)
        have HF1:=hid (show z4Y step E1 (l.drop (i+1))=X by rw [← HF.o];simp only [z4Y,HR.o,Option.bind_some])
        go_wp2_with (go_at_call 117
                     refine (HG.o _ G1.o).mono ?_
                     intro en w2 hret
                     obtain ⟨e2,_⟩ | ⟨E2,M2,S2,e2,rfl,heng2,hal2⟩:=(hret.grow G1.o).cases
                     · cases e2
                     injection e2 with e2
                     subst e2
                     have HE2:=hid heng2
                     have HA2:=hid hal2
                     clear hret heng2 hal2)
        go_roundw
        case rel=>exact ⟨i+1,E1,M2,S2,by go_num,by omega,HE2.o,HN1.o.1.ok hok,HN1.o.2,HF1.o,by have:=HN1.o.1.due;omega,HAL.o.trans HA2.o⟩
        case measure=>simp [intOf];omega
    · go_wp2_with fail
      go_ret
      have hnil:l.drop i=[]:=List.drop_eq_nil_of_le (by omega)
      have hx:=HF.o
      rw [hnil] at hx
      rw [← hx]
      exact RetS.some_ HAL.o HE.o
theorem ze4 (k:Nat) (E:ES) (id now:Int) (l:List Out) (v:Value) (M S:Bl) (w:World) (h:EngR w M S k E) (hE:EOk E) (r:RunS) (hr:lk E.runs id=some r) (hl:z08 outR w M v l) (hdue:E.due.length+l.length≤1000000)
  (step:ES→Out→Option ES) (hnx:∀ E E' o,o∈l→step E o=some E'→Nx 1 E E')
  (hout:∀ W M' S' E' o d,o∈l→EngR W M' S' k E'→EOk E'→E'.due.length≤1000000→BysM W M' d o.data→Calls Tryz.prog 117 #[.pointer (some ⟨k,0,none⟩),.int .i64 id,.int .i64 r.f.run,.int .i64 now,outV o d] W (RetS M' S' k (step E' o) (.bool true) vF W)) :
  Calls Tryz.prog 77 #[.pointer (some ⟨k,0,none⟩),.int .i64 id,.int .i64 now,v] w (RetS M S k (z4Y step E l) (.bool true) vF w) :=
 z8h (fun _=>True) 1000000 (Nat.le_refl _) k E id now l v M S w h hE r hr hl hdue trivial step (fun E E' o ho _ _ he=>⟨hnx E E' o ho he,trivial⟩) (fun W M' S' E' o d ho h1 h2 _ h3 h4=>hout W M' S' E' o d ho h1 h2 h3 h4)
theorem z0X {F:FS} {data:List UInt8} {now:Int} (h:z1L F data now=true):data.length≤4096∧0≤now∧now≤1099511627776:=by
 unfold z1L at h
 simp only [Bool.and_eq_true,decide_eq_true_eq] at h
 exact ⟨h.1.1.1,h.1.1.2,h.1.2⟩
end Go.Proofs.YtniknicnnaiilaaGreat
end
