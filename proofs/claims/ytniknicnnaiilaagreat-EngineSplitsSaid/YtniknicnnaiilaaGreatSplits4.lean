/- Lemmas of the engine. -/
import Derived.Test.YtniknicnnaiilaaGreatX06
import Derived.Test.YtniknicnnaiilaaGreatX10
import Derived.Test.YtniknicnnaiilaaGreatX30
import Derived.Test.YtniknicnnaiilaaGreatSplits2
import Derived.Test.YtniknicnnaiilaaGreatSplits3
section
namespace Go.Proofs.YtniknicnnaiilaaGreat
set_option maxRecDepth 100000
open Go.RowKit Go.Ext Go.BigFrame Go.Maps Go.MapKept
attribute [local go_sem] Ext.cell Ext.frozen Ext.lt Ext.le s1 s2 s3 s4 s5 s6 t1 t2 t3 t4 t5 t6
attribute [local go_sem ↓] Go.wp_at_zero Go.wp_at_succ
theorem MI.made (w:World):MI (w.alloc (.map #[] 0)) w.heap.size []:=⟨#[],0,heap_alloc_new w _,rfl,stamped_empty 0⟩
def zfW (m:Rows) (w:World) (e:Ending) (w':World):Prop:=∃ Bn Bw,e=.returned (.func (.func 130) #[] #[.pointer (some ⟨Bn,0,none⟩),.pointer (some ⟨Bw,0,none⟩)])∧Gr w w'∧AllR w' w.heap.size w'.heap.size Bn Bw m
structure AllW (w0 w:World) (m:Rows) (i:Nat) (kv:List (Int × Value)):Prop where
 g:Gr w0 w
 mi:MI w w0.heap.size kv
 was:∀ x∈(z1j m).take i,∃ A c,lk kv x=some (.slice A (rowOf m x).length c)∧RdM w (fun b=>b<w0.heap.size∨b=w0.heap.size) A (tksC (rowOf m x))
theorem zdn {w:World} {p:Addr} {u:Value} (h:w.cell? p=some u):p.block<w.heap.size:=by
 by_cases hb:p.block<w.heap.size
 ·exact hb
 ·exfalso
  unfold World.cell? at h
  rw [Array.getElem?_eq_none (by omega)] at h
  simp at h
theorem zfD {w:World} {lo:Nat} {A:Option Addr} {xs:List Value} (h:RdM w (fun b=>b<lo∨b=lo) A xs):RdM w (fun b=>b<lo∨w.heap.size≤b) A xs:=fun hn=>by
 obtain ⟨b,off,e,hM,hc⟩:=h hn
 refine ⟨b,off,e,fun e2=>?_,hc⟩
 rcases xs with _ | ⟨u,r⟩
 ·exact hn rfl
 ·have:=zdn (hc 0 u rfl)
  simp only [not_or] at hM
  rcases e2 with e2 | e2
  ·exact hM.1 e2
  ·dsimp only at this;omega
set_option maxHeartbeats 1000000 in
theorem z8E (v:Value) (l:List Task) (M:Bl) (w:World) (h:TsM w M v l) (hl:l.length≤100000) :
  Calls Tryz.prog 129 #[v] w (fun e w'=>∃ A c,e=.returned (.slice A l.length c)∧Gr w w'∧∀ M':Bl,(∀ b,M' b→b<w.heap.size)→RdM w' M' A (tksC l)):=by
 obtain ⟨A,c,rfl,hc,hr,hn⟩:=h
 obtain ⟨i0,hi0,hz0,hz1,hz2⟩:=info_parts zci
 have he:=fun (w:World) (n c n' c':Nat) (a:Option Addr)=>Lib.run_eql_slice_nil (P:=Tryz.prog) w 198 84 a n c n' c' Tryz.underlying198
 rcases A with _ | ad
 ·have hL:l=[]:=by
   have:=hn rfl
   exact List.eq_nil_of_length_eq_zero (by omega)
  subst hL
  have hc0:=hn rfl
  subst hc0
  go_enter Tryz.func129,Tryz.ntmps129
  go_wp2_with fail
  go_ret
  exact ⟨none,⟨0,rfl⟩,Gr.refl w,fun M' _=>RdM.nil _ _ _⟩
 ·have hr1:=hid (hr.rd.gr ((Gr.refl w).alloc (.cells #[] 84)))
  clear hr hn
  go_enter Tryz.func129,Tryz.ntmps129
  go_wp2_with (at_builtin;refine wpList_append_own _ rfl _ _ 198 rfl w.heap.size 84 i0 _ 4 32 Tryz.underlying198 hi0 hz0 hz1 hz2 rfl (by decide) (.slice (some ⟨w.heap.size,0,none⟩) 0 0) 0 [] rfl (World.ownsRow_made w #[] 0 (Nat.le_refl _) (by decide) rfl) ad l.length c (tksC l) rfl (z5c l) hr1.o.add (zaa l) (by unfold maxLen;omega) (by omega) (by simp) ?_;intro v1 w1 hown1 hg1 _)
  go_ret
  have hgr:Gr w w1:=z39 ((Gr.refl w).alloc _) hg1 (by intro k hk;simp [Value.ownBlock] at hk;omega)
  have ho:w1.ownsRow w.heap.size 84 4 v1 l.length (tksC l):=by simpa using hown1
  obtain ⟨A2,c2,rfl,_,_⟩:=z1c ho
  refine ⟨A2,c2,rfl,hgr,fun M' hM'=>Rd.m (Rd.of_own ho) ?_⟩
  rintro b off e _ hb2
  subst e
  rcases ho.2 with ⟨e,_⟩ | ⟨g',cap,cur,e,hb,_⟩
  ·cases e
  ·injection e with e
   injection e with e
   injection e with e
   have:=hM' _ hb2
   omega
set_option maxHeartbeats 4000000 in
theorem zb7 (k mb:Nat) (m:Rows) (M:Bl) (w:World) (h:z1e w M k mb m) (hm:∀ x∈m,KL x.1) (hn:m.length≤2000000) (hrow:∀ x,(rowOf m x).length≤100000):Calls Tryz.prog 90 #[.pointer (some ⟨k,0,none⟩)] w (zfW m w):=by
  have H:=hid h
  have hk:=h.lt.1
  have hkl:(z1j m).length=m.length:=by unfold z1j;rw [List.length_mergeSort,List.length_map]
  obtain ⟨len,hlen⟩:∃ k,(z1j m).length=k:=⟨_,rfl⟩
  have HLEN:=hid hlen
  have hl2:len≤2000000:=by omega
  have HNA:=hid (fun W (g:Gr w W)=>zcy k mb m M W (h.gr g) hm hn)
  have hmm:=@run_makeMap Tryz.prog
  clear h hkl hlen
  go_enter Tryz.func90,Tryz.ntmps90
  go_wp2_with (go_at_call 128
               go_loud (refine (HNA.o _ (((Gr.refl w).alloc (.map #[] 0)).alloc (.cells #[.map (some w.heap.size)] 133))).mono ?_)
               rintro en w2 ⟨An,cn,rfl,g2,hr2⟩
               rw [HLEN.o])
  have HG2:=hid ((((Gr.refl w).alloc (.map #[] 0)).alloc (.cells #[.map (some w.heap.size)] 133)).trans g2)
  have HS2:=hid (show w.heap.size+1<w2.heap.size by have:=g2.size;simp at this;omega)
  have HMI2:=hid (((MI.made w).gr ((Gr.refl _).alloc (.cells #[.map (some w.heap.size)] 133))).gr g2)
  have HB2:=hid (show w2.heap[w.heap.size+1]?=some (.cells #[.map (some w.heap.size)] 133 (0,0)) from (g2.block _ (by simp)).trans (by have:=heap_alloc_new (w.alloc (.map #[] 0)) (.cells #[.map (some w.heap.size)] 133);simpa using this))
  have HR2:=hid (hr2 (fun b=>b<w.heap.size∨b=w.heap.size) (fun b e=>by simp;omega))
  clear g2 hr2 HNA
  obtain ⟨w3,hw3,g3,hb3⟩:=z3u w2 (.cells #[.slice An len cn] 56)
  have G3:=hid g3
  have HB3:=hid hb3
  rw [hw3]
  clear hw3 g3 hb3
  generalize w2.heap.size=bn at *
  go_loopw [12] (fun iv wr=>∃ (i:Nat) (kv:List (Int × Value)),iv=.int .i64 i∧i≤len∧AllW w wr m i kv∧wr.heap[bn]?=some (.cells #[.slice An len cn] 56 (0,0))∧wr.heap[w.heap.size+1]?=some (.cells #[.map (some w.heap.size)] 133 (0,0))∧RdM wr (fun b=>b<w.heap.size∨b=w.heap.size) An ((z1j m).map (.int .i64))) (fun iv _=>len-(intOf iv).toNat)
  case atStart=>exact ⟨0,[],rfl,Nat.zero_le _,⟨HG2.o.trans G3.o,HMI2.o.gr G3.o,fun x hx=>by simp at hx⟩,HB3.o,(G3.o.block _ (block_lt HB2.o)).trans HB2.o,HR2.o.up (Gr.up G3.o _)⟩
  case round =>
    clear HG2 HMI2 HB2 HR2 HB3 G3
    obtain ⟨i,kv,rfl,hil,haw,hbn,hbw,hrn⟩:=hrel
    have HAW:=hid haw
    have HBN:=hid hbn
    have HBW:=hid hbw
    have HRN:=hid hrn
    by_cases hlt:i<len
    · have hlz:(i:Int)<(len:Int):=by omega
      obtain ⟨x,hx⟩:∃ x,(z1j m)[i]?=some x:=⟨_,List.getElem?_eq_getElem (by rw [HLEN.o];exact hlt)⟩
      obtain ⟨bo,offo,rfl,hMn,hcn⟩:=hrn (by intro e;have h1:=HLEN.o;rw [List.map_eq_nil_iff.1 e] at h1;simp at h1;omega)
      have x0:=hcn i (.int .i64 x) (by simp [hx])
      obtain ⟨A,c,hlk,hts⟩:=H.o.look x
      have HLK:=hid (fun W (g:Gr wr W)=>hlk W (haw.g.trans g))
      have HTS:=hid (fun W (g:Gr wr W)=>(hts.up (Gr.up (haw.g.trans g) M):TsM W M _ _))
      have HX:=hid hx
      have HRL:=hid (hrow x)
      have c1:=(H.o.gr haw.g).c1
      have hkw:=(H.o.gr haw.g).lt.1
      have y1:wr.cell? ⟨w.heap.size+1,0,none⟩=some (.map (some w.heap.size)):=by simp [World.cell?,hbw]
      have hbwl:=block_lt hbw
      obtain ⟨rl,hrl⟩:∃ k,(rowOf m x).length=k:=⟨_,rfl⟩
      have HRLE:=hid hrl
      rw [hrl] at HLK HTS HRL
      clear haw hbn hbw hrn hMn hcn hlk hts hx hrl
      go_upto_region 6 with fail
      clear x0
      refine z01 [(0,false),(1,false),(2,false),(3,false),(4,false),(5,false),(6,false),(7,false),(8,true),(9,true)] (fun W=>Gr wr W) (by kernel_rfl) (by kernel_rfl) (fun _ _ d _ _ h=>by cases d<;>exact h) (Gr.refl wr).drew (fun _=>?_)
      iterate 8 (refine z03 (v:=?_) rfl (by rfl) ?_ ?_;rotate_left;(focus (intro W9 hW9;have hl9:=HLK.o W9 hW9;obtain ⟨x9,rfl⟩:∃ x:Ext wr,W9=x.val:=⟨⟨W9,hW9⟩,rfl⟩;go_simp;(try with_reducible rfl);done));(try simp only [AP]))
      refine z05 rfl (by rfl) (fun K hK=>?_)
      go_simp
      go_at_call 129
      have hct:=z8E (.slice A rl c) (rowOf m x) M wr.drew (HTS.o _ (Gr.refl wr).drew) (by rw [HRLE.o];exact HRL.o)
      rw [HRLE.o] at hct
      refine hct.mono ?_
      clear hct
      rintro en w5 ⟨A5,c5,rfl,g5,h5⟩
      have G5:=hid (((Gr.refl wr).drew).trans g5)
      have HR5:=hid (h5 (fun b=>b<w.heap.size∨b=w.heap.size) (fun b e=>by have:=HAW.o.g.size;have:=hbwl;show b<wr.heap.size;omega))
      clear g5 h5
      refine hK.o (fun W=>Gr wr W) _ _ G5.o (fun _ g=>g) (fun _=>?_)
      clear hK K
      (try simp only [AP])
      refine z06 rfl (by rfl) (fun K hK=>?_)
      refine z0f _ _ _ _ 133 rfl 3 198 Tryz.underlying133 Tryz.underlying3 w.heap.size kv x (.slice A5 rl c5) (by rfl) (HAW.o.mi.gr G5.o) (by rfl) (by rfl) ?_
      intro w6 hmi6 hm6
      have HMI6:=hid hmi6
      have HM6:=hid hm6
      refine hK.o _ _ ?_
      clear hK K hmi6 hm6
      go_wp2_with fail
      go_roundw
      case rel =>
        have u5:Up (fun b=>b<w.heap.size∨b=w.heap.size) wr (fun b=>b<w.heap.size∨b=w.heap.size) w5:=Gr.up G5.o _
        have u6:Up (fun b=>b<w.heap.size∨b=w.heap.size) w5 (fun b=>b<w.heap.size∨b=w.heap.size) w6:=Mod.up HM6.o fun b _ e=>.inr e
        have hs5:=G5.o.size
        refine ⟨i+1,_,by go_num,by omega,⟨?_,HMI6.o,fun y hy=>?_⟩,?_,?_,(HRN.o.up u5).up u6⟩
        · exact z2c (HAW.o.g.trans G5.o) HM6.o fun b e=>Nat.le_of_eq e.symm
        · by_cases hyx:y=x
          · subst hyx
            exact ⟨A5,c5,by rw [z0g,HRLE.o],HR5.o.up u6⟩
          · rw [List.take_add_one,HX.o] at hy
            simp only [Option.toList_some,List.mem_append,List.mem_singleton] at hy
            rcases hy with hy | hy
            · obtain ⟨A7,c7,h7,h8⟩:=HAW.o.was y hy
              exact ⟨A7,c7,by rw [z0G _ _ hyx];exact h7,(h8.up u5).up u6⟩
            · exact absurd hy hyx
        · exact (HM6.o.block bn (Nat.lt_of_lt_of_le (block_lt HBN.o) hs5) (by show ¬ bn=w.heap.size;have:=HS2.o;omega)).trans ((G5.o.block _ (block_lt HBN.o)).trans HBN.o)
        · exact (HM6.o.block _ (Nat.lt_of_lt_of_le (block_lt HBW.o) hs5) (by show ¬ w.heap.size+1=w.heap.size;omega)).trans ((G5.o.block _ (block_lt HBW.o)).trans HBW.o)
      case measure =>
        simp [intOf]
        omega
    · have hlz:¬ (i:Int)<(len:Int):=by omega
      have HT:=hid (show (z1j m).take i=z1j m from List.take_of_length_le (by rw [HLEN.o];omega))
      clear haw hbn hbw hrn
      go_wp2_with fail
      go_ret
      have hsz:=HAW.o.g.size
      have hb1:=block_lt HBN.o
      have hb2:=block_lt HBW.o
      have hs2:=HS2.o
      have cv:∀ {A:Option Addr} {xs:List Value},RdM wr (fun b=>b<w.heap.size∨b=w.heap.size) A xs→RdM wr (fun b=>b<w.heap.size∨wr.heap.size≤b) A xs:=fun h=>zfD h
      refine ⟨bn,w.heap.size+1,rfl,HAW.o.g,⟨by omega,hb1⟩,⟨by omega,hb2⟩,Nat.le_refl _,⟨An,cn,by rw [HLEN.o];exact HBN.o,cv HRN.o⟩,w.heap.size,kv,⟨Nat.le_refl _,by omega⟩,HBW.o,HAW.o.mi,fun x hx=>?_⟩
      obtain ⟨A7,c7,h7,h8⟩:=HAW.o.was x (by rw [HT.o];exact hx)
      exact ⟨A7,c7,h7,cv h8⟩
end Go.Proofs.YtniknicnnaiilaaGreat
end
section
namespace Go.Proofs.YtniknicnnaiilaaGreat
set_option maxRecDepth 100000
open Go.RowKit Go.Ext Go.BigFrame Go.Maps Go.MapKept
attribute [local go_sem] Ext.cell Ext.frozen Ext.lt Ext.le s1 s2 s3 s4 s5 s6 t1 t2 t3 t4 t5 t6
attribute [local go_sem ↓] Go.wp_at_zero Go.wp_at_succ
open Go.Shelf
attribute [local go_sem] Oper.semAt_some
theorem z6E (m:Rows) (hrow:∀ x,(rowOf m x).length≤100000):(allT m).length≤100000 * m.length:=by
 have h:∀ l:List Int,(l.flatMap fun x=>(rowOf m x).map fun t=>(x,t)).length≤100000 * l.length:=by
  intro l
  induction l with
  | nil=>simp
  | cons x r ih =>
   have:=hrow x
   simp only [List.flatMap_cons,List.length_append,List.length_map,List.length_cons]
   omega
 have h2:=h (z1j m)
 have hkl:(z1j m).length=m.length:=by unfold z1j;rw [List.length_mergeSort,List.length_map]
 rw [hkl] at h2
 exact h2
theorem all_stops (n:Nat) (hn:1≤n) (lo hi Bn Bw:Nat) (m:Rows) (hm:m.length≤2000000) (hrow:∀ x,(rowOf m x).length≤100000) (w:World) (hA:AllR w lo hi Bn Bw m) :
  SeqStopsK Fence.wide n Tryz.prog 130 #[.pointer (some ⟨Bn,0,none⟩),.pointer (some ⟨Bw,0,none⟩)] encT (Kq lo hi) (fun ys=>ys=allT m) (fun pre=>pre <+: allT m) (allT m).length w:=fun l J Jx W hW hJ _ hY h0=>by
 refine (zeJ n hn l lo hi Bn Bw m hm J Jx hY (fun pre W' o h=>hJ pre W' _ none h (World.grownBy_alloc W' o none) (fun r e=>by cases e)) W (hA.kq (Gr.mod hW _)) h0 hrow).mono ?_
 rintro e W' ⟨hv,h | ⟨pre,h1,h2⟩⟩
 ·exact ⟨hv,.inl ⟨_,rfl,h⟩⟩
 ·exact ⟨hv,.inr ⟨pre,h1,h2⟩⟩
set_option maxHeartbeats 4000000 in
theorem zbm (k mb:Nat) (m:Rows) (M:Bl) (w:World) (h:z1e w M k mb m) (hm:∀ x∈m,KL x.1) (hn:m.length≤2000000) (hrow:∀ x,(rowOf m x).length≤100000) :
  Calls Tryz.prog 89 #[.pointer (some ⟨k,0,none⟩)] w (RetE (.int .i64 (allT m).length) w):=by
 have HA:=hid (zb7 k mb m M (w.alloc (.cells #[.int .i64 0] 3)) (h.gr ((Gr.refl w).alloc _)) hm hn hrow)
 have HLEN:=hid (z6E m hrow)
 clear h
 refine retE ?_
 refine (callsIn_wide (n:=10)).1 ?_
 refine callsIn_of_wp_marks Tryz.func89 rfl trivial ?_ rfl
 simp only [Tryz.ntmps89,List.size_toArray,List.length_cons,List.length_nil,Nat.reduceAdd,Nat.reduceSub,Array.replicate_succ,Array.replicate_zero,List.push_toArray,List.append_toArray,List.nil_append,List.cons_append]
 gi_wp2_with (refine ⟨trivial,?_⟩;gi_at_call 90;refine (callsIn_wide.2 HA.o).mono ?_;rintro e w2 ⟨Bn,Bw,rfl,g2,hall⟩)
 have hb0:=(g2.block w.heap.size (by simp)).trans (heap_alloc_new w (.cells #[.int .i64 0] 3))
 have hz:=g2.size
 simp at hz
 have hlo:(w.alloc (.cells #[.int .i64 0] 3)).heap.size=w.heap.size+1:=by simp
 rw [hlo] at hall
 refine wpIn_rangeFunc_ownF rfl (by decide) (gf:=130) (lb:=#[.pointer (some ⟨Bn,0,none⟩),.pointer (some ⟨Bw,0,none⟩)]) rfl trivial (enters_of Tryz.func130 (by kernel_rfl) rfl)
  (all_stops _ (by decide) (w.heap.size+1) w2.heap.size Bn Bw m hn hrow w2 hall) Kq.trans (kq_b (Nat.le_refl _)) (Below.refl _ _) (fun _=>rfl)
  (fun pre W=>(Boxed W w.heap.size 3 (.int .i64 pre.length)∧pre.length≤(allT m).length)∧Below w.heap.size w W) (fun _ _ _=>False)
  (OwnFrom.and (OwnFrom.and ((boxed_own _ _ _).from _) (ownFrom_pure _ _)) (ownFrom_below (Nat.le_refl _) (by omega)))
  (fun _ _ _ _ _ hs _ _=>hs) ?h0 (fun x=>{ tmps:=#[.pointer (some ⟨k,0,none⟩),undef,.int .i64 0,.pointer (some ⟨w.heap.size,0,none⟩),.pointer (some ⟨k,0,none⟩),.func (.func 130) #[] #[.pointer (some ⟨Bn,0,none⟩),.pointer (some ⟨Bw,0,none⟩)],.int .i64 x.1,tkV x.2,undef,undef,undef],defers:=[] }) ?assign ?body ?done ?stop
 case h0=>exact ⟨⟨hb0,Nat.zero_le _⟩,((Gr.refl w).alloc _).trans g2⟩
 case assign =>
  intro l x W K hK
  dsimp only [encT]
  gi_wp2
  simpa using hK
 case body =>
  rintro l pre x W ⟨⟨hb,hl⟩,hB⟩ hlt
  have hc:=hb.cell
  have hf:=hb.frozen
  have hcl:=hb.lt
  have hw:IntKind.i64.wrap ((pre.length:Int)+1)=(pre.length:Int)+1:=IntWalk.i64_in _ (by have:=HLEN.o;omega)
  gi_wp2
  have hlen:((pre++[x]).length:Int)=(pre.length:Int)+1:=by simp
  refine ⟨KeepsOthers.setCell _ _ _,((Gr.refl W).mod _).set (p:=⟨w.heap.size,0,none⟩) (fun _=>.inl (Nat.lt_succ_self _)) _,⟨⟨?_,by simp;omega⟩,hB.setCell (p:=⟨w.heap.size,0,none⟩) (Nat.le_refl _) _⟩⟩
  rw [hlen]
  exact hb.set _
 case done =>
  rintro D ys W hD rfl ⟨⟨hb,hl⟩,hB⟩ hK
  have hc:=hb.cell
  have hcl:=hb.lt
  gi_wp2
  refine ⟨by simp,.inl ⟨_,_,rfl,run_takeDeferred hK,?_⟩⟩
  exact ⟨_,results_tmp rfl _ _ _,rfl,Below.trans hB (belowK_b (w:=w) (n₀:=w.heap.size) (Nat.le_refl _) W D _ _ (by omega) hK rfl rfl)⟩
 case stop =>
  rintro D c pre W _ _ h _
  exact h.elim
def zeZ (x:Int × Task):List UInt8:=z1A [x.1,x.2.flow,x.2.run,x.2.ref,x.2.turn]
def z66 (l:List (Int × Task)):List UInt8:=l.flatMap zeZ
def encR (m:Rows):List UInt8:=z1A [((allT m).length:Int)]++z66 (allT m)
theorem z7M (l:List (Int × Task)):(z66 l).length≤50 * l.length:=by
 induction l with
 | nil=>simp [z66]
 | cons x r ih =>
  have:=z0Y [x.1,x.2.flow,x.2.run,x.2.ref,x.2.turn]
  simp only [z66,List.flatMap_cons,List.length_append,List.length_cons,zeZ,List.length_nil] at *
  omega
theorem zbC (l:List (Int × Task)) (x:Int × Task):z66 (l++[x])=z66 l++zeZ x:=by simp [z66]
def PutI (w0:World) (lo hi b Bq:Nat) (bs:List UInt8) (pre:List (Int × Task)) (W:World):Prop :=
 (∃ S,Wn w0 W S b (bs++z66 pre)∧(∀ k,S k→k<lo∨hi≤k)∧¬ S Bq)∧Boxed W Bq 110 (.pointer (some ⟨b,0,none⟩))∧hi≤W.heap.size
theorem ze9 (w0:World) (lo hi b Bq:Nat) (bs:List UInt8) (B:Nat) (hB:w0.heap.size≤B):OwnFrom B (fun pre W=>PutI w0 lo hi b Bq bs pre W):=fun pre W W' row ⟨⟨S,h1,h2,h3⟩,h4,h5⟩ hg hr=>by
 refine ⟨⟨S,h1.grown hg fun r e=>⟨Nat.le_trans hB (hr r e).1,(hr r e).2⟩,h2,h3⟩,h4.kept hg fun e=>?_,Nat.le_trans h5 hg.size⟩
 obtain ⟨_,o,h6,h7⟩:=hr Bq e.symm
 rw [show W.heap[Bq]?=_ from h4] at h6
 injection h6 with h6
 subst h6
 cases h7
theorem PutI.gr {w0 W W':World} {lo hi b Bq:Nat} {bs:List UInt8} {pre:List (Int × Task)} (h:PutI w0 lo hi b Bq bs pre W) (g:Gr W W'):PutI w0 lo hi b Bq bs pre W':=by
 obtain ⟨⟨S,h1,h2,h3⟩,h4,h5⟩:=h
 exact ⟨⟨S,h1.gr g,h2,h3⟩,(g.block _ h4.lt).trans h4,Nat.le_trans h5 g.size⟩
def PutA (hi:Nat) (a0:Int × Task→Nat→Act) (x:Int × Task) (a':Act) (W:World):Prop :=
 ∃ Bx,hi≤Bx∧W.heap[Bx]?=some (.cells #[.int .i64 x.2.flow,.int .i64 x.2.run,.int .i64 x.2.ref,.int .i64 x.2.turn] 84 (0,0))∧a'=a0 x Bx
theorem ze6 (hi:Nat) (a0:Int × Task→Nat→Act) (x:Int × Task) (a':Act) (B:Nat):OwnFrom B (fun (_:Unit) W=>PutA hi a0 x a' W):=fun _ W W' row ⟨Bx,h1,h2,h3⟩ hg hr=>by
 refine ⟨Bx,h1,(hg.block Bx (block_lt h2) fun e=>?_).trans h2,h3⟩
 obtain ⟨_,o,h6,h7⟩:=hr Bx e.symm
 rw [h2] at h6
 injection h6 with h6
 subst h6
 cases h7
set_option maxHeartbeats 4000000 in
theorem za3 (k mb:Nat) (m:Rows) (M:Bl) (w0 w:World) (S:Bl) (b:Nat) (bs:List UInt8) (hW:Wn w0 w S b bs) (h:z1e w0 M k mb m) (hm:∀ x∈m,KL x.1) (hn:m.length≤10000) (hrow:∀ x,(rowOf m x).length≤100000) (hbs:bs.length≤100000000000000) :
    Calls Tryz.prog 54 #[.pointer (some ⟨b,0,none⟩),.pointer (some ⟨k,0,none⟩)] w (fun e w'=>e=.returned (.tuple #[])∧∃ S',Wn w0 w' S' b (bs++encR m)):=by
  have HN:=hid (fun W (g:Gr w0 W)=>zbm k mb m M W (h.gr g) hm (by omega) hrow)
  have HA:=hid (fun W (g:Gr w0 W)=>zb7 k mb m M W (h.gr g) hm (by omega) hrow)
  have HLEN:=hid (show (allT m).length≤1000000000 from Nat.le_trans (z6E m hrow) (by omega))
  have HW:=hid hW
  have HBS:=hid hbs
  have HM:=hid (And.intro hn hrow)
  obtain ⟨cnt,hcnt⟩:∃ c,(allT m).length=c:=⟨_,rfl⟩
  have HCNT:=hid hcnt
  clear h hW hm hn hrow hbs
  refine (callsIn_wide (n:=10)).1 ?_
  refine callsIn_of_wp_marks Tryz.func54 rfl trivial ?_ rfl
  simp only [Tryz.ntmps54,List.size_toArray,List.length_cons,List.length_nil,Nat.reduceAdd,Nat.reduceSub,Array.replicate_succ,Array.replicate_zero,List.push_toArray,List.append_toArray,List.nil_append,List.cons_append]
  refine wpIn_wide.2 ?_
  rw [hcnt] at HN HLEN
  clear hcnt
  go_upto_region 1 with fail
  obtain ⟨w1,hw1,g1,hb1⟩:=z3u w (.cells #[.pointer (some ⟨b,0,none⟩)] 110)
  have G1:=hid g1
  have HB1:=hid hb1
  have HQ:=hid (show ¬ S w.heap.size from fun e=>Nat.lt_irrefl _ (HW.o.lt _ e))
  rw [hw1]
  have hq0:w1.cell? ⟨w.heap.size,0,none⟩=some (.pointer (some ⟨b,0,none⟩)):=by simp [World.cell?,hb1]
  have hql:=block_lt hb1
  clear hw1 g1 hb1
  have HW1:=hid (HW.o.gr G1.o)
  clear HW
  generalize w.heap.size=Bq at *
  refine wp_region_noPanic ?_
  refine z01 [(0,false),(1,false),(2,true),(3,true),(4,true)] (fun W=>Gr w1 W) (by kernel_rfl) (by kernel_rfl) (fun _ _ _ _ _ h=>h) (Gr.refl w1).drew (fun _=>?_)
  iterate 2 (refine z03 (v:=?_) rfl (by rfl) ?_ ?_;rotate_left;(focus (intro W9 hW9;obtain ⟨x9,rfl⟩:∃ x:Ext w1,W9=x.val:=⟨⟨W9,hW9⟩,rfl⟩;go_simp;(try with_reducible rfl);done));(try simp only [AP]))
  clear hq0 hql
  refine z05 rfl (by rfl) (fun K hK=>?_)
  go_simp
  go_at_call 89
  refine (HN.o _ (HW1.o.gr (Gr.refl w1).drew).g).mono ?_
  rintro en _ ⟨rfl,y2,rfl⟩
  have G2:=hid ((Gr.refl w1).drew.trans y2.gr)
  refine hK.o (fun W=>Gr w1 W) _ _ G2.o (fun _ g=>g) (fun _=>?_)
  clear hK K
  (try simp only [AP])
  refine z05 rfl (by rfl) (fun K hK=>?_)
  go_simp
  refine hK.o (fun W=>Gr w1 W) _ _ (G2.o.alloc _) (fun _ g=>g) (fun _=>?_)
  clear hK K
  (try simp only [AP])
  obtain ⟨w3,hw3,g3,hb3⟩:=z3u y2.val (.cells #[.int .i64 cnt] 3)
  rw [hw3]
  have HW3:=hid ((HW1.o.gr G2.o).gr g3)
  have HB3:=hid hb3
  have HNS:=hid (show ¬ S y2.val.heap.size from fun e=>by have:=(HW1.o.gr G2.o).lt _ e;omega)
  have HBQ3:=hid (show w3.heap[Bq]?=_ from ((G2.o.trans g3).block Bq (block_lt HB1.o)).trans HB1.o)
  clear hw3 g3 hb3 HB1
  generalize y2.val.heap.size=bl at *
  refine z06 rfl (by rfl) (fun K hK=>?_)
  go_simp
  go_at_call 51
  refine (Wn.numbers' HW3.o (t:=3) [(cnt:Int)] HB3.o HNS.o 1 (by have:=HBS.o;simp;omega)).mono ?_
  rintro en w4 ⟨rfl,S4,h4,u4⟩
  have HW4:=hid h4
  have HQ4:=hid (show ¬ S4 Bq from fun e=>HQ.o (u4.old Bq (block_lt HBQ3.o) e))
  have HBQ4:=hid (show w4.heap[Bq]?=_ from (u4.block (block_lt HBQ3.o) HQ.o).trans HBQ3.o)
  refine hK.o _ _ ?_
  clear hK K h4 u4 HBQ3 HNS HB3 HW3 HN HQ HW1
  dsimp only [NoPanic]
  go_wp2_with (go_at_call 90
               go_loud (refine (HA.o _ HW4.o.g).mono ?_)
               rintro en w5 ⟨Bn,Bw,rfl,g5,hall⟩)
  have HW5:=hid (HW4.o.gr g5)
  have HALL:=hid hall
  have HBQ5:=hid (show w5.heap[Bq]?=_ from (g5.block Bq (block_lt HBQ4.o)).trans HBQ4.o)
  have HI:=hid (show PutI w0 w4.heap.size w5.heap.size b Bq (bs++z1A [(cnt:Int)]) [] w5 from ⟨⟨S4,by simpa [z66] using HW5.o,fun k e=>.inl (HW4.o.lt k e),HQ4.o⟩,HBQ5.o,Nat.le_refl _⟩)
  clear g5 hall HBQ4 HBQ5
  refine (wpIn_wide (n:=10)).1 ?_
  refine wpIn_rangeFunc_ownH rfl (by decide) (gf:=130) (lb:=#[.pointer (some ⟨Bn,0,none⟩),.pointer (some ⟨Bw,0,none⟩)]) rfl trivial (enters_of Tryz.func130 (by kernel_rfl) rfl)
    (all_stops _ (by decide) w4.heap.size w5.heap.size Bn Bw m (by have:=HM.o.1;omega) HM.o.2 w5 HALL.o) Kq.trans (kq_b (Nat.le_refl _)) (Below.refl _ _) (fun _=>rfl)
    (fun pre W=>PutI w0 w4.heap.size w5.heap.size b Bq (bs++z1A [(cnt:Int)]) pre W) (fun _ _ _=>False)
    (ze9 _ _ _ _ _ _ _ HW5.o.g.size)
    (fun _ _ _ _ _ hs _ _=>hs) HI.o (PutA w5.heap.size fun x Bx=>{ tmps:=#[.pointer (some ⟨b,0,none⟩),.pointer (some ⟨k,0,none⟩),.pointer (some ⟨Bq,0,none⟩),undef,.int .i64 x.1,.pointer (some ⟨Bx,0,none⟩),.pointer (some ⟨b,0,none⟩),.pointer (some ⟨k,0,none⟩),.int .i64 cnt,.slice (some ⟨bl,0,none⟩) 1 1,.pointer (some ⟨b,0,none⟩),.pointer (some ⟨k,0,none⟩),.func (.func 130) #[] #[.pointer (some ⟨Bn,0,none⟩),.pointer (some ⟨Bw,0,none⟩)],.int .i64 x.1,tkV x.2,undef,undef,undef,undef,undef,undef,undef,undef,undef,undef,undef,undef],defers:=[] })
    (fun x a'=>ze6 _ _ x a' _) ?assign ?body ?done ?stop
  case assign =>
    rintro l pre ⟨x,⟨tf,tr,te,tt⟩⟩ W K hi hK
    dsimp only [encT,tkV]
    gi_wp2
    exact hK _ _ ((KeepsOthers.alloc _ _).from _) (((Gr.refl W).alloc _).mod _) (hi.gr ((Gr.refl W).alloc _)) ⟨W.heap.size,hi.2.2,heap_alloc_new W _,rfl⟩
  case body =>
    rintro l pre ⟨x,⟨tf,tr,te,tt⟩⟩ a' W hlo ⟨r,hr⟩ ⟨⟨S5,h5,hs5,hq5⟩,hbq,htop⟩ ⟨Bx,hBx,hbx,rfl⟩ hlt
    dsimp only at hbx
    have hc:=hbq.cell
    have hcl:=hbq.lt
    have x0:W.cell? ⟨Bx,0,none⟩=some (.int .i64 tf):=by simp [World.cell?,hbx]
    have x1:W.cell? ⟨Bx,1,none⟩=some (.int .i64 tr):=by simp [World.cell?,hbx]
    have x2:W.cell? ⟨Bx,2,none⟩=some (.int .i64 te):=by simp [World.cell?,hbx]
    have x3:W.cell? ⟨Bx,3,none⟩=some (.int .i64 tt):=by simp [World.cell?,hbx]
    have hxl:=block_lt hbx
    have H5:=hid h5
    have HSQ:=hid (And.intro hs5 hq5)
    have HBQ:=hid hbq
    have HTOP:=hid htop
    have HLT:=hid hlt
    have HC:=hid (Wn.numbers h5 ((Gr.refl W).alloc (.cells #[.int .i64 x,.int .i64 tf,.int .i64 tr,.int .i64 te,.int .i64 tt] 3)) (B:=W.heap.size) (t:=3) [x,tf,tr,te,tt] (heap_alloc_new W _) (Nat.le_refl _) 5 (by
      have h1:=z7M pre
      have h2:=z0Y [(cnt:Int)]
      have h3:=HBS.o
      have h4:=HLEN.o
      have h6:=HCNT.o
      simp only [List.length_append,List.length_cons,List.length_nil] at *
      omega))
    clear h5 hs5 hq5 hbq htop hlt hr hbx
    gi_wp2_with (refine ⟨trivial,?_⟩;gi_at_call 51;refine (CallsIn.inRound l (callsIn_wide.2 HC.o)).mono ?_;rintro e w7 ⟨rfl,S7,h7,u7⟩)
    have g:=(Gr.refl W).alloc (.cells #[.int .i64 x,.int .i64 tf,.int .i64 tr,.int .i64 te,.int .i64 tt] 3)
    have hgs:=g.size
    have hts:=HTOP.o
    refine ⟨(H5.o.keeps g u7).from _,Mod.trans (g.mod _) u7.mod fun k hk e=>HSQ.o.1 k e,⟨S7,?_,fun k e=>?_,fun e=>HSQ.o.2 (u7.old Bq (Nat.lt_of_lt_of_le hcl hgs) e)⟩,(u7.block (Nat.lt_of_lt_of_le hcl hgs) HSQ.o.2).trans ((g.block Bq hcl).trans HBQ.o),Nat.le_trans hts (Nat.le_trans hgs u7.size)⟩
    · rw [zbC,← List.append_assoc]
      exact h7
    · by_cases hk:k<(W.alloc (.cells #[.int .i64 x,.int .i64 tf,.int .i64 tr,.int .i64 te,.int .i64 tt] 3)).heap.size
      · exact HSQ.o.1 k (u7.old k hk e)
      · exact .inr (by omega)
  case done =>
    rintro D ys W hD rfl ⟨⟨S6,h6,-,-⟩,-,-⟩ hK
    have H6:=hid h6
    clear h6
    gi_wp2
    refine ⟨by simp,.inl ⟨_,_,rfl,run_takeDeferred hK,?_⟩⟩
    refine ⟨_,results_none rfl _ _ _,rfl,S6,?_⟩
    have h7:=H6.o.grown (grownBy_putObj' W D (.deferred none)) fun r e=>by
      cases e
      exact ⟨Nat.le_trans HW5.o.g.size hD,_,hK,rfl⟩
    have h8:encR m=z1A [(cnt:Int)]++z66 (allT m):=by rw [← HCNT.o];rfl
    rw [h8,← List.append_assoc]
    exact h7
  case stop =>
    rintro D c pre W _ _ h _
    exact h.elim
end Go.Proofs.YtniknicnnaiilaaGreat
end
section
namespace Go.Proofs.YtniknicnnaiilaaGreat
set_option maxRecDepth 100000
open Go.RowKit Go.Ext Go.BigFrame Go.Maps Go.MapKept
attribute [local go_sem] Ext.cell Ext.frozen Ext.lt Ext.le s1 s2 s3 s4 s5 s6 t1 t2 t3 t4 t5 t6
attribute [local go_sem ↓] Go.wp_at_zero Go.wp_at_succ
set_option maxHeartbeats 1000000 in
theorem z8D (A:Option Addr) (c:Nat) (L:List It) (w:World) (hr:Row w A L) (hn:A=none→c=0) (hl:L.length≤1000000) :
  Calls Tryz.prog 85 #[.slice A L.length c] w (fun e w'=>∃ A' c',e=.returned (.slice A' L.length c')∧Gr w w'∧∀ M:Bl,(∀ b,M b→b<w.heap.size)→RdM w' M A' (cs6 L)):=by
 obtain ⟨i0,hi0,hz0,hz1,hz2⟩:=info_parts z5E
 have he:=fun (w:World) (n c n' c':Nat) (a:Option Addr)=>Lib.run_eql_slice_nil (P:=Tryz.prog) w 115 92 a n c n' c' Tryz.underlying115
 rcases A with _ | ad
 ·have hL:L=[]:=by
   by_cases h0:L=[]
   ·exact h0
   ·obtain ⟨_,_,e,_⟩:=hr h0;cases e
  subst hL
  have hc0:=hn rfl
  subst hc0
  go_enter Tryz.func85,Tryz.ntmps85
  go_wp2_with fail
  go_ret
  exact ⟨none,⟨0,rfl⟩,Gr.refl w,fun M _=>RdM.nil _ _ _⟩
 ·have hnews:∀ W,Gr w W→∀ j u,(cs6 L)[j]?=some u→W.cell? (ad.add j)=some u:=by
   intro W g j u hu
   have hj:=(List.getElem?_eq_some_iff.1 hu).1
   rw [z0l] at hj
   obtain ⟨b,off,e,hc⟩:=(hr.gr g) (by rintro rfl;simp at hj)
   injection e with e
   subst e
   have e2:j=j / 6 * 6+j % 6:=by omega
   rw [e2,z4d L (j / 6) (j % 6) (by omega) (Nat.mod_lt _ (by omega))] at hu
   have:=hc (j / 6) (by omega) (j % 6) u hu
   rw [Addr.add_lit,e2,← Nat.add_assoc]
   exact this
  have HN:=hid hnews
  clear hr hn hnews
  go_enter Tryz.func85,Tryz.ntmps85
  go_wp2_with (at_builtin;refine wpList_append_own _ rfl _ _ 115 rfl w.heap.size 92 i0 _ 6 48 Tryz.underlying115 hi0 hz0 hz1 hz2 rfl (by decide) (.slice (some ⟨w.heap.size,0,none⟩) 0 0) 0 [] rfl (World.ownsRow_made w #[] 0 (Nat.le_refl _) (by decide) rfl) ad L.length c (cs6 L) rfl (z0l L) (HN.o _ ((Gr.refl w).alloc _)) (z4G L) (by unfold maxLen;omega) (by omega) (by simp) ?_;intro v1 w1 hown1 hg1 _)
  go_ret
  have hgr:Gr w w1:=z39 ((Gr.refl w).alloc _) hg1 (by intro k hk;simp [Value.ownBlock] at hk;omega)
  have ho:w1.ownsRow w.heap.size 92 6 v1 L.length (cs6 L):=by simpa using hown1
  obtain ⟨A2,c2,rfl,_,_⟩:=z1c ho
  refine ⟨A2,c2,rfl,hgr,fun M hM=>Rd.m (Rd.of_own ho) ?_⟩
  rintro b off e _ hb2
  subst e
  rcases ho.2 with ⟨e,_⟩ | ⟨g',cap,cur,e,hb,_⟩
  ·cases e
  ·injection e with e
   injection e with e
   injection e with e
   have:=hM _ hb2
   omega
theorem zct (base g:Nat) (v:Value) (L:List It) (w:World) (h:HB base w g v L) (hl:L.length≤1000000) :
  Calls Tryz.prog 55 #[.pointer (some ⟨g,0,none⟩)] w (fun e w'=>∃ A' c',e=.returned (.slice A' L.length c')∧Gr w w'∧∀ M:Bl,(∀ b,M b→b<w.heap.size)→RdM w' M A' (cs6 L)):=by
 obtain ⟨A,cp,rfl⟩:=h.shape
 have c0:=h.c0
 have hlt:=h.lt
 have hn:A=none→cp=0:=by
  rintro rfl
  rcases h.row.2 with ⟨e,_⟩ | ⟨g',cap,cur,e,_⟩
  ·injection e with _ _ e
  ·cases e
 have HC:=hid (z8D A cp L w (h.arow rfl) hn hl)
 obtain ⟨len,hlen⟩:∃ k,L.length=k:=⟨_,rfl⟩
 rw [hlen] at HC c0 ⊢
 clear h hlen
 go_enter Tryz.func55,Tryz.ntmps55
 go_wp2_with (go_at_call 85;refine HC.o.mono ?_;rintro e w2 ⟨A2,c2,rfl,g2,h2⟩)
 go_ret
 exact ⟨A2,c2,rfl,g2,h2⟩
def encF (F:FS):List UInt8:=z1A [F.id,F.run]++encB (z7L F.l)
theorem z6Q {F:FS} (hd:∀ e∈F.l,e.data.length≤4096):(encF F).length≤40+4166 * F.l.length:=by
 have h1:=z0Y [F.id,F.run]
 have h2:=z6P (z7L F.l)
 have h3:=z5o hd
 simp only [encF,List.length_append,List.length_cons,List.length_nil] at *
 omega
theorem z08.free {α:Type} {r:α→List Int × List UInt8} {w:World} {M:Bl} {v:Value} {xs:List α} (h:z08 r w M v xs):z08 r w (fun _=>False) v xs:=h.up ⟨(Gr.refl w).mod M,fun _ _ e=>e.elim⟩
set_option maxHeartbeats 8000000 in
theorem zdw (k mb:Nat) (F:FS) (M:Bl) (w:World) (h:z0H w M k mb F) (hl:F.l.length≤100000) (hd:∀ e∈F.l,e.data.length≤4096):Calls Tryz.prog 53 #[.pointer (some ⟨k,0,none⟩)] w (RetB (encF F) w):=by
 obtain ⟨A,c,hc,hf,hr,hk⟩:=h.parts
 obtain ⟨c0,c1,_,_,c4,_,_,_,_,_,_,_⟩:=hf
 have HS:=hid (fun W (y:Gr w W)=>zbA A c F.l W (hr.free.up (Gr.up y _)) hl hd)
 have HC:=hid (fun W (y:Gr w W)=>(⟨(y.cell (p:=⟨k,0,none⟩) hk).trans c0,(y.cell (p:=⟨k,1,none⟩) hk).trans c1,(y.cell (p:=⟨k,4,none⟩) hk).trans c4,Nat.lt_of_lt_of_le hk y.size⟩:W.cell? ⟨k,0,none⟩=_∧W.cell? ⟨k,1,none⟩=_∧W.cell? ⟨k,4,none⟩=_∧k<W.heap.size))
 have HL:=hid (z6Q hd)
 have HLF:=hid hl
 have HV:=hid (z5o hd)
 have HE:=hid (show encF F=[]++z1A [F.id,F.run]++encB (z7L F.l) from rfl)
 obtain ⟨len,hn⟩:∃ n,F.l.length=n:=⟨_,rfl⟩
 have HN:=hid hn
 rw [hn] at HC HS
 clear h hc hr hd hl hn c0 c1 c4
 obtain ⟨c0,c1,c4,_⟩:=HC.o w (Gr.refl w)
 go_enter Tryz.func53,Tryz.ntmps53
 go_upto_region 1 with fail
 clear c0 c1 c4
 refine z1i [1,2,3,4,5,6,7,8,11,12,13,14] 7 (fun W=>Gr w W) (by kernel_rfl) (by kernel_rfl) (fun _ _ d _ _ h=>by cases d<;>exact h) (Gr.refl w).drew (fun _=>?_)
 iterate 12 (refine z3x (v:=?_) rfl (by rfl) ?_ ?_;rotate_left;(focus (intro W9 hW9;obtain ⟨x0,x1,x4,xk⟩:=HC.o W9 hW9;go_simp;(try with_reducible rfl);done));(try simp only [AP]))
 intro hcl
 refine z1X hcl (i:=0) (j:=9) (by kernel_rfl) (fun hcl1=>?one) (fun hcl1=>?two)
 case' one =>
  refine z0N rfl (by rfl) (fun K hK=>?_)
  go_simp
  go_at_call 50
  refine (z58 _).mono ?_
  rintro en w1 ⟨rfl,hw1⟩
  have H1:=hid (show Wn w w1 (fun k=>k=w.heap.size) w.heap.size [] from hw1▸Wn.new (Gr.refl w).drew)
  clear hw1
  refine hK.o (fun W=>Gr w W) _ _ H1.o.g (fun _ g=>g) (fun _=>?_)
  clear hK K
  (try simp only [AP])
  refine z1d [(9,true),(10,true),(15,true),(16,true),(17,true),(18,true)] hcl1 (by kernel_rfl) (fun _ _ d _ _ h=>by cases d<;>exact h) H1.o.g ?_
  refine z05 rfl (by rfl) (fun K hK=>?_)
  go_simp
  refine hK.o (fun W=>Gr w W) _ _ (H1.o.g.alloc _) (fun _ g=>g) (fun _=>?_)
  clear hK K
  (try simp only [AP])
  obtain ⟨w2,hw2,g2,hb2⟩:=z3u w1 (.cells #[.int .i64 F.id,.int .i64 F.run] 3)
  rw [hw2]
  obtain ⟨S,H2,HNS⟩:∃ S:Bl,Hid (Wn w w2 S w.heap.size [])∧Hid (¬ S w1.heap.size):=⟨_,hid (H1.o.gr g2),hid fun e=>by have:=H1.o.lt _ e;omega⟩
  have HB2:=hid hb2
  clear hw2 g2 hb2 H1 hcl1 hcl
  generalize w1.heap.size=B at *
  obtain ⟨bw,hbw⟩:∃ b,w.heap.size=b:=⟨_,rfl⟩
  rw [hbw] at H2 ⊢
  clear hbw
 case' two =>
  refine z0N rfl (by rfl) (fun K hK=>?_)
  go_simp
  refine hK.o (fun W=>Gr w W) _ _ (by first | exact (Gr.refl w).drew.alloc _ | exact ((Gr.refl w).alloc _).drew) (fun _ g=>g) (fun _=>?_)
  clear hK K
  (try simp only [AP])
  obtain ⟨w1,hw1,g1,hb1⟩:=z5H w (.cells #[.int .i64 F.id,.int .i64 F.run] 3)
  rw [hw1]
  have G1:=hid g1
  have HB1:=hid hb1
  have HSZ:=hid (show w.heap.size<w1.heap.size from block_lt hb1)
  clear hw1 g1 hb1
  refine z1d [(0,true),(10,true),(15,true),(16,true),(17,true),(18,true)] hcl1 (by kernel_rfl) (fun _ _ d _ _ h=>by cases d<;>exact h) G1.o ?_
  refine z05 rfl (by rfl) (fun K hK=>?_)
  go_simp
  go_at_call 50
  refine (z58 _).mono ?_
  rintro en w2 ⟨rfl,hw2⟩
  have H2':=hid (show Wn w w2 (fun k=>k=w1.heap.size) w1.heap.size [] from hw2▸Wn.new G1.o)
  have HB2:=hid (show w2.heap[w.heap.size]?=_ from hw2▸(((Gr.refl w1).alloc _).block _ HSZ.o).trans HB1.o)
  obtain ⟨S,H2,HNS⟩:∃ S:Bl,Hid (Wn w w2 S w1.heap.size [])∧Hid (¬ S w.heap.size):=⟨_,H2',hid fun e=>by have:=HSZ.o;omega⟩
  clear hw2 H2' HB1 hcl1 hcl
  refine hK.o (fun W=>Gr w W) _ _ H2.o.g (fun _ g=>g) (fun _=>?_)
  clear hK K
  (try simp only [AP])
  generalize w.heap.size=B at *
  clear HSZ
  generalize w1.heap.size=bw at *
 all_goals (
  refine z05 rfl (by rfl) (fun K hK=>?_)
  go_simp
  go_at_call 51
  refine (Wn.numbers' H2.o (t:=3) [F.id,F.run] HB2.o HNS.o 2 (by simp)).mono ?_
  rintro en w3 ⟨rfl,S3,h3,-⟩
  have H3:=hid h3
  clear h3
  refine hK.o (fun W=>Gr w W) _ _ H3.o.g (fun _ g=>g) (fun _=>?_)
  clear hK K
  (try simp only [AP])
  refine z05 rfl (by rfl) (fun K hK=>?_)
  go_simp
  go_at_call 88
  refine (HS.o w3 H3.o.g).mono ?_
  rintro en _ ⟨A4,c4,y4,rfl,rfl,h4,h5⟩
  have H4:=hid (H3.o.gr y4.gr)
  have HD4:=hid (RetB.m (M:=S3) h5 h4 H3.o.lt)
  clear h4 h5
  refine hK.o (fun W=>Gr w W) _ _ H4.o.g (fun _ g=>g) (fun _=>?_)
  clear hK K
  (try simp only [AP])
  refine z05 rfl (by rfl) (fun K hK=>?_)
  go_simp
  go_at_call 52
  refine (Wn.bytes H4.o _ (z7L F.l) HD4.o (by have h1:=z0Y [F.id,F.run];have h2:=HV.o;have h3:=HLF.o;simp only [List.nil_append,List.length_cons,List.length_nil] at *;omega)).mono ?_
  rintro en w5 ⟨rfl,S5,h5,-⟩
  rw [← HE.o] at h5
  have H5:=hid h5
  clear h5
  refine hK.o (fun W=>Gr w W) _ _ H5.o.g (fun _ g=>g) (fun _=>?_)
  clear hK K
  (try simp only [AP])
  refine z05 rfl (by rfl) (fun K hK=>?_)
  go_simp
  go_at_call 56
  refine ((z5k S5 _ _ w5 H5.o.r (by have h2:=HL.o;have h3:=HLF.o;omega)).mono fun _ _ h=>RetB.old H5.o.g h).mono ?_
  rintro en _ ⟨A6,c6,y6,rfl,rfl,h6,h7⟩
  have H6:=hid (And.intro h6 h7)
  clear h6 h7
  refine hK.o (fun W=>Gr w W) _ _ y6.gr (fun _ g=>g) (fun _=>?_)
  clear hK K
  (try simp only [AP])
  refine z06 rfl (by rfl) (fun K hK=>?_)
  go_simp
  refine hK.o _ _ ?_
  clear hK K
  go_wp2_with fail
  go_ret
  exact ⟨A6,c6,y6,rfl,rfl,H6.o⟩)
end Go.Proofs.YtniknicnnaiilaaGreat
end
