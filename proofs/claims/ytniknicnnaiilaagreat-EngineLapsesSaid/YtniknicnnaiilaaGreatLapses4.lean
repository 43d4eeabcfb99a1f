/- Lemmas of the engine. -/
import Derived.Test.YtniknicnnaiilaaGreatX07
import Derived.Test.YtniknicnnaiilaaGreatX10
import Derived.Test.YtniknicnnaiilaaGreatX30
import Derived.Test.YtniknicnnaiilaaGreatLapses1
import Derived.Test.YtniknicnnaiilaaGreatLapses3
section
namespace Go.Proofs.YtniknicnnaiilaaGreat
set_option maxRecDepth 100000
open Go.RowKit Go.Ext Go.BigFrame Go.Maps Go.MapKept
attribute [local go_sem] Ext.cell Ext.frozen Ext.lt Ext.le s1 s2 s3 s4 s5 s6 t1 t2 t3 t4 t5 t6
attribute [local go_sem ↓] Go.wp_at_zero Go.wp_at_succ
structure HOk (H:HS):Prop where
 k:∀ x∈H.kinds,x.1≤H.n
 i:∀ x∈H.ids,x.1≤H.n
 o:∀ x∈H.wof,x.1≤H.n
theorem HOk.fresh {l:List (Int × Int)} {n:Int} (h:∀ x∈l,x.1≤n):lk l (n+1)=none:=by
 cases hx:lk l (n+1) with
 | none=>rfl
 | some v=>have:=h _ (z0K hx);simp only at this;omega
theorem HOk.add {H:HS} (h:HOk H) (e:Ev):HOk (addH H e):=by
 have up1:∀ (l:List (Int × Int)) (v:Int),(∀ x∈l,x.1≤H.n)→∀ x∈up l (H.n+1) v,x.1≤H.n+1:=fun l v hl x hx=>by
  rcases z1K hx with rfl | hx
  ·exact Int.le_refl _
  ·have:=hl x hx;omega
 have same:∀ (l:List (Int × Int)),(∀ x∈l,x.1≤H.n)→∀ x∈l,x.1≤H.n+1:=fun l hl x hx=>by have:=hl x hx;omega
 have rm1:∀ (l:List (Int × Int)) (k:Int),(∀ x∈l,x.1≤H.n)→∀ x∈rm l k,x.1≤H.n+1:=fun l k hl x hx=>by have:=hl x ((z2Q _ _).subset hx);omega
 unfold addH
 repeat' split
 all_goals refine ⟨?_,?_,?_⟩
 all_goals first | exact same _ h.k | exact same _ h.i | exact same _ h.o | exact up1 _ _ h.k | exact up1 _ _ h.i | exact up1 _ _ h.o | exact rm1 _ _ h.k | exact rm1 _ _ h.i | exact rm1 _ _ h.o
theorem zho:HOk h00:=⟨fun x hx=>(by cases hx),fun x hx=>(by cases hx),fun x hx=>(by cases hx)⟩
def own5 (k mk mi mo mf:Nat):Bl:=fun b=>b=k∨b=mk∨b=mi∨b=mo∨b=mf
def zh6 (k mk mi mo mf:Nat) (H:HS) (w:World) (en:Ending) (w':World):Prop:=en=.returned (.tuple #[.string ⟨#[]⟩,.bool true])∧HR w' k mk mi mo mf H∧Mod (own5 k mk mi mo mf) w w'
set_option maxHeartbeats 8000000 in
theorem zeI (k mk mi mo mf:Nat) (H:HS) (e:Ev) (A:Option Addr) (c:Nat) (w:World) (h:HR w k mk mi mo mf H) (f:FitP H e) (ho:HOk H) (hnb:0≤H.n∧H.n≤1000000) :
  Calls Tryz.prog 46 #[.pointer (some ⟨k,0,none⟩),evV e (.slice A e.data.length c)] w (zh6 k mk mi mo mf (addH H e) w):=by
 obtain ⟨w1,hw1⟩:∃ w1,w.alloc (.cells #[.int .i64 e.kind,.int .i64 e.tick,.int .i64 e.ref,.int .i64 e.id,.int .i64 e.list,.int .i64 e.n,.slice A e.data.length c] 41)=w1:=⟨_,rfl⟩
 have HB1:=hid (hw1▸heap_alloc_new w (.cells #[.int .i64 e.kind,.int .i64 e.tick,.int .i64 e.ref,.int .i64 e.id,.int .i64 e.list,.int .i64 e.n,.slice A e.data.length c] 41))
 have G1:=hid (hw1▸(Gr.refl w).alloc (.cells #[.int .i64 e.kind,.int .i64 e.tick,.int .i64 e.ref,.int .i64 e.id,.int .i64 e.list,.int .i64 e.n,.slice A e.data.length c] 41))
 have HW1:=hid hw1
 have hB0:=block_lt h.cell
 have h1:=h.gr G1.o
 have lk':=block_lt h1.cell
 have l1':=block_lt HB1.o
 have HFA:=hid (zbF k mk mi mo mf H e A c w1 h1 f)
 have HR1:=hid h1
 have HF:=hid f
 have HO:=hid ho
 have HAD:=hid (show addH H e=addH H e from rfl)
 have o1:=h.o1
 have o2:=h.o2
 have o3:=h.o3
 have o4:=h.o4
 clear h h1 f hw1 ho
 rcases e with ⟨ek,et,er,ei,el,en,ed⟩
 rcases H with ⟨hn,hat,hcl',hks,his,ht,hb,hof,hfr⟩
 obtain rfl:hcl'=0:=HF.o.cl
 simp only [evV] at *
 obtain ⟨dl,hdl⟩:∃ n,ed.length=n:=⟨_,rfl⟩
 rw [hdl] at HB1 HW1 HFA ⊢
 clear hdl
 have hB:k<w.heap.size:=hB0
 obtain ⟨H',hH'⟩:∃ H',addH ⟨hn,hat,0,hks,his,ht,hb,hof,hfr⟩ ⟨ek,et,er,ei,el,en,ed⟩=H':=⟨_,rfl⟩
 rw [hH']
 have HH':=hid hH'
 clear hH' HAD
 have kw:IntKind.i64.wrap (hn+1)=hn+1:=IntWalk.i64_in _ (by omega)
 go_enter Tryz.func46,Tryz.ntmps46
 go_upto_region 1 with fail
 rw [HW1.o]
 obtain ⟨c0,c1,c2,c3,c4,c5,c6⟩:=z0p HB1.o
 go_wp2_with fail
 refine HFA.o.mono ?_
 rintro en _ ⟨rfl,y,rfl⟩
 obtain ⟨W2,hW2⟩:∃ W,y.val=W:=⟨_,rfl⟩
 have G2:=hid (hW2▸y.gr)
 rw [hW2]
 clear hW2 y c0 c1 c2 c3 c4 c5 c6 HFA
 have HB2:=hid ((G2.o.block _ l1').trans HB1.o)
 have HR2:=hid (HR1.o.gr G2.o)
 obtain ⟨c0,c1,c2,c3,c4,c5,c6⟩:=z0p HB2.o
 obtain ⟨a0,a1,a2,a3,a4,a5,a6,a7,a8⟩:=z2k HR2.o.cell
 have lk2:=block_lt HR2.o.cell
 have lc2:=block_lt HB2.o
 have f0:=z00 (j:=0) HR2.o.cell
 have f1:=z00 (j:=1) HR2.o.cell
 go_upto_region 6 with fail
 clear c0 c1 c2 c3 c4 c5 c6 a0 a1 a2 a3 a4 a5 a6 a7 a8 f0 f1 lk2 lc2
 obtain ⟨W3,hW3⟩:∃ W3,(W2.setCell ⟨k,0,none⟩ (.int .i64 (hn+1))).setCell ⟨k,1,none⟩ (.int .i64 et)=W3:=⟨_,rfl⟩
 have MD3:=hid (show Mod (fun b=>b=k) W2 W3 from hW3▸z0c (z0c ((Gr.refl W2).mod _)))
 have HK3:=hid (show W3.heap[k]?=some (.cells #[.int .i64 (hn+1),.int .i64 et,.int .i64 0,.map (some mk),.map (some mi),.int .i64 ht,.bool hb,.map (some mo),.map (some mf)] 145 (0,0)) from hW3▸z02 (j:=1) (z02 (j:=0) HR2.o.cell _) _)
 have HB3:=hid ((MD3.o.block w.heap.size (block_lt HB2.o) (by omega)).trans HB2.o)
 have HM3:=hid (And.intro (HR2.o.kk.keep (MD3.o.block mk HR2.o.kk.lt (by omega))) (And.intro (HR2.o.ii.keep (MD3.o.block mi HR2.o.ii.lt (by omega))) (And.intro (HR2.o.oo.keep (MD3.o.block mo HR2.o.oo.lt (by omega))) (HR2.o.ff.keep (MD3.o.block mf HR2.o.ff.lt (by omega))))))
 have MOW:=hid (show Mod (own5 k mk mi mo mf) w W3 from ((G1.o.trans G2.o).mod _).trans (MD3.o.mono fun b _ e=>.inl e) (fun _ _ e=>e))
 rw [hW3]
 clear hW3 HR2 HB2 HR1 HB1 MD3
 generalize w.heap.size=B at *
 obtain ⟨c0,c1,c2,c3,c4,c5,c6⟩:=z0p HB3.o
 obtain ⟨a0,a1,a2,a3,a4,a5,a6,a7,a8⟩:=z2k HK3.o
 have lk3:=block_lt HK3.o
 have lc3:=block_lt HB3.o
 have hkk:(ek=2∨ek=3)∨(ek=4∨ek=5∨ek=6)∨(ek=7∨ek=12∨ek=17)∨ek=8∨(ek=9∨ek=10∨ek=11)∨(ek=13∨ek=14∨ek=18)∨(19≤ek∧ek≤23)∨(ek=1∨ek=15∨ek=16):=by
  have:=HF.o.k
  simp only at this
  omega
 rcases hkk with e1 | e1 | e1 | e1 | e1 | e1 | e1 | e1
 ·rcases e1 with rfl | rfl
  ·skip
   have f5:=z00 (j:=5) HK3.o
   have f6:=z00 (j:=6) HK3.o
   go_upto_region 9 with fail
   go_region
   clear f5 f6
   clear c0 c1 c2 c3 c4 c5 c6 a0 a1 a2 a3 a4 a5 a6 a7 a8 lk3 lc3
   obtain ⟨W4,hW4⟩:∃ W4,((W3.setCell ⟨k,5,none⟩ (.int .i64 (hn+1))).setCell ⟨k,6,none⟩ (.bool false)).drew=W4:=⟨_,rfl⟩
   have MD4:=hid (show Mod (fun b=>b=k) W3 W4 from hW4▸Mod.drew_ (z0c (z0c ((Gr.refl W3).mod _))))
   have HK4:=hid (show W4.heap[k]?=some (.cells #[.int .i64 (hn+1),.int .i64 et,.int .i64 0,.map (some mk),.map (some mi),.int .i64 (hn+1),.bool false,.map (some mo),.map (some mf)] 145 (0,0)) from hW4▸(z02 (j:=6) (z02 (j:=5) HK3.o _) _))
   have HB4:=hid ((MD4.o.block B (block_lt HB3.o) (by omega)).trans HB3.o)
   have HM4:=hid (And.intro (HM3.o.1.keep (MD4.o.block mk HM3.o.1.lt (by omega))) (And.intro (HM3.o.2.1.keep (MD4.o.block mi HM3.o.2.1.lt (by omega))) (And.intro (HM3.o.2.2.1.keep (MD4.o.block mo HM3.o.2.2.1.lt (by omega))) (HM3.o.2.2.2.keep (MD4.o.block mf HM3.o.2.2.2.lt (by omega))))))
   have MOW4:=hid (MOW.o.trans (MD4.o.mono fun b _ e=>.inl e) (fun _ _ e=>e))
   rw [hW4]
   clear hW4
   obtain ⟨c0,c1,c2,c3,c4,c5,c6⟩:=z0p HB4.o
   have lcE:=block_lt HB4.o
   go_wp2_with fail
   refine (z1C _ _).mono ?_
   rintro en _ ⟨rfl,y9,rfl⟩
   go_wp2_with fail
   go_ret2
   have e9:H'=⟨hn+1,et,0,hks,his,hn+1,false,hof,hfr⟩:=by rw [← HH'.o];simp [addH]
   rw [e9]
   exact ⟨rfl,HR.gr (show HR W4 k mk mi mo mf ⟨hn+1,et,0,hks,his,hn+1,false,hof,hfr⟩ from ⟨HK4.o,HM4.o.1,HM4.o.2.1,HM4.o.2.2.1,HM4.o.2.2.2,o1,o2,o3,o4⟩) y9.gr,Mod.trans MOW4.o (y9.gr.mod _) (fun _ _ e=>e)⟩
  ·skip
   have f5:=z00 (j:=5) HK3.o
   have f6:=z00 (j:=6) HK3.o
   go_upto_region 9 with fail
   go_region
   clear f5 f6
   clear c0 c1 c2 c3 c4 c5 c6 a0 a1 a2 a3 a4 a5 a6 a7 a8 lk3 lc3
   obtain ⟨W4,hW4⟩:∃ W4,((W3.setCell ⟨k,5,none⟩ (.int .i64 (hn+1))).setCell ⟨k,6,none⟩ (.bool true)).drew=W4:=⟨_,rfl⟩
   have MD4:=hid (show Mod (fun b=>b=k) W3 W4 from hW4▸Mod.drew_ (z0c (z0c ((Gr.refl W3).mod _))))
   have HK4:=hid (show W4.heap[k]?=some (.cells #[.int .i64 (hn+1),.int .i64 et,.int .i64 0,.map (some mk),.map (some mi),.int .i64 (hn+1),.bool true,.map (some mo),.map (some mf)] 145 (0,0)) from hW4▸(z02 (j:=6) (z02 (j:=5) HK3.o _) _))
   have HB4:=hid ((MD4.o.block B (block_lt HB3.o) (by omega)).trans HB3.o)
   have HM4:=hid (And.intro (HM3.o.1.keep (MD4.o.block mk HM3.o.1.lt (by omega))) (And.intro (HM3.o.2.1.keep (MD4.o.block mi HM3.o.2.1.lt (by omega))) (And.intro (HM3.o.2.2.1.keep (MD4.o.block mo HM3.o.2.2.1.lt (by omega))) (HM3.o.2.2.2.keep (MD4.o.block mf HM3.o.2.2.2.lt (by omega))))))
   have MOW4:=hid (MOW.o.trans (MD4.o.mono fun b _ e=>.inl e) (fun _ _ e=>e))
   rw [hW4]
   clear hW4
   obtain ⟨c0,c1,c2,c3,c4,c5,c6⟩:=z0p HB4.o
   have lcE:=block_lt HB4.o
   go_wp2_with fail
   refine (z1C _ _).mono ?_
   rintro en _ ⟨rfl,y9,rfl⟩
   go_wp2_with fail
   go_ret2
   have e9:H'=⟨hn+1,et,0,hks,his,hn+1,true,hof,hfr⟩:=by rw [← HH'.o];simp [addH]
   rw [e9]
   exact ⟨rfl,HR.gr (show HR W4 k mk mi mo mf ⟨hn+1,et,0,hks,his,hn+1,true,hof,hfr⟩ from ⟨HK4.o,HM4.o.1,HM4.o.2.1,HM4.o.2.2.1,HM4.o.2.2.2,o1,o2,o3,o4⟩) y9.gr,Mod.trans MOW4.o (y9.gr.mod _) (fun _ _ e=>e)⟩
 ·rcases e1 with rfl | rfl | rfl
  all_goals (
   have f5:=z00 (j:=5) HK3.o
   have f6:=z00 (j:=6) HK3.o
   go_upto_region 31 with fail
   clear f5 f6
   clear c0 c1 c2 c3 c4 c5 c6 a0 a1 a2 a3 a4 a5 a6 a7 a8 lk3 lc3
   obtain ⟨W4,hW4⟩:∃ W4,(W3.setCell ⟨k,5,none⟩ (.int .i64 0)).setCell ⟨k,6,none⟩ (.bool false)=W4:=⟨_,rfl⟩
   have MD4:=hid (show Mod (fun b=>b=k) W3 W4 from hW4▸z0c (z0c ((Gr.refl W3).mod _)))
   have HK4:=hid (show W4.heap[k]?=some (.cells #[.int .i64 (hn+1),.int .i64 et,.int .i64 0,.map (some mk),.map (some mi),.int .i64 0,.bool false,.map (some mo),.map (some mf)] 145 (0,0)) from hW4▸(z02 (j:=6) (z02 (j:=5) HK3.o _) _))
   have HB4:=hid ((MD4.o.block B (block_lt HB3.o) (by omega)).trans HB3.o)
   have HM4:=hid (And.intro (HM3.o.1.keep (MD4.o.block mk HM3.o.1.lt (by omega))) (And.intro (HM3.o.2.1.keep (MD4.o.block mi HM3.o.2.1.lt (by omega))) (And.intro (HM3.o.2.2.1.keep (MD4.o.block mo HM3.o.2.2.1.lt (by omega))) (HM3.o.2.2.2.keep (MD4.o.block mf HM3.o.2.2.2.lt (by omega))))))
   have MOW4:=hid (MOW.o.trans (MD4.o.mono fun b _ e=>.inl e) (fun _ _ e=>e))
   rw [hW4]
   clear hW4
   obtain ⟨c0,c1,c2,c3,c4,c5,c6⟩:=z0p HB4.o
   have lcE:=block_lt HB4.o
   go_wp2_with fail
   refine (z1C _ _).mono ?_
   rintro en _ ⟨rfl,y9,rfl⟩
   go_wp2_with fail
   go_ret2
   have e9:H'=⟨hn+1,et,0,hks,his,0,false,hof,hfr⟩:=by rw [← HH'.o];simp [addH]
   rw [e9]
   exact ⟨rfl,HR.gr (show HR W4 k mk mi mo mf ⟨hn+1,et,0,hks,his,0,false,hof,hfr⟩ from ⟨HK4.o,HM4.o.1,HM4.o.2.1,HM4.o.2.2.1,HM4.o.2.2.2,o1,o2,o3,o4⟩) y9.gr,Mod.trans MOW4.o (y9.gr.mod _) (fun _ _ e=>e)⟩)
 ·rcases e1 with rfl | rfl | rfl
  all_goals (
   go_upto_region 17 with fail
   obtain ⟨ek,hB9,e9',hek⟩:∃ ek:Int,W3.heap[B]?=some (.cells #[.int .i64 ek,.int .i64 et,.int .i64 er,.int .i64 ei,.int .i64 el,.int .i64 en,.slice A dl c] 41 (0,0))∧H'=⟨hn+1,et,0,up hks (hn+1) ek,up his (hn+1) ei,ht,hb,hof,hfr⟩∧ek<19:=⟨_,HB3.o,by rw [← HH'.o];simp [addH],by decide⟩
   have E9:=hid e9'
   clear e9'
   clear c0 c1 c2 c3 c4 c5 c6 a0 a1 a2 a3 a4 a5 a6 a7 a8 lk3 lc3
   have g30:=(Gr.refl W3).drew
   obtain ⟨st1,wa,hea,mda,hsta⟩:=MI.entryNew (P:=Tryz.prog) (HM3.o.1.gr g30) Tryz.underlying65 Tryz.underlying3 (z:=.int .i64 0) (by kernel_rfl) (k:=hn+1) (by rw [z45,HOk.fresh HO.o.k];rfl) (.int .i64 ek)
   obtain ⟨wb,heb,hmb,mdb⟩:=hsta wa rfl
   have mdab:=mda.trans mdb (fun _ _ e=>e)
   obtain ⟨st2,wc,hec,mdc,hstc⟩:=MI.entryNew (P:=Tryz.prog) ((HM3.o.2.1.gr g30).keep (mdab.block mi HM3.o.2.1.lt (by omega))) Tryz.underlying65 Tryz.underlying3 (z:=.int .i64 0) (by kernel_rfl) (k:=hn+1) (by rw [z45,HOk.fresh HO.o.i];rfl) (.int .i64 ei)
   obtain ⟨wd,hed,hmd,mdd⟩:=hstc wc rfl
   have mdcd:=mdc.trans mdd (fun _ _ e=>e)
   have SA:=hid (And.intro ((mda.block k (block_lt HK3.o) (by omega)).trans HK3.o) ((mda.block B (block_lt hB9) (by omega)).trans hB9))
   have SB:=hid (And.intro ((mdb.block k (block_lt SA.o.1) (by omega)).trans SA.o.1) ((mdb.block B (block_lt SA.o.2) (by omega)).trans SA.o.2))
   have SC:=hid (And.intro ((mdc.block k (block_lt SB.o.1) (by omega)).trans SB.o.1) ((mdc.block B (block_lt SB.o.2) (by omega)).trans SB.o.2))
   have SD:=hid (And.intro ((mdd.block k (block_lt SC.o.1) (by omega)).trans SC.o.1) ((mdd.block B (block_lt SC.o.2) (by omega)).trans SC.o.2))
   refine z01 [(0,false),(1,false),(2,false),(3,false),(4,false),(5,false),(6,false),(7,false),(8,false),(9,false),(10,false),(11,false),(12,false),(13,false),(14,false),(15,false),(16,false),(17,false),(18,false),(19,false),(20,true),(21,false),(22,true),(23,true),(24,false),(25,true)] (fun W=>W.heap[k]?=some (.cells #[.int .i64 (hn+1),.int .i64 et,.int .i64 0,.map (some mk),.map (some mi),.int .i64 ht,.bool hb,.map (some mo),.map (some mf)] 145 (0,0))∧W.heap[B]?=some (.cells #[.int .i64 ek,.int .i64 et,.int .i64 er,.int .i64 ei,.int .i64 el,.int .i64 en,.slice A dl c] 41 (0,0))) (by kernel_rfl) (by kernel_rfl) (fun _ _ d _ _ h=>by cases d<;>exact h) (⟨HK3.o,hB9⟩) (fun _=>?_)
   iterate 20 (refine z03 (v:=?_) rfl (by rfl) ?_ ?_;rotate_left;(focus (intro W9 hW9;obtain ⟨⟨a0,a1,a2,a3,a4,a5,a6,a7,a8⟩,⟨c0,c1,c2,c3,c4,c5,c6⟩,la,lc⟩:=And.intro (z2k hW9.1) (And.intro (z0p hW9.2) (And.intro (block_lt hW9.1) (block_lt hW9.2)));go_simp;(try with_reducible rfl);done));(try simp only [AP]))
   refine z05 rfl (by rfl) (fun K hK=>?_)
   go_simp
   refine hK.o (fun W=>W.heap[k]?=some (.cells #[.int .i64 (hn+1),.int .i64 et,.int .i64 0,.map (some mk),.map (some mi),.int .i64 ht,.bool hb,.map (some mo),.map (some mf)] 145 (0,0))∧W.heap[B]?=some (.cells #[.int .i64 ek,.int .i64 et,.int .i64 er,.int .i64 ei,.int .i64 el,.int .i64 en,.slice A dl c] 41 (0,0))) _ _ SA.o (fun W h=>h) (fun _=>?_)
   clear hK K
   (try simp only [AP])
   iterate 1 (refine z03 (v:=?_) rfl (by rfl) ?_ ?_;rotate_left;(focus (intro W9 hW9;obtain ⟨⟨a0,a1,a2,a3,a4,a5,a6,a7,a8⟩,⟨c0,c1,c2,c3,c4,c5,c6⟩,la,lc⟩:=And.intro (z2k hW9.1) (And.intro (z0p hW9.2) (And.intro (block_lt hW9.1) (block_lt hW9.2)));go_simp;(try with_reducible rfl);done));(try simp only [AP]))
   refine z05 rfl (by rfl) (fun K hK=>?_)
   go_simp
   refine hK.o (fun W=>W.heap[k]?=some (.cells #[.int .i64 (hn+1),.int .i64 et,.int .i64 0,.map (some mk),.map (some mi),.int .i64 ht,.bool hb,.map (some mo),.map (some mf)] 145 (0,0))∧W.heap[B]?=some (.cells #[.int .i64 ek,.int .i64 et,.int .i64 er,.int .i64 ei,.int .i64 el,.int .i64 en,.slice A dl c] 41 (0,0))) _ _ SB.o (fun W h=>h) (fun _=>?_)
   clear hK K
   (try simp only [AP])
   refine z05 rfl (by rfl) (fun K hK=>?_)
   go_simp
   refine hK.o (fun W=>W.heap[k]?=some (.cells #[.int .i64 (hn+1),.int .i64 et,.int .i64 0,.map (some mk),.map (some mi),.int .i64 ht,.bool hb,.map (some mo),.map (some mf)] 145 (0,0))∧W.heap[B]?=some (.cells #[.int .i64 ek,.int .i64 et,.int .i64 er,.int .i64 ei,.int .i64 el,.int .i64 en,.slice A dl c] 41 (0,0))) _ _ SC.o (fun W h=>h) (fun _=>?_)
   clear hK K
   (try simp only [AP])
   iterate 1 (refine z03 (v:=?_) rfl (by rfl) ?_ ?_;rotate_left;(focus (intro W9 hW9;obtain ⟨⟨a0,a1,a2,a3,a4,a5,a6,a7,a8⟩,⟨c0,c1,c2,c3,c4,c5,c6⟩,la,lc⟩:=And.intro (z2k hW9.1) (And.intro (z0p hW9.2) (And.intro (block_lt hW9.1) (block_lt hW9.2)));go_simp;(try with_reducible rfl);done));(try simp only [AP]))
   refine z06 rfl (by rfl) (fun K hK=>?_)
   go_simp
   refine hK.o _ _ ?_
   clear hK K
   rw [z7n] at hmb hmd
   have hrD:HR wd k mk mi mo mf ⟨hn+1,et,0,up hks (hn+1) ek,up his (hn+1) ei,ht,hb,hof,hfr⟩:=⟨SD.o.1,hmb.keep (mdcd.block mk hmb.lt (by omega)),hmd,((HM3.o.2.2.1.gr g30).keep (mdab.block mo HM3.o.2.2.1.lt (by omega))).keep (mdcd.block mo (Nat.lt_of_lt_of_le HM3.o.2.2.1.lt mdab.size) (by omega)),((HM3.o.2.2.2.gr g30).keep (mdab.block mf HM3.o.2.2.2.lt (by omega))).keep (mdcd.block mf (Nat.lt_of_lt_of_le HM3.o.2.2.2.lt mdab.size) (by omega)),o1,o2,o3,o4⟩
   have HRD:=hid hrD
   have MOWD:=hid (((MOW.o.trans (g30.mod _) (fun _ _ e=>e)).trans (mdab.mono fun b _ e=>(show own5 k mk mi mo mf b from .inr (.inl e))) (fun _ _ e=>e)).trans (mdcd.mono fun b _ e=>(show own5 k mk mi mo mf b from .inr (.inr (.inl e)))) (fun _ _ e=>e))
   clear hea heb hec hed hmb hmd hrD mda mdb mdc mdd mdab mdcd hsta hstc
   obtain ⟨c0,c1,c2,c3,c4,c5,c6⟩:=z0p SD.o.2
   have lcE:=block_lt SD.o.2
   go_wp2_with fail
   have hcl9:=z1C ek wd
   rw [decide_eq_false (by omega)] at hcl9
   refine hcl9.mono ?_
   clear hcl9
   rintro en _ ⟨rfl,y9,rfl⟩
   go_wp2_with fail
   go_ret2
   rw [E9.o]
   exact ⟨rfl,HR.gr HRD.o y9.gr,Mod.trans MOWD.o (y9.gr.mod _) (fun _ _ e=>e)⟩)
 ·obtain rfl:=e1
  have hfrn:lk hfr er=none:=by
   have hrf:=HF.o.rf
   unfold RefP at hrf
   simp only at hrf
   rw [if_neg (by omega),if_neg (by omega),if_pos trivial] at hrf
   exact hrf.2
  go_upto_region 19 with fail
  clear c0 c1 c2 c3 c4 c5 c6 a0 a1 a2 a3 a4 a5 a6 a7 a8 lk3 lc3
  have g30:=(Gr.refl W3).drew
  obtain ⟨st1,wa,hea,mda,hsta⟩:=MI.entryNew (P:=Tryz.prog) (HM3.o.2.2.1.gr g30) Tryz.underlying65 Tryz.underlying3 (z:=.int .i64 0) (by kernel_rfl) (k:=hn+1) (by rw [z45,HOk.fresh HO.o.o];rfl) (.int .i64 er)
  obtain ⟨wb,heb,hmb,mdb⟩:=hsta wa rfl
  have mdab:=mda.trans mdb (fun _ _ e=>e)
  obtain ⟨st2,wc,hec,mdc,hstc⟩:=MI.entryNew (P:=Tryz.prog) ((HM3.o.2.2.2.gr g30).keep (mdab.block mf HM3.o.2.2.2.lt (by omega))) Tryz.underlying65 Tryz.underlying3 (z:=.int .i64 0) (by kernel_rfl) (k:=er) (by rw [z45,hfrn];rfl) (.int .i64 (hn+1))
  obtain ⟨wd,hed,hmd,mdd⟩:=hstc wc rfl
  have mdcd:=mdc.trans mdd (fun _ _ e=>e)
  have SA:=hid (And.intro ((mda.block k (block_lt HK3.o) (by omega)).trans HK3.o) ((mda.block B (block_lt HB3.o) (by omega)).trans HB3.o))
  have SB:=hid (And.intro ((mdb.block k (block_lt SA.o.1) (by omega)).trans SA.o.1) ((mdb.block B (block_lt SA.o.2) (by omega)).trans SA.o.2))
  have SC:=hid (And.intro ((mdc.block k (block_lt SB.o.1) (by omega)).trans SB.o.1) ((mdc.block B (block_lt SB.o.2) (by omega)).trans SB.o.2))
  have SD:=hid (And.intro ((mdd.block k (block_lt SC.o.1) (by omega)).trans SC.o.1) ((mdd.block B (block_lt SC.o.2) (by omega)).trans SC.o.2))
  refine z01 [(0,false),(1,false),(2,false),(3,false),(4,false),(5,false),(6,false),(7,false),(8,false),(9,false),(10,false),(11,false),(12,false),(13,false),(14,false),(15,false),(16,false),(17,false),(18,false),(19,false),(20,true),(21,false),(22,true),(23,true),(24,false),(25,true)] (fun W=>W.heap[k]?=some (.cells #[.int .i64 (hn+1),.int .i64 et,.int .i64 0,.map (some mk),.map (some mi),.int .i64 ht,.bool hb,.map (some mo),.map (some mf)] 145 (0,0))∧W.heap[B]?=some (.cells #[.int .i64 8,.int .i64 et,.int .i64 er,.int .i64 ei,.int .i64 el,.int .i64 en,.slice A dl c] 41 (0,0))) (by kernel_rfl) (by kernel_rfl) (fun _ _ d _ _ h=>by cases d<;>exact h) (⟨HK3.o,HB3.o⟩) (fun _=>?_)
  iterate 20 (refine z03 (v:=?_) rfl (by rfl) ?_ ?_;rotate_left;(focus (intro W9 hW9;obtain ⟨⟨a0,a1,a2,a3,a4,a5,a6,a7,a8⟩,⟨c0,c1,c2,c3,c4,c5,c6⟩,la,lc⟩:=And.intro (z2k hW9.1) (And.intro (z0p hW9.2) (And.intro (block_lt hW9.1) (block_lt hW9.2)));go_simp;(try with_reducible rfl);done));(try simp only [AP]))
  refine z05 rfl (by rfl) (fun K hK=>?_)
  go_simp
  refine hK.o (fun W=>W.heap[k]?=some (.cells #[.int .i64 (hn+1),.int .i64 et,.int .i64 0,.map (some mk),.map (some mi),.int .i64 ht,.bool hb,.map (some mo),.map (some mf)] 145 (0,0))∧W.heap[B]?=some (.cells #[.int .i64 8,.int .i64 et,.int .i64 er,.int .i64 ei,.int .i64 el,.int .i64 en,.slice A dl c] 41 (0,0))) _ _ SA.o (fun W h=>h) (fun _=>?_)
  clear hK K
  (try simp only [AP])
  iterate 1 (refine z03 (v:=?_) rfl (by rfl) ?_ ?_;rotate_left;(focus (intro W9 hW9;obtain ⟨⟨a0,a1,a2,a3,a4,a5,a6,a7,a8⟩,⟨c0,c1,c2,c3,c4,c5,c6⟩,la,lc⟩:=And.intro (z2k hW9.1) (And.intro (z0p hW9.2) (And.intro (block_lt hW9.1) (block_lt hW9.2)));go_simp;(try with_reducible rfl);done));(try simp only [AP]))
  refine z05 rfl (by rfl) (fun K hK=>?_)
  go_simp
  refine hK.o (fun W=>W.heap[k]?=some (.cells #[.int .i64 (hn+1),.int .i64 et,.int .i64 0,.map (some mk),.map (some mi),.int .i64 ht,.bool hb,.map (some mo),.map (some mf)] 145 (0,0))∧W.heap[B]?=some (.cells #[.int .i64 8,.int .i64 et,.int .i64 er,.int .i64 ei,.int .i64 el,.int .i64 en,.slice A dl c] 41 (0,0))) _ _ SB.o (fun W h=>h) (fun _=>?_)
  clear hK K
  (try simp only [AP])
  refine z05 rfl (by rfl) (fun K hK=>?_)
  go_simp
  refine hK.o (fun W=>W.heap[k]?=some (.cells #[.int .i64 (hn+1),.int .i64 et,.int .i64 0,.map (some mk),.map (some mi),.int .i64 ht,.bool hb,.map (some mo),.map (some mf)] 145 (0,0))∧W.heap[B]?=some (.cells #[.int .i64 8,.int .i64 et,.int .i64 er,.int .i64 ei,.int .i64 el,.int .i64 en,.slice A dl c] 41 (0,0))) _ _ SC.o (fun W h=>h) (fun _=>?_)
  clear hK K
  (try simp only [AP])
  iterate 1 (refine z03 (v:=?_) rfl (by rfl) ?_ ?_;rotate_left;(focus (intro W9 hW9;obtain ⟨⟨a0,a1,a2,a3,a4,a5,a6,a7,a8⟩,⟨c0,c1,c2,c3,c4,c5,c6⟩,la,lc⟩:=And.intro (z2k hW9.1) (And.intro (z0p hW9.2) (And.intro (block_lt hW9.1) (block_lt hW9.2)));go_simp;(try with_reducible rfl);done));(try simp only [AP]))
  refine z06 rfl (by rfl) (fun K hK=>?_)
  go_simp
  refine hK.o _ _ ?_
  clear hK K
  rw [z7n] at hmb hmd
  have hrD:HR wd k mk mi mo mf ⟨hn+1,et,0,hks,his,ht,hb,up hof (hn+1) er,up hfr er (hn+1)⟩:=⟨SD.o.1,((HM3.o.1.gr g30).keep (mdab.block mk HM3.o.1.lt (by omega))).keep (mdcd.block mk (Nat.lt_of_lt_of_le HM3.o.1.lt mdab.size) (by omega)),((HM3.o.2.1.gr g30).keep (mdab.block mi HM3.o.2.1.lt (by omega))).keep (mdcd.block mi (Nat.lt_of_lt_of_le HM3.o.2.1.lt mdab.size) (by omega)),hmb.keep (mdcd.block mo hmb.lt (by omega)),hmd,o1,o2,o3,o4⟩
  have HRD:=hid hrD
  have MOWD:=hid (((MOW.o.trans (g30.mod _) (fun _ _ e=>e)).trans (mdab.mono fun b _ e=>(show own5 k mk mi mo mf b from .inr (.inr (.inr (.inl e))))) (fun _ _ e=>e)).trans (mdcd.mono fun b _ e=>(show own5 k mk mi mo mf b from .inr (.inr (.inr (.inr e))))) (fun _ _ e=>e))
  clear hea heb hec hed hmb hmd hrD mda mdb mdc mdd mdab mdcd hsta hstc
  obtain ⟨c0,c1,c2,c3,c4,c5,c6⟩:=z0p SD.o.2
  have lcE:=block_lt SD.o.2
  go_wp2_with fail
  refine (z1C _ _).mono ?_
  rintro en _ ⟨rfl,y9,rfl⟩
  go_wp2_with fail
  go_ret2
  have e9:H'=⟨hn+1,et,0,hks,his,ht,hb,up hof (hn+1) er,up hfr er (hn+1)⟩:=by rw [← HH'.o];simp [addH]
  rw [e9]
  exact ⟨rfl,HR.gr HRD.o y9.gr,Mod.trans MOWD.o (y9.gr.mod _) (fun _ _ e=>e)⟩
 ·rcases e1 with rfl | rfl | rfl
  all_goals (
   have HX3:=hid (fun W (g:Gr W3 W)=>And.intro (z2k ((g.block _ (block_lt HK3.o)).trans HK3.o)) (And.intro (z0p ((g.block _ (block_lt HB3.o)).trans HB3.o)) (And.intro (z8d (HM3.o.2.2.1.gr g) er false) (And.intro (Nat.lt_of_lt_of_le (block_lt HK3.o) g.size) (Nat.lt_of_lt_of_le (block_lt HB3.o) g.size)))))
   simp only [Bool.false_eq_true,if_false] at HX3
   obtain ⟨q,hq⟩:∃ q,lz hof er=q:=⟨_,rfl⟩
   have HQ:=hid hq
   rw [hq] at HX3
   clear hq
   go_upto_region 23 with fail
   clear c0 c1 c2 c3 c4 c5 c6 a0 a1 a2 a3 a4 a5 a6 a7 a8 lk3 lc3
   refine z01 [(0,false),(1,false),(2,false),(3,false),(4,false),(5,false),(6,false),(7,true)] (fun W=>Gr W3 W) (by kernel_rfl) (by kernel_rfl) (fun _ _ d _ _ h=>by cases d<;>exact h) ((Gr.refl W3).drew) (fun _=>?_)
   iterate 7 (refine z03 (v:=?_) rfl (by rfl) ?_ ?_;rotate_left;(focus (intro W9 hW9;obtain ⟨⟨a0,a1,a2,a3,a4,a5,a6,a7,a8⟩,⟨c0,c1,c2,c3,c4,c5,c6⟩,q3,la,lc⟩:=HX3.o W9 hW9;go_simp;(try with_reducible rfl);done));(try simp only [AP]))
   refine z06 rfl (by rfl) (fun K hK=>?_)
   go_simp
   refine hK.o _ _ ?_
   clear hK K
   go_upto_region 24 with fail
   obtain ⟨w5,hd5,hm5,md5⟩:=(HM3.o.2.2.1.gr (Gr.refl W3).drew.drew).delete (P:=Tryz.prog) Tryz.underlying65 Tryz.underlying3 er 0 3
   refine z01 [(0,false),(1,false),(2,false),(3,false),(4,false),(5,false),(6,true)] (fun W=>Gr W3 W) (by kernel_rfl) (by kernel_rfl) (fun _ _ d _ _ h=>by cases d<;>exact h) ((Gr.refl W3).drew.drew) (fun _=>?_)
   iterate 6 (refine z03 (v:=?_) rfl (by rfl) ?_ ?_;rotate_left;(focus (intro W9 hW9;obtain ⟨⟨a0,a1,a2,a3,a4,a5,a6,a7,a8⟩,⟨c0,c1,c2,c3,c4,c5,c6⟩,q3,la,lc⟩:=HX3.o W9 hW9;go_simp;(try with_reducible rfl);done));(try simp only [AP]))
   refine z06 rfl (by rfl) (fun K hK=>?_)
   go_simp
   refine hK.o _ _ ?_
   clear hK K
   have g35:=(Gr.refl W3).drew.drew
   have HK5:=hid ((md5.block k (block_lt HK3.o) (by omega)).trans HK3.o)
   have HB5:=hid ((md5.block B (block_lt HB3.o) (by omega)).trans HB3.o)
   have HF5:=(HM3.o.2.2.2.gr g35).keep (md5.block mf HM3.o.2.2.2.lt (by omega))
   obtain ⟨w6,hd6,hm6,md6⟩:=HF5.delete (P:=Tryz.prog) Tryz.underlying65 Tryz.underlying3 q 0 3
   obtain ⟨a0,a1,a2,a3,a4,a5,a6,a7,a8⟩:=z2k HK5.o
   have lk5:=block_lt HK5.o
   go_wp2_with fail
   rw [z4Z] at hm5 hm6
   have hr6:HR w6 k mk mi mo mf ⟨hn+1,et,0,hks,his,ht,hb,rm hof er,rm hfr q⟩:=⟨(md6.block k lk5 (by omega)).trans HK5.o,((HM3.o.1.gr g35).keep (md5.block mk HM3.o.1.lt (by omega))).keep (md6.block mk (Nat.lt_of_lt_of_le HM3.o.1.lt md5.size) (by omega)),((HM3.o.2.1.gr g35).keep (md5.block mi HM3.o.2.1.lt (by omega))).keep (md6.block mi (Nat.lt_of_lt_of_le HM3.o.2.1.lt md5.size) (by omega)),hm5.keep (md6.block mo hm5.lt (by omega)),hm6,o1,o2,o3,o4⟩
   have MOW6:=hid (((MOW.o.trans (g35.mod _) (fun _ _ e=>e)).trans (md5.mono fun b _ e=>(show own5 k mk mi mo mf b from .inr (.inr (.inr (.inl e))))) (fun _ _ e=>e)).trans (md6.mono fun b _ e=>(show own5 k mk mi mo mf b from .inr (.inr (.inr (.inr e))))) (fun _ _ e=>e))
   have HB6:=hid ((md6.block B (block_lt HB5.o) (by omega)).trans HB5.o)
   refine (z9B k mk mi mo mf ⟨hn+1,et,0,hks,his,ht,hb,rm hof er,rm hfr q⟩ q w6 hr6).mono ?_
   clear a0 a1 a2 a3 a4 a5 a6 a7 a8 lk5 hr6 hd5 hd6 hm5 hm6 md5 md6 HF5
   rintro en W4 ⟨rfl,hr4,md4⟩
   have HR4:=hid hr4
   have HB4:=hid ((md4.block B (block_lt HB6.o) (by omega)).trans HB6.o)
   have MOW4:=hid (MOW6.o.trans (md4.mono fun b _ e=>(show own5 k mk mi mo mf b from e.elim (fun e=>.inr (.inl e)) (fun e=>.inr (.inr (.inl e))))) (fun _ _ e=>e))
   clear hr4 md4
   obtain ⟨c0,c1,c2,c3,c4,c5,c6⟩:=z0p HB4.o
   have lcE:=block_lt HB4.o
   go_wp2_with fail
   refine (z1C _ _).mono ?_
   rintro en _ ⟨rfl,y9,rfl⟩
   go_wp2_with fail
   go_ret2
   have e9:H'=⟨hn+1,et,0,rm hks q,rm his q,ht,hb,rm hof er,rm hfr q⟩:=by rw [← HH'.o];rw [← HQ.o];simp [addH]
   rw [e9]
   exact ⟨rfl,HR.gr HR4.o y9.gr,Mod.trans MOW4.o (y9.gr.mod _) (fun _ _ e=>e)⟩)
 ·rcases e1 with rfl | rfl | rfl
  all_goals (
   go_wp2_with fail
   refine (z9B k mk mi mo mf ⟨hn+1,et,0,hks,his,ht,hb,hof,hfr⟩ er W3 ⟨HK3.o,HM3.o.1,HM3.o.2.1,HM3.o.2.2.1,HM3.o.2.2.2,o1,o2,o3,o4⟩).mono ?_
   rintro en W4 ⟨rfl,hr4,md4⟩
   have HR4:=hid hr4
   have HB4:=hid ((md4.block B (block_lt HB3.o) (by omega)).trans HB3.o)
   have MOW4:=hid (MOW.o.trans (md4.mono fun b _ e=>(show own5 k mk mi mo mf b from e.elim (fun e=>.inr (.inl e)) (fun e=>.inr (.inr (.inl e))))) (fun _ _ e=>e))
   clear hr4 md4
   clear c0 c1 c2 c3 c4 c5 c6 a0 a1 a2 a3 a4 a5 a6 a7 a8 lk3 lc3
   obtain ⟨c0,c1,c2,c3,c4,c5,c6⟩:=z0p HB4.o
   have lcE:=block_lt HB4.o
   go_wp2_with fail
   refine (z1C _ _).mono ?_
   rintro en _ ⟨rfl,y9,rfl⟩
   go_wp2_with fail
   go_ret2
   have e9:H'=⟨hn+1,et,0,rm hks er,rm his er,ht,hb,hof,hfr⟩:=by rw [← HH'.o];simp [addH]
   rw [e9]
   exact ⟨rfl,HR.gr HR4.o y9.gr,Mod.trans MOW4.o (y9.gr.mod _) (fun _ _ e=>e)⟩)
 ·skip
  have hn19:¬ ek=2∧¬ ek=3∧¬ ek=4∧¬ ek=5∧¬ ek=6∧¬ ek=7∧¬ ek=8∧¬ ek=9∧¬ ek=10∧¬ ek=11∧¬ ek=12∧¬ ek=13∧¬ ek=14∧¬ ek=17∧¬ ek=18:=by omega
  obtain ⟨n2,n3,n4,n5,n6,n7,n8,n9,n10,n11,n12,n13,n14,n17,n18⟩:=hn19
  clear c0 c1 c2 c3 c4 c5 c6 a0 a1 a2 a3 a4 a5 a6 a7 a8 lk3 lc3
  obtain ⟨c0,c1,c2,c3,c4,c5,c6⟩:=z0p HB3.o
  have lcE:=block_lt HB3.o
  go_wp2_with fail
  have hc:=z1C ek W3
  rw [decide_eq_true e1] at hc
  refine hc.mono ?_
  clear hc
  rintro en _ ⟨rfl,y9,rfl⟩
  obtain ⟨W4,hW4⟩:∃ W,y9.val=W:=⟨_,rfl⟩
  have G4:=hid (hW4▸y9.gr)
  rw [hW4]
  clear hW4 y9 c0 c1 c2 c3 c4 c5 c6 lcE
  have HK4:=hid ((G4.o.block _ (block_lt HK3.o)).trans HK3.o)
  have HB4:=hid ((G4.o.block _ (block_lt HB3.o)).trans HB3.o)
  obtain ⟨c0,c1,c2,c3,c4,c5,c6⟩:=z0p HB4.o
  obtain ⟨a0,a1,a2,a3,a4,a5,a6,a7,a8⟩:=z2k HK4.o
  have lk4:=block_lt HK4.o
  have lc4:=block_lt HB4.o
  have f2:=z00 (j:=2) HK4.o
  go_wp2_with fail
  go_ret2
  have e9:H'=⟨hn+1,et,ek,hks,his,ht,hb,hof,hfr⟩:=by rw [← HH'.o];unfold addH;repeat (first | rw [if_neg (by simp only;omega)] | rw [if_pos (by simp only;omega)])
  rw [e9]
  have md5:Mod (fun b=>b=k) W4 (W4.setCell ⟨k,2,none⟩ (.int .i64 ek)):=z0c ((Gr.refl W4).mod _)
  have s4:=G4.o.size
  exact ⟨rfl,⟨z02 (j:=2) HK4.o _,(HM3.o.1.gr G4.o).keep (md5.block mk (Nat.lt_of_lt_of_le HM3.o.1.lt s4) (by omega)),(HM3.o.2.1.gr G4.o).keep (md5.block mi (Nat.lt_of_lt_of_le HM3.o.2.1.lt s4) (by omega)),(HM3.o.2.2.1.gr G4.o).keep (md5.block mo (Nat.lt_of_lt_of_le HM3.o.2.2.1.lt s4) (by omega)),(HM3.o.2.2.2.gr G4.o).keep (md5.block mf (Nat.lt_of_lt_of_le HM3.o.2.2.2.lt s4) (by omega)),o1,o2,o3,o4⟩,
   (MOW.o.trans (G4.o.mod _) (fun _ _ e=>e)).trans (md5.mono fun b _ e=>.inl e) (fun _ _ e=>e)⟩
 ·rcases e1 with rfl | rfl | rfl
  all_goals (
   clear c0 c1 c2 c3 c4 c5 c6 a0 a1 a2 a3 a4 a5 a6 a7 a8 lk3 lc3
   obtain ⟨c0,c1,c2,c3,c4,c5,c6⟩:=z0p HB3.o
   have lcE:=block_lt HB3.o
   go_wp2_with fail
   refine (z1C _ _).mono ?_
   rintro en _ ⟨rfl,y9,rfl⟩
   go_wp2_with fail
   go_ret2
   have e9:H'=⟨hn+1,et,0,hks,his,ht,hb,hof,hfr⟩:=by rw [← HH'.o];simp [addH]
   rw [e9]
   exact ⟨rfl,HR.gr (show HR W3 k mk mi mo mf ⟨hn+1,et,0,hks,his,ht,hb,hof,hfr⟩ from ⟨HK3.o,HM3.o.1,HM3.o.2.1,HM3.o.2.2.1,HM3.o.2.2.2,o1,o2,o3,o4⟩) y9.gr,Mod.trans MOW.o (y9.gr.mod _) (fun _ _ e=>e)⟩)
theorem zg0 (H:HS) (e:Ev):(addH H e).n=H.n+1:=by
 unfold addH
 repeat' split
 all_goals rfl
set_option maxHeartbeats 4000000 in
theorem z7y (l:List Ev) (v:Value) (M:Bl) (w:World) (h:z08 evR w M v l) (hc:ChkP h00 l) (hl:l.length≤100000):Calls Tryz.prog 26 #[v] w (RetE .nilIface w):=by
 obtain ⟨A,c,rfl,hlc⟩:=h.shape
 have HL:=hid h
 have HC:=hid hc
 obtain ⟨len,hlen⟩:∃ n,l.length=n:=⟨_,rfl⟩
 have HLEN:=hid hlen
 rw [hlen] at hl HL ⊢
 clear h hc hlen hlc
 refine retE ?_
 go_enter Tryz.func26,Tryz.ntmps26
 go_wp2_with fail
 refine (zai _).mono ?_
 rintro en w1 ⟨mk,hmk,rfl,hr,g⟩
 have HR0:=hid hr
 have G1:=hid g
 clear hr g
 go_wp2_with fail
 go_loopw [11] (fun iv wr=>∃ (i:Nat) (H:HS),iv=.int .i64 i∧i≤len∧Gr w wr∧HR wr (mk+4) mk (mk+1) (mk+2) (mk+3) H∧ChkP H (l.drop i)∧HOk H∧H.n=i) (fun iv _=>len-(intOf iv).toNat)
 case atStart=>exact ⟨0,h00,rfl,Nat.zero_le _,G1.o,HR0.o,HC.o,zho,rfl⟩
 case round =>
  obtain ⟨i,H,rfl,hi,hg,hr,hck,hok,hn⟩:=hrel
  have HG:=hid hg
  have HR1:=hid hr
  have HOK:=hid hok
  have HN:=hid hn
  clear hg hr hok hn HR0 G1
  by_cases hlt:i<len
  ·have hlt':i<l.length:=by rw [HLEN.o];exact hlt
   have hget:l[i]?=some l[i]:=List.getElem?_eq_getElem hlt'
   rw [List.drop_eq_getElem_cons hlt'] at hck
   obtain ⟨b,off,A',c',rfl,hb,hdat,c0,c1,c2,c3,c4,c5,c6⟩:=z6S (HL.o.up (Gr.up HG.o M)) hget
   have HF:=hid hck.1
   have HCK:=hid hck.2
   generalize l[i]=e at *
   clear hck hdat hget
   have hlz:(i:Int)<(len:Int):=by omega
   have hlb:(len:Int)≤100000:=by omega
   go_wp2_with fail
   have hg2:=(Gr.refl wr).alloc (.cells #[.int .i64 e.kind,.int .i64 e.tick,.int .i64 e.ref,.int .i64 e.id,.int .i64 e.list,.int .i64 e.n,.slice A' e.data.length c'] 41)
   have hgw:=HG.o.trans hg2
   refine (zeI _ _ _ _ _ H e A' c' _ (HR1.o.gr hg2) HF.o HOK.o (by have:=HN.o;omega)).mono ?_
   rintro en w3 ⟨rfl,hr3,md3⟩
   have G3:=hid (z2c hgw md3 (fun b e=>by unfold own5 at e;omega))
   have HR3:=hid hr3
   clear hr3 md3 hgw hg2 c0 c1 c2 c3 c4 c5 c6
   go_wp2_with fail
   go_roundw
   case rel=>exact ⟨i+1,_,by go_num,by omega,G3.o,HR3.o,HCK.o,HOK.o.add e,by rw [zg0,HN.o];rfl⟩
   case measure=>simp [intOf];omega
  ·have hlz:¬ (i:Int)<(len:Int):=by omega
   go_wp2_with fail
   go_ret
   exact ⟨rfl,HG.o⟩
end Go.Proofs.YtniknicnnaiilaaGreat
end
section
namespace Go.Proofs.YtniknicnnaiilaaGreat
set_option maxRecDepth 100000
open Go.RowKit Go.Ext Go.BigFrame Go.Maps Go.MapKept
attribute [local go_sem] Ext.cell Ext.frozen Ext.lt Ext.le s1 s2 s3 s4 s5 s6 t1 t2 t3 t4 t5 t6
attribute [local go_sem ↓] Go.wp_at_zero Go.wp_at_succ
def z60 (t:Tok):Prop:=I64 t.flow∧I64 t.run∧I64 t.event∧I64 t.turn
def tv (t:Tok):Value:=.agg #[.int .i64 t.flow,.int .i64 t.run,.int .i64 t.event,.int .i64 t.turn]
def MT (w:World) (b n:Nat) (S:(Tok→Bool)):Prop :=
 ∃ D:DataW Empty,w.ownsMap Tryz.prog 28 (plainElem Tryz.prog 4) b n D∧∀ x l,keyOf Tryz.prog 28 (tv x)=some l→D.atKey l (.lit (.bool false))=.lit (.bool (S x))
section
variable {w w':World} {b n:Nat} {S:(Tok→Bool)}
end
end Go.Proofs.YtniknicnnaiilaaGreat
end
section
namespace Go.Proofs.YtniknicnnaiilaaGreat
set_option maxRecDepth 100000
open Go.RowKit Go.Ext Go.BigFrame Go.Maps Go.MapKept
attribute [local go_sem] Ext.cell Ext.frozen Ext.lt Ext.le s1 s2 s3 s4 s5 s6 t1 t2 t3 t4 t5 t6
attribute [local go_sem ↓] Go.wp_at_zero Go.wp_at_succ
theorem z2x (E:ES) (n:Int):(EOk E→EOk (z0S E n).2)∧(z0S E n).2.due.length≤E.due.length∧(z0S E n).2.groups=E.groups∧Gro E (z0S E n).2:=by
 unfold z0S
 split
 ·exact ⟨id,Nat.le_refl _,rfl,Gro.refl _⟩
 split
 ·exact ⟨id,Nat.le_refl _,rfl,Gro.refl _⟩
 rename_i h1 h2
 have hx:=z76 (E.now+n) E.due.length E
 have hg:=z6X (E.now+n) E.due.length E
 refine ⟨fun e=>?_,by have:=hx.due;simpa using this,hx.groups,hg.trans (.same rfl) hx.ok⟩
 obtain ⟨a,_,c,d,e',f,g⟩:=hx.ok e
 have hn:=e.now
 exact ⟨a,by simp only;omega,c,d,e',f,g⟩
end Go.Proofs.YtniknicnnaiilaaGreat
end
