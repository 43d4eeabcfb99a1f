/- Lemmas of the engine. -/
import Derived.Deep.AppendLies
import Derived.Test.YtniknicnnaiilaaGreatX06
import Derived.Test.YtniknicnnaiilaaGreatX15
section
namespace Go.Proofs.YtniknicnnaiilaaGreat
set_option maxRecDepth 100000
open Go.RowKit Go.Ext Go.BigFrame Go.Maps Go.MapKept
attribute [local go_sem] Ext.cell Ext.frozen Ext.lt Ext.le s1 s2 s3 s4 s5 s6 t1 t2 t3 t4 t5 t6
attribute [local go_sem ↓] Go.wp_at_zero Go.wp_at_succ
def z9n (w:World) (M:Bl) (B0:Nat) (v:Value) (xs:List Ev):Prop:=∃ ds,DatM w (fun b=>M b∨v.ownBlock=some b) (xs.map evR) ds∧w.ownsRow B0 41 7 v xs.length (rowC (xs.map evR) ds)
theorem z9n.recs {w:World} {M:Bl} {B0:Nat} {v:Value} {xs:List Ev} (h:z9n w M B0 v xs) (hM:∀ b,M b→b<B0):z08 evR w M v xs:=by
 obtain ⟨ds,hd,ho⟩:=h
 have hd':=DatM.up (w:=w) (M':=M) ⟨(Gr.refl w).mod _,fun b _ e=>.inl e⟩ hd
 rcases id ho.2 with ⟨rfl,h0⟩ | ⟨g,cap,cur,rfl,hb,hh,hc,_⟩
 ·have:xs=[]:=List.eq_nil_of_length_eq_zero h0
  subst this
  exact z08.none _ _ _
 ·refine ⟨some ⟨g,0,none⟩,cap,ds,rfl,hc,hd',Rd.m (Rd.of_own ho) ?_,fun e=>by cases e⟩
  rintro b off e _ hb2
  injection e with e
  injection e with e1
  subst e1
  have:=hM _ hb2
  omega
theorem z6I {W:World} {B:Nat} {t:TypeId} {a b c d e f g:Value} (h:W.heap[B]?=some (.cells #[a,b,c,d,e,f,g] t (0,0))):W.cell? ⟨B,0,none⟩=some a∧W.cell? ⟨B,1,none⟩=some b∧W.cell? ⟨B,2,none⟩=some c∧W.cell? ⟨B,3,none⟩=some d∧W.cell? ⟨B,4,none⟩=some e∧W.cell? ⟨B,5,none⟩=some f∧W.cell? ⟨B,6,none⟩=some g:=by
 refine ⟨?_,?_,?_,?_,?_,?_,?_⟩<;>simp [World.cell?,h]
theorem zgi {w:World} {M:Bl} (e:Ev) {dv:Value} (h:BysM w M dv e.data):∀ u∈recC (evR e) dv,u.oneCell'=true:=fun u hu=>by
 simp only [recC,List.mem_append,List.mem_map,List.mem_singleton] at hu
 rcases hu with ⟨n,_,rfl⟩ | rfl
 ·rfl
 ·obtain ⟨_,_,rfl⟩:=h.shape;rfl
set_option maxHeartbeats 4000000 in
theorem z4e (k mb:Nat) (F:FS) (M:Bl) (from_:Int) (w:World) (h:z0H w M k mb F) (hl:F.l.length≤100000) (hne:F.l≠[]) (hM:∀ b,M b→b<w.heap.size) (hf:-1000000000≤from_∧from_≤1000000000) :
    Calls Tryz.prog 67 #[.pointer (some ⟨k,0,none⟩),.int .i64 from_] w (fun e w'=>∃ A c,e=.returned (.slice A (z15 F from_).length c)∧Gr w w'∧z08 evR w' M (.slice A (z15 F from_).length c) (z15 F from_)):=by
  obtain ⟨A,c,hc,⟨c0,c1,c2,c3,c4,c5,c6,c7,c8,c9,c10,c11⟩,hr,hk⟩:=h.parts
  have HR:=hid hr
  have HM:=hid hM
  have hpos:0<F.l.length:=List.length_pos_iff.2 hne
  unfold z15
  by_cases hlong:(F.l.length:Int)<from_
  · rw [if_pos hlong]
    clear h hr hM
    go_enter Tryz.func67,Tryz.ntmps67
    go_wp2_with fail
    go_ret
    exact ⟨none,0,rfl,Gr.refl w,z08.none _ _ _⟩
  rw [if_neg hlong]
  obtain ⟨j0,hj0⟩:∃ j0:Nat,max from_ 1=(j0:Int)+1:=⟨(max from_ 1-1).toNat,by omega⟩
  have hj1:j0<F.l.length:=by omega
  rw [show (max from_ 1-1).toNat=j0 by omega]
  obtain ⟨b,off,_,rfl,hb,hMb,_,_⟩:=hr.at_ (m:=6) (fun x=>z14 x) (List.getElem?_eq_getElem hj1)
  obtain ⟨L,hL⟩:∃ L,F.l.drop j0=L:=⟨_,rfl⟩
  have HLD:=hid hL
  have hLl:L.length=F.l.length-j0:=by rw [← hL,List.length_drop]
  rw [hL]
  clear hL h hr hM
  have kw:IntKind.i64.wrap ((j0:Int)+1-1)=(j0:Int):=by
    rw [show (j0:Int)+1-1=(j0:Int) by omega]
    exact IntWalk.i64_in _ (by omega)
  have hA':(if c=j0 then some (⟨b,off,none⟩:Addr) else some ⟨b,off+j0 * 7,none⟩)=some ⟨b,off+j0 * 7,none⟩:=if_neg (by omega)
  obtain ⟨i0,hi0,hz0,hz1,hz2⟩:=info_parts z6k
  go_enter Tryz.func67,Tryz.ntmps67
  go_upto_region 4 with fail
  go_cut [22,23,24] from 25 (fun v n z wx=>v=.slice (some ⟨b,off+j0 * 7,none⟩) L.length (c-j0)∧n=.int .i64 L.length∧z=.int .i64 0∧wx=w)
  case first =>
    by_cases h1:from_<1
    · obtain rfl:j0=0:=by omega
      have h2:¬ 1≤from_:=by omega
      have h3:¬ 1<from_:=by omega
      have h4:from_≤1:=by omega
      simp only [Nat.zero_mul,Nat.add_zero,Nat.sub_zero] at hA' hLl ⊢
      clear hA'
      go_wp2_with fail
      go_meet
      exact ⟨by simp [hLl],by simp [hLl],rfl,rfl⟩
    · obtain rfl:from_=(j0:Int)+1:=by omega
      go_wp2_with fail
      go_meet
      exact ⟨by rw [hLl],by rw [hLl],rfl,rfl⟩
  case rest =>
    obtain ⟨rfl,rfl,rfl,rfl⟩:=hcut
    have hLb:L.length≤100000:=by omega
    clear hLl
    go_wp2_with fail
    go_loopw [5,24] (fun ov iv wr=>∃ i:Nat,iv=.int .i64 i∧i≤L.length∧Gr wc wr∧z9n wr M wc.heap.size ov (L.take i)) (fun _ iv _=>L.length-(intOf iv).toNat)
    case atStart=>exact ⟨0,rfl,Nat.zero_le _,Gr.refl _,[],trivial,World.ownsRow_nil _ _ _ _⟩
    case round =>
      obtain ⟨i,rfl,hi,hg,hoe⟩:=hrel
      have HG:=hid hg
      by_cases hlt:i<L.length
      · have hget:F.l[j0+i]?=some L[i]:=by
          have h5:L[i]?=some L[i]:=List.getElem?_eq_getElem hlt
          have h6:(F.l.drop j0)[i]?=L[i]?:=by rw [HLD.o]
          rw [List.getElem?_drop] at h6
          exact h6.trans h5
        have htake:L.take (i+1)=L.take i++[L[i]]:=by rw [List.take_add_one,List.getElem?_eq_getElem hlt];rfl
        obtain ⟨e,he⟩:∃ e,L[i]=e:=⟨_,rfl⟩
        rw [he] at hget htake
        obtain ⟨b',off',d,hbo,hb2,hMb2,hdat,hcell⟩:=(HR.o.up (Gr.up hg M)).at_ (m:=6) (fun x=>z14 x) hget
        injection hbo with hbo
        injection hbo with hb' ho' _
        subst hb' ho'
        have hadr:∀ j,off+(j0+i) * (6+1)+j=off+j0 * 7+i * 7+j:=fun j=>by omega
        have g0:=hcell 0 (.int .i64 e.kind) rfl
        have g1:=hcell 1 (.int .i64 e.tick) rfl
        have g2:=hcell 2 (.int .i64 e.ref) rfl
        have g3:=hcell 3 (.int .i64 e.id) rfl
        have g4:=hcell 4 (.int .i64 e.list) rfl
        have g5:=hcell 5 (.int .i64 e.n) rfl
        have g6:=hcell 6 d rfl
        rw [hadr] at g0 g1 g2 g3 g4 g5 g6
        rw [Nat.add_zero] at g0
        obtain ⟨Ad,cd,rfl⟩:=hdat.shape
        have HC:=hid (fun (W:World) (y:Gr wr W)=>z0I _ e.data W (hdat.bys.gr y))
        obtain ⟨ds,hds,hown⟩:=hoe
        obtain ⟨Ao,co,rfl,hco,_⟩:=z1c hown
        have HDS:=hid hds
        have HOWN:=hid hown
        have hti:(L.take i).length=i:=by rw [List.length_take];omega
        have HTI:=hid hti
        have HTAKE:=hid htake
        have hlz:(i:Int)<(L.length:Int):=by omega
        clear hds hown hget he hdat hcell hadr htake hg
        rcases e with ⟨ek,et,er,ei,el,en_,ed⟩
        simp only [evR] at g0 g1 g2 g3 g4 g5 g6 HC
        rw [hti] at hco
        clear hti
        have G1:=hid ((Gr.refl wr).alloc (.cells #[.int .i64 ek,.int .i64 et,.int .i64 er,.int .i64 ei,.int .i64 el,.int .i64 en_,.slice Ad ed.length cd] 41))
        have HOL:=hid (show ∀ b,(Value.slice Ao i co).ownBlock=some b→wc.heap.size≤b∧b<wr.heap.size from fun b e=>by
          have:=HOWN.o.lt b (by rw [HTI.o];exact e)
          exact this)
        have hgs:=HG.o.size
        go_wp2_with (first
          | (go_at_call 91
             refine (HC.o _ G1.o).mono ?_
             rintro enn _ ⟨A3,c3_,y2,rfl,rfl,hl3,ho3⟩
             have HO3:=hid ho3
             have HL3:=hid hl3
             have HB:=hid ((y2.gr.block _ (by simp)).trans (heap_alloc_new wr _))
             have hbl:=block_lt HB.o
             have fz:=z00 (j:=6) HB.o
             obtain ⟨p0,p1,p2,p3,p4,p5,p6⟩:=z6I HB.o
             have W3:=hid (G1.o.ext y2 |>.set (p:=⟨wr.heap.size,6,none⟩) (Nat.le_refl _) (.slice A3 ed.length c3_))
             have HD3:=hid (show BysM (y2.val.setCell ⟨wr.heap.size,6,none⟩ (.slice A3 ed.length c3_)) (fun b=>M b∨(Value.slice Ao i co).ownBlock=some b) (.slice A3 ed.length c3_) ed from
               BysM.of_own (B:=wr.heap.size+1) (z2J (by simpa using ho3) (z0m (S:=fun b=>b=wr.heap.size) ((Gr.refl _).mod _) (fun _=>rfl) _) (fun q e1 e2=>by have:=(ho3.lt q e1).1;simp at this;omega)) (fun b hb e=>by
                 rcases e with e | e
                 · have:=HM.o b e;omega
                 · have:=(HOL.o b e).2;omega) hl3)
             have HNB:=hid (show ((y2.val.setCell ⟨wr.heap.size,6,none⟩ (.slice A3 ed.length c3_)).alloc (.cells (recC (evR ⟨ek,et,er,ei,el,en_,ed⟩) (.slice A3 ed.length c3_)).toArray 41)).heap[y2.val.heap.size]?=some (.cells (recC (evR ⟨ek,et,er,ei,el,en_,ed⟩) (.slice A3 ed.length c3_)).toArray 41 (0,0)) from by
               have h9:=heap_alloc_new (y2.val.setCell ⟨wr.heap.size,6,none⟩ (.slice A3 ed.length c3_)) (.cells (recC (evR ⟨ek,et,er,ei,el,en_,ed⟩) (.slice A3 ed.length c3_)).toArray 41)
               rw [show (y2.val.setCell ⟨wr.heap.size,6,none⟩ (.slice A3 ed.length c3_)).heap.size=y2.val.heap.size by simp [World.setCell]] at h9
               exact h9)
             clear ho3 hl3)
          | (at_builtin;go_loud ((refine wpList_append_lies _ rfl _ _ 29 rfl wc.heap.size 41 i0 _ 7 72 Tryz.underlying29 hi0 hz0 hz1 hz2 rfl (by omega) (.slice Ao i co) i (rowC ((L.take i).map evR) ds) rfl (by have:=z3S HOWN.o (W3.o.alloc (.cells (recC (evR ⟨ek,et,er,ei,el,en_,ed⟩) (.slice A3 ed.length c3_)).toArray 41));rw [HTI.o] at this;exact this) ⟨_,0,none⟩ 1 1 (recC (evR ⟨ek,et,er,ei,el,en_,ed⟩) (.slice A3 ed.length c3_)) rfl rfl (World.news_of_block (cs:=(recC (evR ⟨ek,et,er,ei,el,en_,ed⟩) (.slice A3 ed.length c3_)).toArray) HNB.o) (zgi _ HD3.o) (by omega) (by unfold maxLen;omega) (by omega) (by have:=W3.o.size;simp;omega) _ rfl ?_;intro gg cap w7 hown7 hgrow hat hlt7))))
        go_roundw
        case rel =>
          have hv7:(Value.slice (some ⟨gg,0,none⟩) (i+1) cap).ownBlock=(Value.slice Ao i co).ownBlock∨∃ b,(Value.slice (some ⟨gg,0,none⟩) (i+1) cap).ownBlock=some b∧wr.heap.size≤b:=by
            rcases hat with h | h
            · exact .inl h.symm
            · exact .inr ⟨gg,rfl,by have:=W3.o.size;simp at h;omega⟩
          have mg:=z2f hgrow
          have hs7:=mg.size
          have hw3:=W3.o.size
          have g7:Gr wc w7:=by
            have ga:=HG.o.trans (W3.o.alloc (.cells (recC (evR ⟨ek,et,er,ei,el,en_,ed⟩) (.slice A3 ed.length c3_)).toArray 41))
            exact ⟨mg.os.trans ga.os,mg.tape.trans ga.tape,mg.output.trans ga.output,Nat.le_trans ga.size mg.size,fun b hb=>(mg.block b (Nat.lt_of_lt_of_le hb ga.size) (fun e=>by have:=(HOL.o b e.symm).1;omega)).trans (ga.block b hb)⟩
          refine ⟨i+1,by go_num,by omega,g7,ds++[.slice A3 ed.length c3_],?_,?_⟩
          · have u:Up (fun b=>M b∨(Value.slice Ao i co).ownBlock=some b) (((y2.val.setCell ⟨wr.heap.size,6,none⟩ (.slice A3 ed.length c3_)).alloc (.cells (recC (evR ⟨ek,et,er,ei,el,en_,ed⟩) (.slice A3 ed.length c3_)).toArray 41))) (fun b=>M b∨(Value.slice (some ⟨gg,0,none⟩) (i+1) cap).ownBlock=some b) w7:=by
              refine ⟨mg.mono fun b _ e=>.inr e.symm,fun b hb e=>?_⟩
              rcases e with e | e
              · exact .inl e
              · rcases hat with h | h
                · exact .inr (h.symm▸e)
                · injection e with e
                  (try simp [World.setCell] at h)
                  have hb':b<y2.val.heap.size+1:=by simpa [World.setCell] using hb
                  dsimp only at e
                  omega
            rw [HTAKE.o,List.map_append]
            refine DatM.app ((DatM.up (Gr.up (W3.o.alloc _) _) ?_).up u) ⟨(HD3.o.up (Gr.up ((Gr.refl _).alloc _) _)).up u,trivial⟩
            have:=HDS.o
            rw [HTI.o] at this
            exact this
          · rw [HTAKE.o,List.map_append,z4y _ _ _ _ HDS.o.len,List.length_append,HTI.o]
            simpa [rowC] using hown7
        case measure=>simp [intOf];omega
      · have hil:i=L.length:=by omega
        obtain ⟨ds,hds,hown⟩:=hoe
        obtain ⟨Ao,co,rfl,hco,_⟩:=z1c hown
        have HR9:=hid (z9n.recs (M:=M) ⟨ds,hds,hown⟩ (fun b e=>HM.o b e))
        have htk:L.take i=L:=by rw [hil];exact List.take_length
        rw [htk] at HR9
        have hti:(L.take i).length=L.length:=by rw [htk]
        rw [hti]
        have hlz:¬ (i:Int)<(L.length:Int):=by omega
        clear hds hown hg
        go_wp2_with fail
        go_ret
        exact ⟨Ao,co,rfl,HG.o,HR9.o⟩
set_option maxHeartbeats 4000000 in
theorem zgK (PUT:z0e) (k:Nat) (E:ES) (id n now:Int) (o:Out) (d:Value) (M S:Bl) (w:World) (h:EngR w M S k E) (hE:EOk E) (hdue:E.due.length≤999000) (r:RunS) (hr:lk E.runs id=some r) (hd:BysM w M d o.data) (hk:o.kind=8) :
    Calls Tryz.prog 117 #[.pointer (some ⟨k,0,none⟩),.int .i64 id,.int .i64 n,.int .i64 now,outV o d] w (RetS M S k (outE E id n now o) (.bool true) vF w):=by
  obtain ⟨kd,ka,md,ma,mr,kh,hv,hP⟩:=h
  have H:=hid hP
  obtain ⟨e0,e1,e2,e3,e4,e5,e6,hkl⟩:=hP.cells
  have HDR:=hid (fun (W:World) (y:Gr w W)=>z9A 0 kh hv E.due id n W (hP.gr y).h (by omega))
  have HD:=hid hd
  obtain ⟨Ad,cd,rfl⟩:=hd.shape
  have hE1:EOk { E with due:=z20 E.due id n }:=(z3D (m:=0) (fun e=>z3K e _ _) (Nat.le_trans (z2Y _ _ _) (by omega))).ok hE
  have HE1:=hid hE1
  have HD1:=hid (show (z20 E.due id n).length≤999000 from Nat.le_trans (z2Y _ _ _) hdue)
  have HR0:=hid hr
  have HNX:=hid hP.nes
  obtain ⟨X,hX⟩:∃ X,outE E id n now o=X:=⟨_,rfl⟩
  rw [hX]
  unfold outE at hX
  rw [if_neg (by omega),if_neg (by omega)] at hX
  simp only [hr] at hX
  rw [if_pos hk] at hX
  have HX:=hid hX
  clear hX
  rcases o with ⟨ok,ol,or_,ot,oa,oi,on,od⟩
  simp only at hk
  subst hk
  simp only [outV] at *
  clear hP hd hE1
  have HDE:=hid (show z20 E.due id n=z8K E.due id n from rfl)
  generalize od.length=dl at *
  go_enter Tryz.func117,Tryz.ntmps117
  go_upto_region 14 with (first
    | (go_at_call 161
       refine (HDR.o _ ((Gr.refl w).alloc _)).mono ?_
       rintro en w3 ⟨hv3,rfl,hhb,hhm,hho⟩
       have P3:=hid ((H.o.gr ((Gr.refl w).alloc _)).setDue hhm (HDE.o▸hhb) hho)
       have AL:=hid (show z0j w M S w3 (own M hv3) (own S hv3) from by
         have hr:=(H.o.gr ((Gr.refl w).alloc (.cells #[.int .i64 8,.int .i64 ol,.int .i64 or_,.int .i64 ot,.int .i64 oa,.int .i64 oi,.int .i64 on,.slice Ad dl cd] 188))).retDue (vok:=.bool true) (vfull:=vF) (e:=.returned (.bool true)) (due:=z20 E.due id n) ⟨hv3,rfl,HDE.o▸hhb,hhm,hho⟩
         refine ⟨(((Gr.refl w).alloc _).mod S).trans (hhm.mono fun b _ e=>?_) (fun _ _ e=>e),fun b hb e=>?_,fun b hb e=>?_,fun b e=>.inl e⟩
         · rcases e with rfl | e
           · exact H.o.skh
           · exact H.o.shv b e.symm
         · rcases e with e | e
           · exact e
           · rcases hho with hho | ⟨c,hho,hc⟩
             · rw [hho] at e;exact H.o.shv b e
             · rw [hho] at e;injection e with e;simp at hc;omega
         · rcases e with e | e
           · exact e
           · rcases hho with hho | ⟨c,hho,hc⟩
             · rw [hho] at e;exact H.o.SM b (H.o.shv b e)
             · rw [hho] at e;injection e with e;simp at hc;omega)
       have HB:=hid ((hhm.block w.heap.size (by simp) (by
         rintro (e | e)
         · have:=H.o.h.lt;omega
         · have:=(HNX.o.2.2.2.2.2.2.2 _ e.symm).2.2.2.2;omega)).trans (heap_alloc_new w _))
       clear hhb hhm hho))
  obtain ⟨b0,b1,b2,b3,b4,b5,b6,b7⟩:=z4S HB.o
  have hbl:=block_lt HB.o
  obtain ⟨f0,f1,f2,f3,f4,f5,f6,hk3⟩:=P3.o.cells
  have HD3:=hid (HD.o.up (AL.o.up H.o.SM))
  rcases P3.o.look id false with ⟨hn,_⟩ | ⟨r',kf,hr',hf,hlk'⟩
  · have hn':lk E.runs id=none:=hn
    rw [HR0.o] at hn'
    cases hn'
  have hr2:lk E.runs id=some r':=hr'
  rw [HR0.o] at hr2
  injection hr2 with hr2
  subst hr2
  clear hr'
  have hlk:=hlk' w3 (Gr.refl w3)
  simp only [Bool.false_eq_true,if_false,runV] at hlk
  have HF:=hid hf
  clear hlk' hf hr
  have hne:r.f.l≠[]:=(hE.get HR0.o).1.ne
  have hfl:=(hE.get HR0.o).1.len
  obtain ⟨first,rest,hfr⟩:∃ a l,r.f.l=a::l:=by
    rcases hh:r.f.l with _ | ⟨a,l⟩
    · exact absurd hh hne
    · exact ⟨a,l,rfl⟩
  have HX1:=hid (show X=(z0U { E with due:=z20 E.due id n } id first.list first.n od r.pf r.pr now).map (·.1) by rw [← HX.o];rw [hfr])
  have HEVL:=hid (show z15 r.f 1=first::rest by
    unfold z15
    rw [if_neg (by rw [hfr];simp only [List.length_cons];omega),hfr]
    rfl)
  obtain ⟨_,mb,_,hflow⟩:=HF.o
  have HEV:=hid (fun (W:World) (g:Gr w3 W)=>z4e kf mb r.f (own M hv3) 1 W (hflow.gr g) (by omega) hne (fun b e=>Nat.lt_of_lt_of_le (P3.o.lt b e) g.size) (by omega))
  have HBG:=hid (fun (W:World) (g:Gr w3 W)=>z5g PUT k { E with due:=z20 E.due id n } id first.list first.n (.slice Ad dl cd) od r.pf r.pr now (own M hv3) (own S hv3) W ⟨kd,ka,md,ma,mr,kh,hv3,P3.o.gr g⟩ HE1.o HD1.o (HD3.o.up (Gr.up g _)))
  obtain ⟨R,hR⟩:∃ R,(z0U { E with due:=z20 E.due id n } id first.list first.n od r.pf r.pr now).map (·.1)=R:=⟨_,rfl⟩
  have HXR:=hid (HX1.o.trans hR)
  rw [hR] at HBG
  obtain ⟨N,hN⟩:∃ N,z5L { E with due:=z20 E.due id n } id=N:=⟨_,rfl⟩
  rw [hN] at HBG
  rw [HEVL.o] at HEV
  clear hR hN hflow hfr hne HX1 HX HEVL hfl
  rcases first with ⟨ek,et,er,ei,el,en_,ed⟩
  cases R with
  | none =>
    go_wp2_with (first
      | (go_at_call 67
         refine (HEV.o _ ((Gr.refl w3).alloc _)).mono ?_
         rintro en w5 ⟨A5,c5,rfl,g5,hrec5⟩
         obtain ⟨bb,off,dv,rfl,hbb,hMb,hdat,hcell⟩:=hrec5.at_ (m:=6) (fun x=>z14 x) (i:=0) (x:=⟨ek,et,er,ei,el,en_,ed⟩) rfl
         obtain ⟨Adv,cdv,rfl⟩:=hdat.shape
         have hadr:∀ j,off+0 * (6+1)+j=off+j:=fun j=>by omega
         have g0:=hcell 0 (.int .i64 ek) rfl
         have g1:=hcell 1 (.int .i64 et) rfl
         have g2:=hcell 2 (.int .i64 er) rfl
         have g3:=hcell 3 (.int .i64 ei) rfl
         have g4:=hcell 4 (.int .i64 el) rfl
         have g5':=hcell 5 (.int .i64 en_) rfl
         have g6:=hcell 6 (.slice Adv (evR ⟨ek,et,er,ei,el,en_,ed⟩).2.length cdv) rfl
         rw [hadr] at g0 g1 g2 g3 g4 g5' g6
         rw [Nat.add_zero] at g0
         have GE:=hid (((Gr.refl w3).alloc (.cells #[.pointer (some ⟨kf,0,none⟩),.int .i64 r.pf,.int .i64 r.pr] 109)).trans g5)
         have hrb:=(g5.block w3.heap.size (by simp)).trans (heap_alloc_new w3 _)
         obtain ⟨y0,y1,y2⟩:=z0o hrb
         have hrl:=block_lt hrb
         have hob:=(GE.o.block _ (block_lt HB.o)).trans HB.o
         obtain ⟨z0,z1,z2,z3,z4,z5,z6,z7⟩:=z4S hob
         have hol:=block_lt hob
         have GB:=hid (GE.o.alloc (.cells #[.int .i64 ek,.int .i64 et,.int .i64 er,.int .i64 ei,.int .i64 el,.int .i64 en_,.slice Adv (evR ⟨ek,et,er,ei,el,en_,ed⟩).2.length cdv] 41))
         clear hrec5 hcell hadr hrb hob hdat g5)
      | (go_at_call 100
         refine (HBG.o _ GB.o).mono ?_
         intro en w9 hret
         rcases (hret.grow GB.o).cases with ⟨_,v9,hen,hv9,hm9⟩ | ⟨E9,M9,S9,e9,_⟩
         rotate_left
         · cases e9
         obtain ⟨x9,rfl⟩:=hv9
         subst hen
         have HM9:=hid hm9
         clear hret hm9))
    go_ret
    rw [HXR.o]
    exact RetS.none_ AL.o HM9.o rfl
  | some E' =>
    go_wp2_with (first
      | (go_at_call 67
         refine (HEV.o _ ((Gr.refl w3).alloc _)).mono ?_
         rintro en w5 ⟨A5,c5,rfl,g5,hrec5⟩
         obtain ⟨bb,off,dv,rfl,hbb,hMb,hdat,hcell⟩:=hrec5.at_ (m:=6) (fun x=>z14 x) (i:=0) (x:=⟨ek,et,er,ei,el,en_,ed⟩) rfl
         obtain ⟨Adv,cdv,rfl⟩:=hdat.shape
         have hadr:∀ j,off+0 * (6+1)+j=off+j:=fun j=>by omega
         have g0:=hcell 0 (.int .i64 ek) rfl
         have g1:=hcell 1 (.int .i64 et) rfl
         have g2:=hcell 2 (.int .i64 er) rfl
         have g3:=hcell 3 (.int .i64 ei) rfl
         have g4:=hcell 4 (.int .i64 el) rfl
         have g5':=hcell 5 (.int .i64 en_) rfl
         have g6:=hcell 6 (.slice Adv (evR ⟨ek,et,er,ei,el,en_,ed⟩).2.length cdv) rfl
         rw [hadr] at g0 g1 g2 g3 g4 g5' g6
         rw [Nat.add_zero] at g0
         have GE:=hid (((Gr.refl w3).alloc (.cells #[.pointer (some ⟨kf,0,none⟩),.int .i64 r.pf,.int .i64 r.pr] 109)).trans g5)
         have hrb:=(g5.block w3.heap.size (by simp)).trans (heap_alloc_new w3 _)
         obtain ⟨y0,y1,y2⟩:=z0o hrb
         have hrl:=block_lt hrb
         have hob:=(GE.o.block _ (block_lt HB.o)).trans HB.o
         obtain ⟨z0,z1,z2,z3,z4,z5,z6,z7⟩:=z4S hob
         have hol:=block_lt hob
         have GB:=hid (GE.o.alloc (.cells #[.int .i64 ek,.int .i64 et,.int .i64 er,.int .i64 ei,.int .i64 el,.int .i64 en_,.slice Adv (evR ⟨ek,et,er,ei,el,en_,ed⟩).2.length cdv] 41))
         clear hrec5 hcell hadr hrb hob hdat g5)
      | (go_at_call 100
         refine (HBG.o _ GB.o).mono ?_
         intro en w9 hret
         rcases (hret.grow GB.o).cases with ⟨e9,_⟩ | ⟨E9,M9,S9,e9,hen,he9,ha9⟩
         · cases e9
         injection e9 with e9
         subst e9
         subst hen
         have HE9:=hid he9
         have HA9:=hid ha9
         clear hret he9 ha9))
    go_ret
    rw [HXR.o]
    exact RetS.some_ (AL.o.trans HA9.o) HE9.o
theorem zfA (PUT:z0e) (k:Nat) (E:ES) (id n now:Int) (o:Out) (d:Value) (M S:Bl) (w:World) (h:EngR w M S k E) (hE:EOk E) (hdue:E.due.length≤999000) (r:RunS) (hr:lk E.runs id=some r) (hd:BysM w M d o.data) (hk:1≤o.kind∧o.kind≤8) :
  Calls Tryz.prog 117 #[.pointer (some ⟨k,0,none⟩),.int .i64 id,.int .i64 n,.int .i64 now,outV o d] w (RetS M S k (outE E id n now o) (.bool true) vF w):=by
 rcases Int.lt_or_le o.kind 6 with h5 | h5
 ·have he:outE E id n now o=out0 E id n o:=by unfold outE;rw [if_pos (by omega)]
  rw [he]
  exact z9Y k E id n now o d M S w h hE (by omega) (by obtain ⟨A,c,e⟩:=hd.shape;exact ⟨A,_,c,e⟩) ⟨hk.1,by omega⟩
 ·have hc:o.kind=6∨o.kind=7∨o.kind=8:=by omega
  rcases hc with hc | hc | hc
  ·exact zgI PUT k E id n now o d M S w h hE hdue r hr hd hc
  ·exact zgJ PUT k E id n now o d M S w h hE hdue r hr hd hc
  ·exact zgK PUT k E id n now o d M S w h hE hdue r hr hd hc
def Has (id:Int) (E:ES):Prop:=∃ r,lk E.runs id=some r
theorem zff {id:Int} {E E':ES} (h:Has id E) (g:∀ id r,lk E.runs id=some r→∃ r',lk E'.runs id=some r'):Has id E':=by
 obtain ⟨r,h⟩:=h
 exact g id r h
end Go.Proofs.YtniknicnnaiilaaGreat
end
