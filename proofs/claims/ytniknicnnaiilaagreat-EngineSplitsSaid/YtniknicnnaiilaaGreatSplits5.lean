/- Lemmas of the engine. -/
import Derived.Test.YtniknicnnaiilaaGreatX06
import Derived.Test.YtniknicnnaiilaaGreatX22
import Derived.Test.YtniknicnnaiilaaGreatX30
import Derived.Test.YtniknicnnaiilaaGreatX36
import Derived.Test.YtniknicnnaiilaaGreatSplits1
import Derived.Test.YtniknicnnaiilaaGreatSplits4
section
namespace Go.Proofs.YtniknicnnaiilaaGreat
set_option maxRecDepth 100000
open Go.RowKit Go.Ext Go.BigFrame Go.Maps Go.MapKept
attribute [local go_sem] Ext.cell Ext.frozen Ext.lt Ext.le s1 s2 s3 s4 s5 s6 t1 t2 t3 t4 t5 t6
attribute [local go_sem ↓] Go.wp_at_zero Go.wp_at_succ
def z5p (id:Int) (o:Option RunS):List UInt8:=match o with | some r=>z1A [id,r.pf,r.pr]++encB (encF r.f) | none=>[]
def z2I (E:ES) (l:List Int):List UInt8:=l.flatMap fun id=>z5p id (lk E.runs id)
def zeY (x:It):List UInt8:=z1A [x.1,x.2.1,x.2.2.1,x.2.2.2.1,x.2.2.2.2.1,x.2.2.2.2.2]
def z5l (L:List It):List UInt8:=L.flatMap zeY
def encE (E:ES):List UInt8:=z1A [E.shard,E.groups,E.now,(E.runs.length:Int)]++z2I E (z1j E.runs)++encR E.dec++encR E.act++z1A [(E.due.length:Int)]++z5l E.due
theorem z8L {E:ES} (hE:EOk E) (id:Int):(z5p id (lk E.runs id)).length≤17100000:=by
 unfold z5p
 cases h:lk E.runs id with
 | none=>simp
 | some r =>
  obtain ⟨h1,_⟩:=hE.get h
  have h2:=z6Q (F:=r.f) fun e he=>(h1.i.evs e he).2.2
  have h3:=z6P (encF r.f)
  have h4:=z0Y [id,r.pf,r.pr]
  have h5:=h1.len
  simp only [List.length_append,List.length_cons,List.length_nil] at *
  omega
theorem z5q {E:ES} (hE:EOk E) (l:List Int):(z2I E l).length≤17100000 * l.length:=by
 induction l with
 | nil=>simp [z2I]
 | cons x r ih =>
  have:=z8L hE x
  simp only [z2I,List.flatMap_cons,List.length_append,List.length_cons] at *
  omega
theorem z8M {E:ES} {l:List Int} {i:Nat} {x:Int} (h:l[i]?=some x):z2I E (l.take (i+1))=z2I E (l.take i)++z5p x (lk E.runs x):=by
 rw [List.take_add_one,h]
 simp [z2I]
theorem z7K (L:List It):(z5l L).length≤60 * L.length:=by
 induction L with
 | nil=>simp [z5l]
 | cons x r ih =>
  have:=z0Y [x.1,x.2.1,x.2.2.1,x.2.2.2.1,x.2.2.2.2.1,x.2.2.2.2.2]
  simp only [z5l,zeY,List.flatMap_cons,List.length_append,List.length_cons,List.length_nil] at *
  omega
theorem zbw {L:List It} {i:Nat} {x:It} (h:L[i]?=some x):z5l (L.take (i+1))=z5l (L.take i)++zeY x:=by
 rw [List.take_add_one,h]
 simp [z5l]
def z6C (bx t:Nat) (cs:Array Value) (W:World):Prop:=W.heap[bx]?=some (.cells cs t (0,0))
theorem z6C.c3 {bx t:Nat} {a b c:Value} {W:World} (h:z6C bx t #[a,b,c] W):W.cell? ⟨bx,0,none⟩=some a∧W.cell? ⟨bx,1,none⟩=some b∧W.cell? ⟨bx,2,none⟩=some c∧bx<W.heap.size:=by
 refine ⟨?_,?_,?_,block_lt (show W.heap[bx]?=_ from h)⟩<;>simp [World.cell?,show W.heap[bx]?=_ from h]
theorem zeO {W:World} {B:Nat} {t:TypeId} {a b c d e f:Value} (h:W.heap[B]?=some (.cells #[a,b,c,d,e,f] t (0,0))):W.cell? ⟨B,0,none⟩=some a∧W.cell? ⟨B,1,none⟩=some b∧W.cell? ⟨B,2,none⟩=some c∧W.cell? ⟨B,3,none⟩=some d∧W.cell? ⟨B,4,none⟩=some e∧W.cell? ⟨B,5,none⟩=some f∧B<W.heap.size:=by
 refine ⟨?_,?_,?_,?_,?_,?_,block_lt h⟩<;>simp [World.cell?,h]
theorem z9E {m:Rows} (hn:m.length≤10000) (hrow:∀ x,(rowOf m x).length≤100000):(encR m).length≤60000000000:=by
 have h1:=z7M (allT m)
 have h2:=z6E m hrow
 have h3:=z0Y [((allT m).length:Int)]
 simp only [encR,List.length_append,List.length_cons,List.length_nil] at *
 omega
structure EEn (E:ES):Prop where
 ok:EOk E
 ke:KE E
 dn:E.dec.length≤10000
 an:E.act.length≤10000
 dr:∀ x,(rowOf E.dec x).length≤100000
 ar:∀ x,(rowOf E.act x).length≤100000
 due:E.due.length≤1000000
set_option maxHeartbeats 16000000 in
theorem z9D (k:Nat) (E:ES) (M Se:Bl) (w:World) (h:EngR w M Se k E) (hE:EEn E):Calls Tryz.prog 28 #[.pointer (some ⟨k,0,none⟩)] w (RetB (encE E) w):=by
  obtain ⟨kd,ka,md,ma,mr,kh,hv,P⟩:=h
  have HP:=hid (fun W (g:Gr w W)=>P.gr g)
  have HE:=hid hE
  have hkl:(z1j E.runs).length=E.runs.length:=by unfold z1j;rw [List.length_mergeSort,List.length_map]
  obtain ⟨len,hlen⟩:∃ n,E.runs.length=n:=⟨_,rfl⟩
  have HLEN:=hid (show (z1j E.runs).length=len by rw [hkl,hlen])
  have HRL:=hid (show len≤1048577 from hlen▸z7e hE.ok)
  have HFL:=hid (fun W (g:Gr w W)=>zax k E M Se W ⟨kd,ka,md,ma,mr,kh,hv,P.gr g⟩ hE.ok)
  have HMN:=hid (fun W (g:Gr w W)=>by
    obtain ⟨kv,h1,h2⟩:=(P.gr g).r
    have:=h1.len (P:=Tryz.prog) Tryz.underlying76 3
    rw [h2.len,hlen] at this
    exact this)
  have HEN:=hid (show encE E=([]++z1A [E.shard,E.groups,E.now,(len:Int)])++z2I E (z1j E.runs)++encR E.dec++encR E.act++z1A [(E.due.length:Int)]++z5l E.due by rw [← hlen];rfl)
  obtain ⟨e0,e1,e2,e3,e4,e5,e6,hkb⟩:=P.cells
  clear P hE hkl hlen
  go_enter Tryz.func28,Tryz.ntmps28
  go_upto_region 1 with fail
  clear e0 e1 e2 e3 e4 e5 e6 hkb
  refine z01 [(1,false),(2,false),(3,false),(4,false),(5,false),(6,false),(7,false),(8,false),(9,false),(10,false),(11,false),(12,false),(13,false),(14,false),(15,false),(16,false),(0,true),(17,false),(18,true),(19,true),(20,true)] (fun W=>Gr w W) (by kernel_rfl) (by kernel_rfl) (fun _ _ d _ _ h=>by cases d<;>exact h) (Gr.refl w).drew (fun _=>?_)
  iterate 16 (refine z03 (v:=?_) rfl (by rfl) ?_ ?_;rotate_left;(focus (intro W9 hW9;obtain ⟨e0,e1,e2,e3,e4,e5,e6,hkb⟩:=(HP.o W9 hW9).cells;go_simp;(try with_reducible rfl);done));(try simp only [AP]))
  refine z05 rfl (by rfl) (fun K hK=>?_)
  go_simp
  go_at_call 50
  refine (z58 _).mono ?_
  rintro en w1 ⟨rfl,hw1⟩
  have H1:=hid (show Wn w w1 (fun k=>k=w.drew.heap.size) w.drew.heap.size [] from hw1▸Wn.new (Gr.refl w).drew)
  clear hw1
  refine hK.o (fun W=>Gr w W) _ _ H1.o.g (fun _ g=>g) (fun _=>?_)
  clear hK K
  (try simp only [AP])
  obtain ⟨bw,hbw⟩:∃ b,w.drew.heap.size=b:=⟨_,rfl⟩
  rw [hbw] at H1 ⊢
  clear hbw
  iterate 1 (refine z03 (v:=?_) rfl (by rfl) ?_ ?_;rotate_left;(focus (intro W9 hW9;have hl9:=HMN.o W9 hW9;go_simp;(try with_reducible rfl);done));(try simp only [AP]))
  refine z05 rfl (by rfl) (fun K hK=>?_)
  go_simp
  refine hK.o (fun W=>Gr w W) _ _ (H1.o.g.alloc _) (fun _ g=>g) (fun _=>?_)
  clear hK K
  (try simp only [AP])
  obtain ⟨w2,hw2,g2,hb2⟩:=z3u w1 (.cells #[.int .i64 E.shard,.int .i64 E.groups,.int .i64 E.now,.int .i64 len] 3)
  rw [hw2]
  have HB2:=hid hb2
  have G2:=hid g2
  clear hw2 g2 hb2
  refine z05 rfl (by rfl) (fun K hK=>?_)
  go_simp
  go_at_call 51
  refine (Wn.numbers H1.o G2.o (B:=w1.heap.size) (t:=3) [E.shard,E.groups,E.now,(len:Int)] HB2.o (Nat.le_refl _) 4 (by simp)).mono ?_
  rintro en w3 ⟨rfl,S3,h3,-⟩
  have H3:=hid h3
  clear h3
  refine hK.o (fun W=>Gr w W) _ _ H3.o.g (fun _ g=>g) (fun _=>?_)
  clear hK K G2 HB2 H1
  (try simp only [AP])
  refine z06 rfl (by rfl) (fun K hK=>?_)
  go_simp
  refine hK.o _ _ ?_
  clear hK K
  obtain ⟨b0,hb0⟩:∃ bs,[]++z1A [E.shard,E.groups,E.now,(len:Int)]=bs:=⟨_,rfl⟩
  have HB0:=hid (show b0.length≤40 by
    have:=z0Y [E.shard,E.groups,E.now,(len:Int)]
    rw [← hb0]
    simpa using this)
  rw [hb0] at H3 HEN
  clear hb0
  go_wp2_with (go_at_call 29
               go_loud (refine (HFL.o _ H3.o.g).mono ?_)
               rintro en w4 ⟨An,cn,rfl,g4,hr4⟩
               rw [HLEN.o])
  have H4:=hid (H3.o.gr g4)
  have HR4:=hid (hr4 S3 (fun b e=>H3.o.lt b e))
  clear g4 hr4 H3
  go_loopw [33] (fun iv wr=>∃ (i:Nat) (S:Bl),iv=.int .i64 i∧i≤len∧Wn w wr S bw (b0++z2I E ((z1j E.runs).take i))∧RdM wr S An ((z1j E.runs).map (.int .i64))) (fun iv _=>len-(intOf iv).toNat)
  case atStart=>exact ⟨0,S3,rfl,Nat.zero_le _,by simpa [z2I] using H4.o,HR4.o⟩
  case round =>
    obtain ⟨i,S,rfl,hil,hw,hr⟩:=hrel
    clear H4 HR4
    have HW:=hid hw
    have HR:=hid hr
    have hib:i≤1048577:=by have:=HRL.o;omega
    by_cases hlt:i<len
    · have hlz:(i:Int)<(len:Int):=by omega
      obtain ⟨x,hx⟩:∃ x,(z1j E.runs)[i]?=some x:=⟨_,List.getElem?_eq_getElem (by rw [HLEN.o];exact hlt)⟩
      obtain ⟨bn,offn,rfl,hMn,hcn⟩:=hr (by intro e;have h1:=HLEN.o;rw [List.map_eq_nil_iff.1 e] at h1;simp at h1;omega)
      have x0:=hcn i (.int .i64 x) (by simp [hx])
      have HADD:=hid (z8M (E:=E) hx)
      have HLB:=hid (show (z2I E ((z1j E.runs).take i)).length≤17100000 * 1048577 from Nat.le_trans (z5q HE.o.ok _) (Nat.mul_le_mul_left _ (by have:=HRL.o;rw [List.length_take];omega)))
      rcases (HP.o w (Gr.refl w)).look x false with ⟨hno,_⟩ | ⟨r,kf,hlk,hfi,hrun⟩
      · exact absurd ((List.mergeSort_perm _ _).mem_iff.1 (List.mem_of_getElem? hx)) (z73 hno)
      have HFE:=hid (fun W (g:Gr w W)=>by
        obtain ⟨_,mb,_,hf⟩:=hfi.up (Gr.up g M)
        obtain ⟨h1,_⟩:=HE.o.ok.get hlk
        exact zdw kf mb r.f M W hf (by have:=h1.len;omega) fun e he=>(h1.i.evs e he).2.2)
      have HFB:=hid (show (encF r.f).length≤17100000 by
        obtain ⟨h1,_⟩:=HE.o.ok.get hlk
        have h2:=z6Q (F:=r.f) fun e he=>(h1.i.evs e he).2.2
        have h3:=h1.len
        omega)
      rw [hlk] at HADD
      rcases r with ⟨rf,pf,pr⟩
      simp only [z5p] at HADD
      simp only [Bool.false_eq_true,if_false,runV] at hrun
      have hl9:=hrun wr hw.g
      obtain ⟨e0,e1,e2,e3,e4,e5,e6,hkb⟩:=(HP.o wr hw.g).cells
      clear hw hr hMn hcn hfi hrun hlk hx
      go_upto_region 6 with fail
      obtain ⟨w5,hw5,g5,hb5⟩:=z3u wr (.cells #[.pointer (some ⟨kf,0,none⟩),.int .i64 pf,.int .i64 pr] 109)
      rw [hw5]
      have H5:=hid (HW.o.gr g5)
      have HR5:=hid (HR.o.up (Gr.up g5 S))
      have HB5:=hid (show z6C wr.heap.size 109 #[.pointer (some ⟨kf,0,none⟩),.int .i64 pf,.int .i64 pr] w5 from hb5)
      have HNS:=hid (show ¬ S wr.heap.size from fun e=>Nat.lt_irrefl _ (HW.o.lt _ e))
      clear hw5 g5 hb5 x0 hl9 e0 e1 e2 e3 e4 e5 e6 hkb HW HR
      generalize wr.heap.size=bx at *
      refine z01 [(0,false),(1,false),(2,false),(3,false),(4,false),(5,false),(6,false),(7,false),(10,false),(11,false),(8,true),(9,true),(12,true),(13,true)] (z6C bx 109 #[.pointer (some ⟨kf,0,none⟩),.int .i64 pf,.int .i64 pr]) (by kernel_rfl) (by kernel_rfl) (fun _ _ d _ _ h=>by cases d<;>exact h) HB5.o (fun _=>?_)
      iterate 10 (refine z03 (v:=?_) rfl (by rfl) ?_ ?_;rotate_left;(focus (intro W9 hW9;obtain ⟨x0,x1,x2,lx⟩:=z6C.c3 hW9;go_simp;(try with_reducible rfl);done));(try simp only [AP]))
      refine z05 rfl (by rfl) (fun K hK=>?_)
      go_simp
      refine hK.o (z6C bx 109 #[.pointer (some ⟨kf,0,none⟩),.int .i64 pf,.int .i64 pr]) _ _ ((((Gr.refl w5).alloc _).drew.block bx (block_lt HB5.o)).trans HB5.o) (fun _ h=>h) (fun _=>?_)
      clear hK K
      (try simp only [AP])
      obtain ⟨w6,hw6,g6,hb6⟩:=z5H w5 (.cells #[.int .i64 x,.int .i64 pf,.int .i64 pr] 3)
      rw [hw6]
      have G6:=hid g6
      have HB6:=hid hb6
      clear hw6 g6 hb6
      refine z05 rfl (by rfl) (fun K hK=>?_)
      go_simp
      go_at_call 51
      refine (Wn.numbers H5.o G6.o (B:=w5.heap.size) (t:=3) [x,pf,pr] HB6.o (Nat.le_refl _) 3 (by have h1:=HB0.o;have h2:=HLB.o;simp only [List.length_append,List.length_cons,List.length_nil];omega)).mono ?_
      rintro en w7 ⟨rfl,S7,h7,u7⟩
      have H7:=hid h7
      have HB7:=hid (show z6C bx 109 #[.pointer (some ⟨kf,0,none⟩),.int .i64 pf,.int .i64 pr] w7 from (u7.block (Nat.lt_of_lt_of_le (block_lt HB5.o) G6.o.size) HNS.o).trans ((G6.o.block bx (block_lt HB5.o)).trans HB5.o))
      have HR7:=hid ((HR5.o.up (Gr.up G6.o S)).up u7)
      clear h7 u7 HB6 H5 HR5
      refine hK.o (z6C bx 109 #[.pointer (some ⟨kf,0,none⟩),.int .i64 pf,.int .i64 pr]) _ _ HB7.o (fun _ h=>h) (fun _=>?_)
      clear hK K
      (try simp only [AP])
      refine z05 rfl (by rfl) (fun K hK=>?_)
      go_simp
      go_at_call 53
      refine (HFE.o _ H7.o.g).mono ?_
      rintro en _ ⟨A8,c8,y8,rfl,rfl,h8,ho8⟩
      have H8:=hid (H7.o.gr y8.gr)
      have HR8:=hid (HR7.o.up (Gr.up y8.gr S7))
      have HD8:=hid (RetB.m (M:=S7) ho8 h8 H7.o.lt)
      refine hK.o (z6C bx 109 #[.pointer (some ⟨kf,0,none⟩),.int .i64 pf,.int .i64 pr]) _ _ ((y8.gr.block bx (block_lt HB7.o)).trans HB7.o) (fun _ h=>h) (fun _=>?_)
      clear hK K h8 ho8 HR7 HB7
      refine z06 rfl (by rfl) (fun K hK=>?_)
      go_simp
      go_at_call 52
      refine (Wn.bytes H8.o _ (encF rf) HD8.o (by
        have h1:=HB0.o
        have h2:=HLB.o
        have h3:=z0Y [x,pf,pr]
        have h4:=HFB.o
        simp only [List.length_append,List.length_cons,List.length_nil] at *
        omega)).mono ?_
      rintro en w9 ⟨rfl,S9,h9,u9⟩
      have H9:=hid h9
      have HR9:=hid (HR8.o.up u9)
      refine hK.o _ _ ?_
      clear hK K h9 u9 HR8 H8 HD8
      go_wp2_with fail
      go_roundw
      case rel =>
        refine ⟨i+1,S9,by go_num,by omega,?_,HR9.o⟩
        rw [HADD.o]
        have:=H9.o
        simpa [List.append_assoc] using this
      case measure =>
        simp [intOf]
        omega
    · have hlz:¬ (i:Int)<(len:Int):=by omega
      have HT:=hid (show (z1j E.runs).take i=z1j E.runs from List.take_of_length_le (by rw [HLEN.o];omega))
      rw [HT.o] at HW
      obtain ⟨b1,hb1⟩:∃ bs,b0++z2I E (z1j E.runs)=bs:=⟨_,rfl⟩
      have HB1:=hid (show b1.length≤18000000000000 by
        have h1:=HB0.o
        have h2:=z5q HE.o.ok (z1j E.runs)
        have h3:=HRL.o
        rw [HLEN.o] at h2
        rw [← hb1,List.length_append]
        omega)
      rw [hb1] at HW HEN
      obtain ⟨e0,e1,e2,e3,e4,e5,e6,hkb⟩:=(HP.o wr hw.g).cells
      have HPD:=hid (za3 kd md E.dec M w wr S bw b1 HW.o (HP.o w (Gr.refl w)).d HE.o.ke.d HE.o.dn HE.o.dr (by have:=HB1.o;omega))
      clear hw hr HR HT HFL HMN hb1
      go_upto_region 9 with (go_at_call 54
                             go_loud (refine HPD.o.mono ?_)
                             rintro en w5 ⟨rfl,S5,h5⟩
                             have H5:=hid h5
                             obtain ⟨f0,f1,f2,f3,f4,f5,f6,hkb5⟩:=(HP.o w5 H5.o.g).cells
                             clear h5)
      clear e0 e1 e2 e3 e4 e5 e6 hkb HPD HW
      obtain ⟨b2,hb2⟩:∃ bs,b1++encR E.dec=bs:=⟨_,rfl⟩
      have HB2:=hid (show b2.length≤19000000000000 by
        have h1:=HB1.o
        have h2:=z9E HE.o.dn HE.o.dr
        rw [← hb2,List.length_append]
        omega)
      rw [hb2] at H5 HEN
      have HPA:=hid (za3 ka ma E.act M w w5 S5 bw b2 H5.o (HP.o w (Gr.refl w)).a HE.o.ke.a HE.o.an HE.o.ar (by have:=HB2.o;omega))
      clear hb2 HB1
      go_upto_region 10 with (go_at_call 54
                              go_loud (refine HPA.o.mono ?_)
                              rintro en w6 ⟨rfl,S6,h6⟩
                              have H6:=hid h6
                              obtain ⟨g0,g1,g2,g3,g4,g5,g6,hkb6⟩:=(HP.o w6 H6.o.g).cells
                              clear h6)
      clear f0 f1 f2 f3 f4 f5 f6 hkb5 HPA H5
      obtain ⟨b3,hb3⟩:∃ bs,b2++encR E.act=bs:=⟨_,rfl⟩
      have HB3:=hid (show b3.length≤20000000000000 by
        have h1:=HB2.o
        have h2:=z9E HE.o.an HE.o.ar
        rw [← hb3,List.length_append]
        omega)
      rw [hb3] at H6 HEN
      have HLI:=hid (zct 0 kh hv E.due w6 (HP.o w6 H6.o.g).h HE.o.due)
      obtain ⟨dl,hdl⟩:∃ n,E.due.length=n:=⟨_,rfl⟩
      have HDL:=hid hdl
      have HDB:=hid (show dl≤1000000 from hdl▸HE.o.due)
      rw [hdl] at HLI HEN
      clear hb3 HB2 hdl
      go_upto_region 11 with (go_at_call 55
                              go_loud (refine HLI.o.mono ?_)
                              rintro en w7 ⟨Ad,cd,rfl,g7,hr7⟩)
      have H7:=hid (H6.o.gr g7)
      have HR7:=hid (hr7 S6 (fun b e=>H6.o.lt b e))
      clear g0 g1 g2 g3 g4 g5 g6 hkb6 HLI H6 g7 hr7
      go_wp2_with (go_at_call 51
                   go_loud (refine (Wn.numbers H7.o ((Gr.refl w7).alloc (.cells #[.int .i64 dl] 3)) (B:=w7.heap.size) (t:=3) [(dl:Int)] (heap_alloc_new w7 _) (Nat.le_refl _) 1 (by have:=HB3.o;simp;omega)).mono ?_)
                   rintro en w8 ⟨rfl,S8,h8,u8⟩)
      have H8:=hid h8
      have HR8:=hid ((HR7.o.up (Gr.up ((Gr.refl w7).alloc (.cells #[.int .i64 dl] 3)) S6)).up u8)
      clear h8 u8 H7 HR7
      obtain ⟨b4,hb4⟩:∃ bs,b3++z1A [(dl:Int)]=bs:=⟨_,rfl⟩
      have HB4:=hid (show b4.length≤20000000000010 by
        have h1:=HB3.o
        have h2:=z0Y [(dl:Int)]
        rw [← hb4,List.length_append]
        simp only [List.length_cons,List.length_nil] at h2
        omega)
      rw [hb4] at H8 HEN
      clear hb4 HB3
      go_loopw [84] (fun jv w9=>∃ (j:Nat) (S:Bl),jv=.int .i64 j∧j≤dl∧Wn w w9 S bw (b4++z5l (E.due.take j))∧RdM w9 S Ad (cs6 E.due)) (fun jv _=>dl-(intOf jv).toNat)
      case atStart=>exact ⟨0,S8,rfl,Nat.zero_le _,by simpa [z5l] using H8.o,HR8.o⟩
      case round =>
        clear H8 HR8
        obtain ⟨j,S9,rfl,hjl,hw9,hr9⟩:=hrel
        have HW9:=hid hw9
        have HR9:=hid hr9
        have hjb:j≤1000000:=by have:=HDB.o;omega
        by_cases hlt2:j<dl
        · have hlz2:(j:Int)<(dl:Int):=by omega
          obtain ⟨x,hx⟩:∃ x,E.due[j]?=some x:=⟨_,List.getElem?_eq_getElem (by rw [HDL.o];exact hlt2)⟩
          have HADD:=hid (zbw hx)
          have hgd:E.due.getD j z0=x:=by simp [List.getD,hx]
          have hg:∀ q,q<6→(cs6 E.due)[j * 6+q]?=(ic x)[q]?:=fun q hq=>by rw [z4d E.due j q (by rw [HDL.o];exact hlt2) hq,hgd]
          obtain ⟨bt,offt,rfl,hMt,hct⟩:=hr9 (by
            intro e
            have h1:=hg 0 (by omega)
            rw [e] at h1
            simp [ic] at h1)
          have z0:=hct _ _ (hg 0 (by omega))
          have z1:=hct _ _ (hg 1 (by omega))
          have z2:=hct _ _ (hg 2 (by omega))
          have z3:=hct _ _ (hg 3 (by omega))
          have z4:=hct _ _ (hg 4 (by omega))
          have z5:=hct _ _ (hg 5 (by omega))
          rw [Nat.add_zero] at z0
          rw [← Nat.add_assoc] at z1 z2 z3 z4 z5
          rcases x with ⟨x0,x1,x2,x3,x4,x5⟩
          simp only at z0 z1 z2 z3 z4 z5
          have HLB:=hid (show (z5l (E.due.take j)).length≤60000000 from Nat.le_trans (z7K _) (by rw [List.length_take];omega))
          clear hw9 hr9 hMt hct hg hgd hx
          go_upto_region 15 with fail
          obtain ⟨w2',hw2,g2,hb2⟩:=z3u wr (.cells #[.int .i64 x0,.int .i64 x1,.int .i64 x2,.int .i64 x3,.int .i64 x4,.int .i64 x5] 92)
          rw [hw2]
          have G2:=hid g2
          obtain ⟨y0,y1,y2,y3,y4,y5,ly⟩:=zeO hb2
          clear hw2 g2 hb2 z0 z1 z2 z3 z4 z5
          have HW2:=hid (HW9.o.gr G2.o)
          have HC:=hid (Wn.numbers HW2.o ((Gr.refl w2').alloc (.cells #[.int .i64 x0,.int .i64 x1,.int .i64 x2,.int .i64 x3,.int .i64 x4,.int .i64 x5] 3)) (B:=w2'.heap.size) (t:=3) [x0,x1,x2,x3,x4,x5] (heap_alloc_new w2' _) (Nat.le_refl _) 6 (by
            have h1:=HB4.o
            have h2:=HLB.o
            simp only [List.length_append,List.length_cons,List.length_nil]
            omega))
          generalize wr.heap.size=bx at *
          go_wp2_with (go_at_call 51
                       go_loud (refine HC.o.mono ?_)
                       rintro en w3' ⟨rfl,S3',h3,u3⟩)
          have H3:=hid h3
          have HR3:=hid ((HR9.o.up (Gr.up (G2.o.trans ((Gr.refl w2').alloc (.cells #[.int .i64 x0,.int .i64 x1,.int .i64 x2,.int .i64 x3,.int .i64 x4,.int .i64 x5] 3))) S9)).up u3)
          clear h3 u3 y0 y1 y2 y3 y4 y5 ly HC HW2
          go_roundw
          case rel =>
            refine ⟨j+1,S3',by go_num,by omega,?_,HR3.o⟩
            rw [HADD.o,← List.append_assoc]
            exact H3.o
          case measure =>
            simp [intOf]
            omega
        · have hlz2:¬ (j:Int)<(dl:Int):=by omega
          have HT2:=hid (show E.due.take j=E.due from List.take_of_length_le (by rw [HDL.o];omega))
          rw [HT2.o,← HEN.o] at HW9
          have HC:=hid ((z5k S9 bw _ wr HW9.o.r (by
            have h1:=HB4.o
            have h2:=z7K E.due
            have h3:=HDB.o
            rw [HDL.o] at h2
            rw [HEN.o,List.length_append]
            omega)).mono fun _ _ h=>RetB.old HW9.o.g h)
          clear hw9 hr9 HR9
          go_wp2_with (go_at_call 56
                       go_loud (refine HC.o.mono ?_)
                       rintro en w3' ⟨A3,c3,y3,rfl,rfl,h3,h4⟩)
          have H3:=hid (And.intro h3 h4)
          clear h3 h4
          go_ret
          exact ⟨A3,c3,y3,rfl,rfl,H3.o⟩
structure Lw (w0 w:World) (M S:Bl) (k:Nat) (E:ES) (n:Nat):Prop where
 law:Law w0 w M S k E n
 m:∀ b,M b→w0.heap.size≤b
section
variable {w0 w w' w2:World} {M S M2 S2:Bl} {k n:Nat} {E E':ES}
theorem Lw.gr (h:Lw w0 w M S k E n) (g:Gr w w'):Lw w0 w' M S k E n:=⟨h.law.gr g,h.m⟩
theorem Lw.step {m:Nat} (h:Lw w0 w M S k E n) (hal:z0j w M S w2 M2 S2) (heng:EngR w2 M2 S2 k E') (he:E1 E' m):Lw w0 w2 M2 S2 k E' m :=
 ⟨h.law.step hal heng he,fun b e=>by
  by_cases hb:b<w.heap.size
  ·exact h.m b (hal.m b hb e)
  ·have:=h.law.g.size
   omega⟩
theorem Lw.more {B:Nat} (h:Lw w0 w M S k E n) (g:Gr w w') (h1:w.heap.size≤B) (h2:B<w'.heap.size):Lw w0 w' (fun b=>M b∨b=B) S k E n :=
 ⟨⟨h.law.eng.more g h1 h2,h.law.e1,h.law.g.trans g,h.law.s⟩,fun b e=>by
  rcases e with e | e
  ·exact h.m b e
  ·have:=h.law.g.size
   omega⟩
theorem Lw.set {B:Nat} (h:Lw w0 w M S k E n) (m:Mod (fun b=>b=B) w w') (h1:M B) (h2:¬ S B):Lw w0 w' M S k E n :=
 ⟨⟨h.law.eng.setOther m h1 h2,h.law.e1,z2c h.law.g m (fun _ e=>e▸h.m B h1),h.law.s⟩,h.m⟩
end
def zeH (w0:World) (M S:Bl) (k:Nat) (x:Ans × ES) (n:Nat) (w:World) (en:Ending) (w2:World):Prop :=
 ∃ A c A' c' M' S',en=.returned (ansV x.1 (.slice A x.1.data.length c) (.slice A' x.1.events.length c'))∧Lw w0 w2 M' S' k x.2 (n+100)∧z0j w M S w2 M' S'∧BysM w2 M' (.slice A x.1.data.length c) x.1.data∧z08 evR w2 M' (.slice A' x.1.events.length c') x.1.events
theorem Lw.call {w0 w:World} {M S:Bl} {k n:Nat} {E:ES} (h:Lw w0 w M S k E n) (c:Call) (d l:Value) (hn:n≤998000) (hc:z0P w M c d l) (hll:c.l.length≤140737488351232) (hdd:∀ d∈c.l,d.data.length≤140737488351232) :
  Calls Tryz.prog 14 #[.pointer (some ⟨k,0,none⟩),z0E c d l] w (zeH w0 M S k (z0z E c) n w):=by
 refine (z4n k E c d l M S w h.law.eng h.law.e1 hn hc hll hdd).mono ?_
 rintro en w2 ⟨dv,ev,M2,S2,rfl,h2,hal2,hd2,he2⟩
 obtain ⟨A,ca,rfl⟩:=hd2.shape
 obtain ⟨A',ca',rfl,_⟩:=he2.shape
 exact ⟨A,ca,A',ca',M2,S2,rfl,h.step hal2 h2 (h.law.e1.call c),hal2,hd2,he2⟩
theorem z56 (w:World):Calls Tryz.prog 13 #[] w (fun en w'=>∃ k M S,en=.returned (.pointer (some ⟨k,0,none⟩))∧Lw w w' M S k (e0 0 1) 0):=by
 go_enter Tryz.func13,Tryz.ntmps13
 go_wp2_with fail
 refine (z4x (fun _=>False) w (fun _ e=>e.elim)).mono ?_
 rintro en w1 ⟨M1,S1,k,rfl,g,he,-,hm,hs⟩
 have L1:=hid (show Lw w w1 M1 S1 k (e0 0 1) 0 from ⟨⟨he,zbu,g,hs⟩,fun b e=>Nat.le_of_not_lt fun hb=>hm b hb e⟩)
 clear g he hm hs
 go_wp2_with fail
 go_ret
 exact ⟨k,M1,S1,rfl,L1.o⟩
def zh8 (w0:World) (M S:Bl) (k:Nat) (x:Ans × ES) (n:Nat) (w:World) (en:Ending) (w2:World):Prop:=∃ M' S',en=.returned (.int .i64 x.1.err)∧Lw w0 w2 M' S' k x.2 (n+100)∧z0j w M S w2 M' S'
abbrev e1 (list n:Int) (d:List UInt8):Ev:=⟨1,0,0,0,list,n,d⟩
abbrev e2 (list:Int):Ev:=⟨2,0,0,0,list,0,[]⟩
abbrev e3:Ev:=⟨3,0,2,0,0,0,[]⟩
abbrev e4:Ev:=⟨4,0,3,0,0,0,[]⟩
abbrev e17 (C n:Int) (d:List UInt8):Ev:=⟨17,0,0,C,2,n,d⟩
abbrev e18 (C st:Int) (d:List UInt8):Ev:=⟨18,0,5,C,0,st,d⟩
abbrev FL (id run list n task place begun:Int) (l:List Ev) (op:List (Int × Opn)):FS:=⟨id,run,list,n,l,task,place,begun,0,false,false,op⟩
abbrev St (runs:List (Int × RunS)) (dec:Rows) (due:List It):ES:=⟨0,1,0,runs,dec,[],due⟩
abbrev gA (id run ref:Int):Ans:={ ans0 with given:=true,tok:=⟨id,run,ref,0⟩ }
abbrev nF (id run list n:Int) (d:List UInt8):FS:=FL id run list n 1 2 0 [e1 list n d,e2 list] []
abbrev bF (id run list n:Int) (d:List UInt8):FS:=FL id run list n 2 2 3 [e1 list n d,e2 list,e3] []
abbrev wF (P C n:Int) (d:List UInt8):FS:=FL P 1 1 50 0 2 3 [e1 1 50 [],e2 1,e3,e4,e17 C n d] [(5,⟨17,C,0⟩)]
abbrev tF (P C n:Int) (d:List UInt8) (st:Int) (x:List UInt8):FS:=FL P 1 1 50 1 7 0 [e1 1 50 [],e2 1,e3,e4,e17 C n d,e18 C st x,e2 1] []
def S1 (P:Int):ES:=St [(P,⟨nF P 1 1 50 [],0,0⟩)] [(1,[⟨P,1,2,0⟩])] []
def S2 (P:Int) (D:List It):ES:=St [(P,⟨bF P 1 1 50 [],0,0⟩)] [] D
def S3 (P C n:Int) (d0:List UInt8) (r:Int) (d:List UInt8) (D:List It):ES:=St [(P,⟨wF P C n d0,0,0⟩),(C,⟨nF C r 2 n d,P,1⟩)] [(2,[⟨C,r,2,0⟩])] D
def S4 (P C n:Int) (d0:List UInt8) (r:Int) (d:List UInt8) (D:List It):ES:=St [(P,⟨wF P C n d0,0,0⟩),(C,⟨bF C r 2 n d,P,1⟩)] [] D
def S5 (P C n:Int) (d0:List UInt8) (st:Int) (x:List UInt8) (X:RunS) (D:List It):ES:=St [(P,⟨tF P C n d0 st x,0,0⟩),(C,X)] [(1,[⟨P,1,7,0⟩])] D
def R1 (C:Int):ES:=St [(C,⟨nF C 1 5 50 [],0,0⟩)] [(5,[⟨C,1,2,0⟩])] []
def R2 (P C:Int):ES:=St [(C,⟨nF C 1 5 50 [],0,0⟩),(P,⟨nF P 1 1 50 [],0,0⟩)] [(5,[⟨C,1,2,0⟩]),(1,[⟨P,1,2,0⟩])] []
def R3 (P C:Int) (D:List It):ES:=St [(C,⟨nF C 1 5 50 [],0,0⟩),(P,⟨bF P 1 1 50 [],0,0⟩)] [(5,[⟨C,1,2,0⟩])] D
def R4 (P C:Int) (d:List UInt8) (D:List It):ES:=St [(C,⟨nF C 1 5 50 [],0,0⟩),(P,⟨tF P C 50 d 0 [],0,0⟩)] [(5,[⟨C,1,2,0⟩]),(1,[⟨P,1,7,0⟩])] D
attribute [local simp] z13 z1Q z2l z3f sh0 doE z2n z0U newF z1L z07 putF z3h out0 z38 rowOf lk up rm popE z3A z2L popR setR z3G z1v z1y z2b z0k z2s z2Z z1z tryF z0Q z1n z2F outE z2P z3g z3j z0h z0x z2r ok z0T z0B z1P ans0 z0b tok0 e0 f0 numB z2o z18 z19 hasN z1J z17 hasL z16 z1Z askE z2p z1p badF badL z2j mayF takeB z37 isOf z2t zaO z0n z0d z0J z2X atF z1a z1m z15 z6R z0y
abbrev Nm (x:Int):Prop:=0≤x∧x≤1048576
def tm (n at_:Int):ES:=⟨0,1,at_,[(1,⟨FL 1 1 0 1000 0 2 3 [e1 0 1000 [],e2 0,e3,e4,⟨12,0,0,4,0,n,[]⟩] [(5,⟨12,4,0⟩)],0,0⟩)],[],[],[(n,1,1,5,0,5),(1000,1,1,2,0,3)]⟩
def tE (n:Int):ES:=⟨0,1,n,[(1,⟨FL 1 1 0 1000 1 7 0 [e1 0 1000 [],e2 0,e3,e4,⟨12,0,0,4,0,n,[]⟩,⟨13,n,5,4,0,0,[]⟩,⟨2,n,0,0,0,0,[]⟩] [],0,0⟩)],[(0,[⟨1,1,7,0⟩])],[],[(1000,1,1,2,0,3)]⟩
def T1:ES:=⟨0,1,0,[(1,⟨nF 1 1 0 1000 [],0,0⟩)],[(0,[⟨1,1,2,0⟩])],[],[]⟩
def T2:ES:=⟨0,1,0,[(1,⟨bF 1 1 0 1000 [],0,0⟩)],[],[],[(1000,1,1,2,0,3)]⟩
attribute [local simp] z13 z1Q z2l z3f sh0 doE z2n z0U newF z1L z07 putF z3h out0 z38 rowOf lk up rm popE z3A z2L popR setR z3G z1v z1y z2b z0k z2s z2Z z1z tryF z0Q z1n z2F outE z2P z3g z3j z0h z0x z2r ok z0T z0B z1P ans0 z0b tok0 e0 f0 numB z2o z18 z19 hasN z1J z17 hasL z16 z1Z askE z2p z1p badF badL z2j mayF takeB z37 isOf z2t zaO z0n z0d z0J z2X atF z1a z1m z15 z6R z0y z1M z1F z29
end Go.Proofs.YtniknicnnaiilaaGreat
end
