/- Lemmas of the engine. -/
import Derived.Deep.RegionHeld3
import Derived.Laws.ResultCell
import Derived.OrdersHeld
import Derived.Test.YtniknicnnaiilaaGreatX01
import Derived.Test.YtniknicnnaiilaaGreatX04
section
namespace Go.Proofs.YtniknicnnaiilaaGreat
set_option maxRecDepth 100000
open Go.RowKit Go.Ext Go.BigFrame
attribute [local go_sem] Ext.cell Ext.frozen Ext.lt Ext.le s1 s2 s3 s4 s5 s6 t1 t2 t3 t4 t5 t6
attribute [local go_sem ↓] Go.wp_at_zero Go.wp_at_succ
def delF (L:List It) (x:It):List It:=if has L x then L.take (pos L x)++L.drop (pos L x+1) else L
set_option maxHeartbeats 1000000 in
theorem zaS (base g:Nat) (v:Value) (L:List It) (x:It) (w:World) (h:HB base w g v L) (hs:Srt L) (hl:L.length≤1000000) :
    Calls Tryz.prog 74 #[.pointer (some ⟨g,0,none⟩),iv x] w (RetH base g v (delF L x) (.bool (has L x)) w):=by
  obtain ⟨A,cp,rfl⟩:=h.shape
  have HF:=hid (fun W (y:Gr w W)=>z9K base g _ L x W (h.gr y) hs (by omega))
  have H:=hid h
  have hlt:=h.lt
  have hpn:has L x=true→pos L x<L.length:=fun e=>by unfold has at e;simp at e;exact e.1
  unfold delF
  generalize pos L x=p at *
  clear h hs
  obtain ⟨res,hres⟩:∃ res,has L x=res:=⟨_,rfl⟩
  rw [hres] at HF hpn ⊢
  clear hres
  obtain ⟨a,b,c,d,e,f⟩:=x
  simp only [iv] at HF ⊢
  cases res
  · clear hpn
    go_enter Tryz.func74,Tryz.ntmps74
    go_wp2_with (go_at_call 78; refine (HF.o _ ((Gr.refl w).alloc _)).mono ?_; rintro e _ ⟨rfl, y1, rfl⟩
                 have G1:=hid (show Gr w y1.val from ((Gr.refl w).alloc _).ext y1))
    go_ret
    exact ⟨_,rfl,H.o.gr G1.o,G1.o.mod _,.inl rfl⟩
  · have hp:=hpn rfl
    clear hpn
    rw [if_pos rfl]
    go_enter Tryz.func74,Tryz.ntmps74
    go_wp2_with (first
     | (go_at_call 78;refine (HF.o _ ((Gr.refl w).alloc _)).mono ?_;rintro e _ ⟨rfl,y1,rfl⟩
        have G1:=hid (show Gr w y1.val from ((Gr.refl w).alloc _).ext y1)
        have c0:y1.val.cell? ⟨g,0,none⟩=some (.slice A L.length cp):=(G1.o.cell hlt).trans H.o.c0
        have hlt1:g<y1.val.heap.size:=Nat.lt_of_lt_of_le hlt G1.o.size
        have H1:=hid (H.o.gr G1.o))
     | (go_at_call 112
        refine (zau base p (.slice A L.length cp) L _ H1.o.row hl hp).mono ?_
        rintro e w2 ⟨v2,rfl,hr2,hm2,hw2⟩
        have HR2:=hid hr2
        have HM2:=hid hm2
        have HW2:=hid hw2
        clear hr2 hm2 hw2
        have HC2:=hid (show w2.heap[g]?=some (.cells #[.slice A L.length cp] 132 (0,0)) from (HM2.o.block g hlt1 H1.o.ne).trans H1.o.cell)
        have k0:w2.cell? ⟨g,0,none⟩=some (.slice A L.length cp):=by simp [World.cell?,HC2.o]
        have f0:w2.frozen? ⟨g,0,none⟩=false:=by simp [World.frozen?,HC2.o]
        have hsh:∃ A2 n2 c2,v2=.slice A2 n2 c2:=by
          rcases HR2.o.2 with ⟨rfl,_⟩ | ⟨g',cap,cur,rfl,_⟩
          · exact ⟨_,_,_,rfl⟩
          · exact ⟨_,_,_,rfl⟩
        obtain ⟨A2,n2,c2,rfl⟩:=hsh))
    go_ret
    refine ⟨_,rfl,HB.set H1.o.lo HC2.o HR2.o,?_,?_⟩
    · have M:=((G1.o.mod (fun k=>k=g∨some k=(Value.slice A L.length cp).ownBlock)).trans HM2.o (fun _ _ h=>.inr h))
      exact M.set (fun _=>.inl rfl) _
    · rcases HW2.o with h | ⟨k,h1,h2⟩
      · exact .inl h
      · exact .inr ⟨k,h1,Nat.le_trans G1.o.size h2⟩
theorem zfx (base:Nat) (w:World) (hb:base≤w.heap.size):Calls Tryz.prog 34 #[] w (fun e w'=>e=.returned (.pointer (some ⟨w.heap.size,0,none⟩))∧HB base w' w.heap.size (.slice none 0 0) []∧Gr w w'):=by
 go_enter Tryz.func34,Tryz.ntmps34
 go_wp2_with fail
 go_ret
 exact ⟨rfl,⟨hb,heap_alloc_new w _,World.ownsRow_nil _ _ _ _⟩,(Gr.refl w).alloc _⟩
def hd (L:List It):It:=L.getD 0 z0
theorem zdX (base g:Nat) (v:Value) (L:List It) (w:World) (h:HB base w g v L):Calls Tryz.prog 73 #[.pointer (some ⟨g,0,none⟩)] w (RetE (.tuple #[iv (hd L),.bool (decide (0<L.length))]) w):=by
 obtain ⟨A,cp,rfl⟩:=h.shape
 have c0:=h.c0
 have hlt:=h.lt
 have HR:=hid (h.arow rfl)
 clear h
 refine retE ?_
 by_cases hn:0<L.length
 ·rw [decide_eq_true hn]
  obtain ⟨bb,off,rfl,hbb,d0,d1,d2,d3,d4,d5⟩:=HR.o.at_ (i:=0) hn
  unfold hd
  obtain ⟨⟨a',b',c',d',e',f'⟩,hy⟩:∃ y,L.getD 0 z0=y:=⟨_,rfl⟩
  rw [hy] at d0 d1 d2 d3 d4 d5 ⊢
  simp only [Nat.zero_mul,Nat.add_zero] at d0 d1 d2 d3 d4 d5
  clear hy HR
  simp only [iv]
  have hn2:¬ ((L.length:Int)=0):=by omega
  go_enter Tryz.func73,Tryz.ntmps73
  go_wp2_with fail
  refine bodyPost_ret (v:=.tuple #[.agg #[.int .i64 a',.int .i64 b',.int .i64 c',.int .i64 d',.int .i64 e',.int .i64 f'],.bool true]) (by simp [results,Tryz.results73,go_sem]) rfl ⟨rfl,?_⟩
  repeat (first | exact Gr.refl _ | refine Gr.set ?_ (by simp) _ | refine Gr.alloc ?_ _)
 ·rw [decide_eq_false hn]
  have hn0:L.length=0:=by omega
  have hL:L=[]:=List.eq_nil_of_length_eq_zero hn0
  subst hL
  simp only [hd,List.getD_nil,iv]
  clear HR
  go_enter Tryz.func73,Tryz.ntmps73
  go_wp2_with fail
  refine bodyPost_ret (v:=.tuple #[.agg #[.int .i64 0,.int .i64 0,.int .i64 0,.int .i64 0,.int .i64 0,.int .i64 0],.bool false]) (by simp [results,Tryz.results73,go_sem]) rfl ⟨rfl,?_⟩
  repeat (first | exact Gr.refl _ | refine Gr.set ?_ (by simp) _ | refine Gr.alloc ?_ _)
def due (L:List It) (now:Int):Bool:=decide (0<L.length) && decide ((hd L).1≤now)
def z9d (L:List It) (now:Int):List It:=if due L now then L.drop 1 else L
theorem zew (L:List It):pos L (hd L)=0:=za1 _ _ 0 (Nat.zero_le _) (fun t ht=>absurd ht (by omega)) (fun _=>by unfold hd;rw [z7F];omega)
theorem zg4 {L:List It} (h0:0<L.length):delF L (hd L)=L.drop 1:=by
 unfold delF has
 rw [zew L]
 simp [h0,hd]
theorem zgp {L:List It} (h0:0<L.length):has L (hd L)=true:=by
 unfold has
 rw [zew L]
 simp [h0,hd]
theorem zc9 {W:World} {B:Nat} {a b c d e f:Int} (h:W.heap[B]?=some (.cells #[.int .i64 a,.int .i64 b,.int .i64 c,.int .i64 d,.int .i64 e,.int .i64 f] 92 (0,0))) :
  W.cell? ⟨B,0,none⟩=some (.int .i64 a)∧W.cell? ⟨B,1,none⟩=some (.int .i64 b)∧W.cell? ⟨B,2,none⟩=some (.int .i64 c)∧W.cell? ⟨B,3,none⟩=some (.int .i64 d)∧W.cell? ⟨B,4,none⟩=some (.int .i64 e)∧W.cell? ⟨B,5,none⟩=some (.int .i64 f) ∧
  W.frozen? ⟨B,0,none⟩=false∧W.frozen? ⟨B,1,none⟩=false∧W.frozen? ⟨B,2,none⟩=false∧W.frozen? ⟨B,3,none⟩=false∧W.frozen? ⟨B,4,none⟩=false∧W.frozen? ⟨B,5,none⟩=false:=by
 refine ⟨?_,?_,?_,?_,?_,?_,?_,?_,?_,?_,?_,?_⟩<;>simp [World.cell?,World.frozen?,h]
theorem set6 (w:World) (B:Nat) (u0 u1 u2 u3 u4 u5:Value):Mod (fun k=>k=B) w ((((((w.setCell ⟨B,0,none⟩ u0).setCell ⟨B,1,none⟩ u1).setCell ⟨B,2,none⟩ u2).setCell ⟨B,3,none⟩ u3).setCell ⟨B,4,none⟩ u4).setCell ⟨B,5,none⟩ u5) :=
 (((((((Gr.refl w).mod (fun k=>k=B)).set (p:=⟨B,0,none⟩) (fun _=>rfl) u0).set (p:=⟨B,1,none⟩) (fun _=>rfl) u1).set (p:=⟨B,2,none⟩) (fun _=>rfl) u2).set (p:=⟨B,3,none⟩) (fun _=>rfl) u3).set (p:=⟨B,4,none⟩) (fun _=>rfl) u4).set (p:=⟨B,5,none⟩) (fun _=>rfl) u5
theorem gr6 {a w:World} (g:Gr a w) (B:Nat) (hB:a.heap.size≤B) (u0 u1 u2 u3 u4 u5:Value):Gr a ((((((w.setCell ⟨B,0,none⟩ u0).setCell ⟨B,1,none⟩ u1).setCell ⟨B,2,none⟩ u2).setCell ⟨B,3,none⟩ u3).setCell ⟨B,4,none⟩ u4).setCell ⟨B,5,none⟩ u5) :=
 (((((g.set (p:=⟨B,0,none⟩) hB u0).set (p:=⟨B,1,none⟩) hB u1).set (p:=⟨B,2,none⟩) hB u2).set (p:=⟨B,3,none⟩) hB u3).set (p:=⟨B,4,none⟩) hB u4).set (p:=⟨B,5,none⟩) hB u5
set_option maxHeartbeats 1000000 in
theorem zee (base g:Nat) (v:Value) (L:List It) (now:Int) (w:World) (h:HB base w g v L) (hs:Srt L) (hl:L.length≤1000000) :
    Calls Tryz.prog 42 #[.pointer (some ⟨g,0,none⟩),.int .i64 now] w (RetH base g v (z9d L now) (.tuple #[iv (if due L now then hd L else z0),.bool (due L now)]) w):=by
  have HN:=hid (fun W (y:Gr w W)=>zdX base g v L W (h.gr y))
  have hlt:=h.lt
  have hol:=fun k e=>(h.row.lt k e).2
  by_cases h0:0<L.length
  · have HR:=hid (fun W (y:Gr w W)=>by
      have:=zaS base g v L (hd L) W (h.gr y) hs hl
      rw [zg4 h0,zgp h0] at this
      exact this)
    have H:=hid h
    unfold z9d due
    rw [decide_eq_true h0] at HN ⊢
    clear h hs
    obtain ⟨⟨a,b,c,d,e,f⟩,hy⟩:∃ y,hd L=y:=⟨_,rfl⟩
    rw [hy] at HN HR ⊢
    simp only [iv,Bool.true_and] at HN HR ⊢
    clear hy
    generalize L.drop 1=L' at *
    by_cases hd':a≤now
    · rw [decide_eq_true hd',if_pos rfl,if_pos rfl]
      have hnd:¬ now<a:=by omega
      go_enter Tryz.func42,Tryz.ntmps42
      go_wp2_with (first
        | (go_at_call 73;refine (HN.o _ ((Gr.refl w).alloc _)).mono ?_;rintro e _ ⟨rfl,y1,rfl⟩
           have G1:=hid (show Gr w y1.val from ((Gr.refl w).alloc _).ext y1)
           have hB:=(y1.gr.block w.heap.size (by simp)).trans (heap_alloc_new w _)
           obtain ⟨b0,b1,b2,b3,b4,b5,f0,f1,f2,f3,f4,f5⟩:=zc9 hB
           have HBX:=hid hB
           clear hB
           have hbl:w.heap.size<y1.val.heap.size:=y1.lt_alloc)
        | (go_at_call 74;refine (HR.o _ (G1.o.alloc _)).mono ?_
           rintro e w2 ⟨v2,rfl,h2,m2,o2⟩
           have H2:=hid h2
           have M2:=hid m2
           have O2:=hid o2
           clear h2 m2 o2 b0 b1 b2 b3 b4 b5 f0 f1 f2 f3 f4 f5
           obtain ⟨b0,b1,b2,b3,b4,b5,f0,f1,f2,f3,f4,f5⟩:=zc9 ((M2.o.block w.heap.size (by simp;omega) (by rintro (e | e);omega;have:=hol _ e.symm;omega)).trans ((((Gr.refl y1.val).alloc _).block _ hbl).trans HBX.o))
           obtain ⟨k0,k1,k2,k3,k4,k5,_⟩:=zc9 ((M2.o.block y1.val.heap.size (by simp) (by rintro (e | e);omega;have:=hol _ e.symm;omega)).trans (heap_alloc_new y1.val _))))
      refine bodyPost_ret (v:=.tuple #[.agg #[.int .i64 a,.int .i64 b,.int .i64 c,.int .i64 d,.int .i64 e,.int .i64 f],.bool true]) (by simp [results,Tryz.results42,go_sem,b0,b1,b2,b3,b4,b5]) rfl ⟨v2,rfl,?_,?_,?_⟩
      · refine H2.o.mod (set6 w2 w.heap.size _ _ _ _ _ _) (by omega) ?_
        · rintro k e rfl
          rcases O2.o with h | ⟨k,h1,h2⟩
          · have:=hol _ (h.symm.trans e);omega
          · have h3:=h1.symm.trans e
            injection h3 with h3
            simp at h2
            omega
      · have M:=((G1.o.alloc (.cells #[.int .i64 a,.int .i64 b,.int .i64 c,.int .i64 d,.int .i64 e,.int .i64 f] 92)).mod (fun k=>k=g∨some k=v.ownBlock)).trans M2.o (fun _ _ h=>h)
        exact M.trans (set6 w2 w.heap.size _ _ _ _ _ _) (fun x hx e=>by omega)
      · rcases O2.o with h | ⟨k,h1,h2⟩
        · exact .inl h
        · refine .inr ⟨k,h1,?_⟩
          simp at h2
          omega
    · rw [decide_eq_false hd',if_neg Bool.false_ne_true,if_neg Bool.false_ne_true]
      have hnd:now<a:=by omega
      go_enter Tryz.func42,Tryz.ntmps42
      go_wp2_with (first
        | (go_at_call 73;refine (HN.o _ ((Gr.refl w).alloc _)).mono ?_;rintro e _ ⟨rfl,y1,rfl⟩
           have G1:=hid (show Gr w y1.val from ((Gr.refl w).alloc _).ext y1)
           have hB:=(y1.gr.block w.heap.size (by simp)).trans (heap_alloc_new w _)
           obtain ⟨b0,b1,b2,b3,b4,b5,f0,f1,f2,f3,f4,f5⟩:=zc9 hB
           clear hB
           have hbl:w.heap.size<y1.val.heap.size:=y1.lt_alloc))
      refine bodyPost_ret (v:=.tuple #[.agg #[.int .i64 0,.int .i64 0,.int .i64 0,.int .i64 0,.int .i64 0,.int .i64 0],.bool false]) (by simp [results,Tryz.results42,go_sem,b0,b1,b2,b3,b4,b5]) rfl ⟨v,rfl,?_,?_,.inl rfl⟩
      · refine H.o.gr ?_
        exact (gr6 G1.o w.heap.size (Nat.le_refl _) _ _ _ _ _ _).alloc _
      · refine Gr.mod ?_ _
        exact (gr6 G1.o w.heap.size (Nat.le_refl _) _ _ _ _ _ _).alloc _
  · have H:=hid h
    unfold z9d due
    rw [decide_eq_false h0] at HN ⊢
    have hL:L=[]:=List.eq_nil_of_length_eq_zero (by omega)
    subst hL
    clear h hs
    simp only [iv,Bool.false_and,hd,List.getD_nil] at HN ⊢
    rw [if_neg Bool.false_ne_true,if_neg Bool.false_ne_true]
    go_enter Tryz.func42,Tryz.ntmps42
    go_wp2_with (first
        | (go_at_call 73;refine (HN.o _ ((Gr.refl w).alloc _)).mono ?_;rintro e _ ⟨rfl,y1,rfl⟩
           have G1:=hid (show Gr w y1.val from ((Gr.refl w).alloc _).ext y1)
           have hB:=(y1.gr.block w.heap.size (by simp)).trans (heap_alloc_new w _)
           obtain ⟨b0,b1,b2,b3,b4,b5,f0,f1,f2,f3,f4,f5⟩:=zc9 hB
           clear hB
           have hbl:w.heap.size<y1.val.heap.size:=y1.lt_alloc))
    refine bodyPost_ret (v:=.tuple #[.agg #[.int .i64 0,.int .i64 0,.int .i64 0,.int .i64 0,.int .i64 0,.int .i64 0],.bool false]) (by simp [results,Tryz.results42,go_sem,b0,b1,b2,b3,b4,b5]) rfl ⟨v,rfl,?_,?_,.inl rfl⟩
    · refine H.o.gr ?_
      exact (gr6 G1.o w.heap.size (Nat.le_refl _) _ _ _ _ _ _).alloc _
    · refine Gr.mod ?_ _
      exact (gr6 G1.o w.heap.size (Nat.le_refl _) _ _ _ _ _ _).alloc _
theorem z8c (v0 v1 v2 v3 v4 v5:Value):∀ (o:Nat) (C:List Value),o+6≤C.length→(((((C.set o v0).set (o+1) v1).set (o+2) v2).set (o+3) v3).set (o+4) v4).set (o+5) v5=splice C o [v0,v1,v2,v3,v4,v5]
 | 0,c0::c1::c2::c3::c4::c5::r,_=>by simp [splice]
 | 0,[],h | 0,[_],h | 0,[_,_],h | 0,[_,_,_],h | 0,[_,_,_,_],h | 0,[_,_,_,_,_],h=>by simp at h
 | o+1,[],h=>by simp at h
 | o+1,c::r,h=>by
  have:=z8c v0 v1 v2 v3 v4 v5 o r (by simpa using h)
  rw [show o+1+1=(o+1)+1 from rfl,show o+1+2=(o+2)+1 from rfl,show o+1+3=(o+3)+1 from rfl,show o+1+4=(o+4)+1 from rfl,show o+1+5=(o+5)+1 from rfl]
  simp only [List.set_cons_succ]
  rw [this]
  simp only [splice,List.take_succ_cons,List.cons_append]
  rw [show o+1+[v0,v1,v2,v3,v4,v5].length=(o+[v0,v1,v2,v3,v4,v5].length)+1 by simp,List.drop_succ_cons]
theorem zea {w:World} {g o:Nat} {C:List Value} {t:TypeId} (h:w.heap[g]?=some (.cells C.toArray t (0,0))) (ho:o+6≤C.length) (v0 v1 v2 v3 v4 v5:Value) :
  ((((((w.setCell ⟨g,o,none⟩ v0).setCell ⟨g,o+1,none⟩ v1).setCell ⟨g,o+2,none⟩ v2).setCell ⟨g,o+3,none⟩ v3).setCell ⟨g,o+4,none⟩ v4).setCell ⟨g,o+5,none⟩ v5).heap[g]?=some (.cells (splice C o [v0,v1,v2,v3,v4,v5]).toArray t (0,0)):=by
 have step:∀ (w:World) (cs:List Value) (j:Nat) (v:Value),w.heap[g]?=some (.cells cs.toArray t (0,0))→(w.setCell ⟨g,j,none⟩ v).heap[g]?=some (.cells (cs.set j v).toArray t (0,0)):=fun w cs j v hw=>by
  rw [setCell_eq_setRow w g j cs.toArray t (0,0) v hw,setRow_heap w g _ _ t _ hw]
  simp
 have h5:=step _ _ (o+5) v5 (step _ _ (o+4) v4 (step _ _ (o+3) v3 (step _ _ (o+2) v2 (step _ _ (o+1) v1 (step _ _ o v0 h)))))
 rw [z8c v0 v1 v2 v3 v4 v5 o C ho] at h5
 exact h5
theorem mod6 (w:World) (g o:Nat) (u0 u1 u2 u3 u4 u5:Value):Mod (fun k=>k=g) w ((((((w.setCell ⟨g,o,none⟩ u0).setCell ⟨g,o+1,none⟩ u1).setCell ⟨g,o+2,none⟩ u2).setCell ⟨g,o+3,none⟩ u3).setCell ⟨g,o+4,none⟩ u4).setCell ⟨g,o+5,none⟩ u5) :=
 (((((((Gr.refl w).mod (fun k=>k=g)).set (p:=⟨g,o,none⟩) (fun _=>rfl) u0).set (p:=⟨g,o+1,none⟩) (fun _=>rfl) u1).set (p:=⟨g,o+2,none⟩) (fun _=>rfl) u2).set (p:=⟨g,o+3,none⟩) (fun _=>rfl) u3).set (p:=⟨g,o+4,none⟩) (fun _=>rfl) u4).set (p:=⟨g,o+5,none⟩) (fun _=>rfl) u5
def z4u (p:It→Bool) (L:List It):List It:=L.filter fun x=>!p x
theorem z6o (p:It→Bool) (L:List It) (j:Nat) (hj:j<L.length):z4u p (L.take (j+1))=if p (L.getD j z0) then z4u p (L.take j) else z4u p (L.take j)++[L.getD j z0]:=by
 unfold z4u
 rw [List.take_succ_eq_append_getElem hj,List.filter_append]
 have:L.getD j z0=L[j]:=by simp [List.getD,hj]
 rw [this]
 cases e:p L[j]<;>simp [e]
theorem z6n (p:It→Bool) (L:List It) (h:∀ x∈L,p x=false):z4u p L=L:=by
 unfold z4u
 rw [List.filter_eq_self]
 intro x hx
 simp [h x hx]
structure Thin (C:List Value) (cap:Nat) (L K:List It) (j:Nat):Prop where
 len:C.length=cap * 6
 kept:C.take (K.length * 6)=cs6 K
 rest:(C.drop (j * 6)).take ((L.length-j) * 6)=cs6 (L.drop j)
 lt:K.length<j
theorem Thin.at_ {C:List Value} {cap:Nat} {L K:List It} {j:Nat} (h:Thin C cap L K j) (hj:j<L.length):∀ t u,(ic (L.getD j z0))[t]?=some u→C[j * 6+t]?=some u:=by
 intro t u hu
 have ht:=(List.getElem?_eq_some_iff.1 hu).1
 rw [z0t] at ht
 have e:(cs6 (L.drop j))[0 * 6+t]?=(ic ((L.drop j).getD 0 z0))[t]?:=z4d (L.drop j) 0 t (by rw [List.length_drop];omega) ht
 rw [← h.rest,Nat.zero_mul,Nat.zero_add,List.getElem?_take,if_pos (by omega),List.getElem?_drop] at e
 rw [e,← hu]
 simp [List.getD]
theorem Thin.skip {C:List Value} {cap:Nat} {L K:List It} {j:Nat} (h:Thin C cap L K j) (hj:j<L.length):Thin C cap L K (j+1):=by
 refine ⟨h.len,h.kept,?_,by have:=h.lt;omega⟩
 have:(C.drop ((j+1) * 6)).take ((L.length-(j+1)) * 6)=((C.drop (j * 6)).take ((L.length-j) * 6)).drop 6:=by
  rw [List.drop_take,List.drop_drop]
  congr 1
  ·omega
  ·congr 1;omega
 rw [this,h.rest,show (6:Nat)=1 * 6 from rfl,← z3X,List.drop_drop]
theorem Thin.take {C:List Value} {cap:Nat} {L K:List It} {j:Nat} (h:Thin C cap L K j) (hj:j<L.length) (hcap:L.length≤cap) (x:It):Thin (splice C (K.length * 6) (ic x)) cap L (K++[x]) (j+1):=by
 have h1:=h.skip hj
 have hlt:=h.lt
 have hl:=h.len
 refine ⟨by rw [length_splice _ _ _ (by rw [z0t];omega)];exact hl,?_,?_,by simp;omega⟩
 ·rw [z5j,List.length_append,List.length_singleton]
  unfold splice
  rw [h.kept,← List.append_assoc,List.take_left' (by rw [List.length_append,z0l,z0t];omega)]
  simp [cs6]
 ·have:(splice C (K.length * 6) (ic x)).drop ((j+1) * 6)=C.drop ((j+1) * 6):=by
   unfold splice
   rw [← List.append_assoc,List.drop_append,List.drop_eq_nil_of_le (by rw [List.length_append,List.length_take,z0t];omega),List.nil_append,List.drop_drop,List.length_append,List.length_take,z0t]
   congr 1
   omega
  rw [this]
  exact h1.rest
theorem z2J {S:Nat→Prop} {w w':World} {B e size n:Nat} {v:Value} {xs:List Value} (h:w.ownsRow B e size v n xs) (m:Mod S w w') (hS:∀ k,v.ownBlock=some k→¬ S k):w'.ownsRow B e size v n xs:=by
 refine ⟨h.1,?_⟩
 rcases h.2 with h2 | ⟨g',cap,cur,hv,hb,hh,r⟩
 ·exact .inl h2
 ·exact .inr ⟨g',cap,cur,hv,hb,(m.block g' (Array.getElem?_eq_some_iff.1 hh).1 (hS g' (by rw [hv];rfl))).trans hh,r⟩
set_option maxHeartbeats 2000000 in
theorem zbp (base:Nat) (flow run:Int) (v:Value) (L:List It) (B1 B2:Nat) (w:World) (h:w.ownsRow base 92 6 v L.length (cs6 L)) (hl:L.length≤1000000) (h1:w.cell? ⟨B1,0,none⟩=some (.int .i64 flow)) (h2:w.cell? ⟨B2,0,none⟩=some (.int .i64 run)) (n1:v.ownBlock≠some B1) (n2:v.ownBlock≠some B2) :
  Calls Tryz.prog 190 #[v,.func (.func 191) #[] #[.pointer (some ⟨B1,0,none⟩),.pointer (some ⟨B2,0,none⟩)]] w (z6b base v (z4u (gone flow run) L) w):=by
 have l1:=World.block_lt_of_cell? w _ h1
 have l2:=World.block_lt_of_cell? w _ h2
 simp only at l1 l2
 have hsh:∃ A c,v=.slice A L.length c:=by
  rcases h.2 with ⟨rfl,h0⟩ | ⟨g,cap,cur,rfl,_⟩
  ·exact ⟨none,0,by rw [h0]⟩
  ·exact ⟨_,_,rfl⟩
 obtain ⟨A,cp,rfl⟩:=hsh
 have HIX:=hid (zcg flow run A cp L B1 B2 w (Row.of_own h) (by omega) h1 h2)
 have H:=hid h
 have H1:=hid h1
 have H2:=hid h2
 clear h h1 h2
 go_enter Tryz.func190,Tryz.ntmps190
 go_wp2_with fail
 refine HIX.o.mono ?_
 rintro en w1 ⟨r,rfl,g1,hcase⟩
 have G1:=hid g1
 clear g1
 rcases hcase with ⟨rfl,hnone⟩ | ⟨i0,rfl,hi0,hgi,hall⟩
 ·have HK:=hid (z6n (gone flow run) L hnone)
  clear hnone
  go_wp2_with fail
  go_ret
  exact ⟨_,rfl,by rw [HK.o];exact z2J H.o (G1.o.mod fun _=>False) (fun _ _ e=>e),G1.o.mod _,.inl rfl⟩
 ·rcases id H.o.2 with ⟨_,h0⟩ | ⟨g,cap,cur,hv,hbg,hg',hnc,hcm,hcs,ht⟩
  ·omega
  injection hv with hA _ hc
  subst hA hc
  obtain ⟨C,hC0⟩:∃ C,C=cur.toList:=⟨_,rfl⟩
  have hg:w1.heap[g]?=some (.cells C.toArray 92 (0,0)):=by rw [hC0,(G1.o.block g (Array.getElem?_eq_some_iff.1 hg').1),hg']
  have hCl:C.length=cp * 6:=by rw [hC0];simpa using hcs
  rw [← hC0] at ht
  have hgw:g<w.heap.size:=(Array.getElem?_eq_some_iff.1 hg').1
  clear hC0 hg' hcs
  have hg1:B1≠g:=fun e=>n1 (by rw [e];rfl)
  have hg2:B2≠g:=fun e=>n2 (by rw [e];rfl)
  have hk0:z4u (gone flow run) (L.take (i0+1))=L.take i0:=by
   rw [z6o _ _ _ hi0,if_pos hgi]
   refine z6n _ _ fun x hx=>?_
   obtain ⟨j,hj,rfl⟩:=List.getElem_of_mem hx
   simp only [List.length_take] at hj
   have:=hall j (by omega)
   rw [List.getElem_take]
   simpa [List.getD,show j<L.length by omega] using this
  have T0:=hid (show Thin C cp L (z4u (gone flow run) (L.take (i0+1))) (i0+1) from by
   rw [hk0]
   refine ⟨hCl,?_,?_,by simp;omega⟩
   ·rw [List.length_take,Nat.min_eq_left (by omega),z4p,← ht,List.take_take,Nat.min_eq_left (by omega)]
   ·rw [z3X,← ht,List.drop_take]
    congr 1
    omega)
  have hq0:(z4u (gone flow run) (L.take (i0+1))).length=i0:=by rw [hk0,List.length_take];omega
  have HQ0:=hid hq0
  have M0:=hid (G1.o.mod (fun k=>k=g))
  have HG0:=hid hg
  clear hk0 hq0 hall hgi hg ht hCl HIX
  have hne1:((i0:Int)==-1)=false:=by rw [beq_eq_false_iff_ne];omega
  go_wp2_with fail
  go_loopw [5,6,7] (fun i j _ wr=>∃ (q jj:Nat) (C:List Value),jj≤L.length∧i=.int .i64 q∧j=.int .i64 jj∧Mod (fun k=>k=g) w wr∧wr.heap[g]?=some (.cells C.toArray 92 (0,0))∧Thin C cp L (z4u (gone flow run) (L.take jj)) jj∧(z4u (gone flow run) (L.take jj)).length=q) (fun _ j _ _=>L.length-(intOf j).toNat)
  case atStart=>exact ⟨i0,i0+1,C,by omega,rfl,by go_num,M0.o,HG0.o,T0.o,HQ0.o⟩
  case round =>
   obtain ⟨q,jj,C',hjl,rfl,rfl,hm,hgc,hth,hq⟩:=hrel
   have HM:=hid hm
   have HGC:=hid hgc
   have HTH:=hid hth
   have HQ:=hid hq
   have hqj:q<jj:=by have:=hth.lt;omega
   have hC'l:=hth.len
   have hgr:g<wr.heap.size:=(Array.getElem?_eq_some_iff.1 hgc).1
   have hfz:∀ t,wr.frozen? ⟨g,t,none⟩=false:=fun t=>by simp [World.frozen?,hgc]
   have hce:∀ t,wr.cell? ⟨g,t,none⟩=C'[t]?:=fun t=>by simp [World.cell?,hgc]
   clear hm hgc hth hq
   by_cases hlt:jj<L.length
   ·have hx:=HTH.o.at_ hlt
    obtain ⟨⟨a,b,c,d,e,f⟩,hy⟩:∃ y,L.getD jj z0=y:=⟨_,rfl⟩
    rw [hy] at hx
    have c0:=(hce (jj * 6)).trans (hx 0 _ rfl)
    have c1:=(hce (jj * 6+1)).trans (hx 1 _ rfl)
    have c2:=(hce (jj * 6+2)).trans (hx 2 _ rfl)
    have c3:=(hce (jj * 6+3)).trans (hx 3 _ rfl)
    have c4:=(hce (jj * 6+4)).trans (hx 4 _ rfl)
    have c5:=(hce (jj * 6+5)).trans (hx 5 _ rfl)
    have HY:=hid hy
    clear hx hy
    have m1:wr.cell? ⟨B1,0,none⟩=some (.int .i64 flow):=(World.cell?_of_block (HM.o.block B1 l1 hg1)).trans H1.o
    have m2:wr.cell? ⟨B2,0,none⟩=some (.int .i64 run):=(World.cell?_of_block (HM.o.block B2 l2 hg2)).trans H2.o
    have HGN:=hid (fun W (y:Gr wr W)=>zgn flow run a b c d e f B1 B2 W ((y.cell (p:=⟨B1,0,none⟩) (World.block_lt_of_cell? wr _ m1)).trans m1) ((y.cell (p:=⟨B2,0,none⟩) (World.block_lt_of_cell? wr _ m2)).trans m2))
    clear m1 m2
    have HKS:=hid (z6o (gone flow run) L jj hlt)
    rw [HY.o] at HKS
    cases hgn:gone flow run (a,b,c,d,e,f)
    ·rw [hgn] at HGN HKS
     rw [if_neg Bool.false_ne_true] at HKS
     have HTK:=hid (HTH.o.take hlt hnc (a,b,c,d,e,f))
     clear hgn
     obtain ⟨xv0,k0⟩:∃ u,wr.cell? ⟨g,q * 6,none⟩=some u:=⟨_,(hce _).trans (List.getElem?_eq_getElem (by omega))⟩
     obtain ⟨xv1,k1⟩:∃ u,wr.cell? ⟨g,q * 6+1,none⟩=some u:=⟨_,(hce _).trans (List.getElem?_eq_getElem (by omega))⟩
     obtain ⟨xv2,k2⟩:∃ u,wr.cell? ⟨g,q * 6+2,none⟩=some u:=⟨_,(hce _).trans (List.getElem?_eq_getElem (by omega))⟩
     obtain ⟨xv3,k3⟩:∃ u,wr.cell? ⟨g,q * 6+3,none⟩=some u:=⟨_,(hce _).trans (List.getElem?_eq_getElem (by omega))⟩
     obtain ⟨xv4,k4⟩:∃ u,wr.cell? ⟨g,q * 6+4,none⟩=some u:=⟨_,(hce _).trans (List.getElem?_eq_getElem (by omega))⟩
     obtain ⟨xv5,k5⟩:∃ u,wr.cell? ⟨g,q * 6+5,none⟩=some u:=⟨_,(hce _).trans (List.getElem?_eq_getElem (by omega))⟩
     have f0:=hfz (q * 6)
     have f1:=hfz (q * 6+1)
     have f2:=hfz (q * 6+2)
     have f3:=hfz (q * 6+3)
     have f4:=hfz (q * 6+4)
     have f5:=hfz (q * 6+5)
     clear hfz hce
     have hqn:(q:Int)<(L.length:Int):=by omega
     go_wp2_with (first | (go_at_fn 36;refine (HGN.o _ ((Gr.refl _).alloc _)).mono ?_;rintro en _ ⟨rfl,y1,rfl⟩) | (go_at_call 191;refine (HGN.o _ ((Gr.refl _).alloc _)).mono ?_;rintro en _ ⟨rfl,y1,rfl⟩))
     go_roundw
     case rel =>
      have G9:Gr wr y1.val:=((Gr.refl wr).alloc _).ext y1
      refine ⟨q+1,jj+1,splice C' (q * 6) (ic (a,b,c,d,e,f)),by omega,by go_num,by go_num,(HM.o.gr G9).trans (mod6 y1.val g (q * 6) _ _ _ _ _ _) (fun _ _ h=>h),zea ((G9.block g hgr).trans HGC.o) (by omega) _ _ _ _ _ _,?_,?_⟩
      ·rw [HKS.o]
       have:=HTK.o
       rw [HQ.o] at this
       exact this
      ·rw [HKS.o,List.length_append,HQ.o];rfl
     case measure=>simp [intOf];omega
    ·rw [hgn] at HGN HKS
     rw [if_pos rfl] at HKS
     clear hgn hfz hce
     go_wp2_with (first | (go_at_fn 36;refine (HGN.o _ ((Gr.refl _).alloc _)).mono ?_;rintro en _ ⟨rfl,y1,rfl⟩) | (go_at_call 191;refine (HGN.o _ ((Gr.refl _).alloc _)).mono ?_;rintro en _ ⟨rfl,y1,rfl⟩))
     go_roundw
     case rel =>
      have G9:Gr wr y1.val:=((Gr.refl wr).alloc _).ext y1
      exact ⟨q,jj+1,C',by omega,rfl,by go_num,HM.o.gr G9,(G9.block g hgr).trans HGC.o,by rw [HKS.o];exact HTH.o.skip hlt,by rw [HKS.o];exact HQ.o⟩
     case measure=>simp [intOf];omega
   ·have hje:jj=L.length:=by omega
    subst hje
    have hT:=HTH.o
    have hQ:=HQ.o
    rw [List.take_length] at hT hQ
    have HK:=hid hT
    have HQ':=hid hQ
    clear hT hQ HTH HQ hfz hce
    have hcl:∀ ty c',(Builtin.clear_ #[115] ty #[.slice (some ⟨g,q * 6,none⟩) (L.length-q) c']).run Tryz.prog wr=.ok (.tuple #[]) (wr.setRow g (splice C' (q * 6) (Builtin.zeroCells (Value.agg #[.int .i64 0,.int .i64 0,.int .i64 0,.int .i64 0,.int .i64 0,.int .i64 0]).cells (L.length-q)).toList).toArray):=fun ty c' =>
     z4b wr 115 92 ty _ 6 Tryz.underlying115 (zeE wr) rfl (by intro v hv;simp [Value.cells] at hv;rcases hv with rfl;rfl) g (q * 6) (L.length-q) c' (by omega) C' 92 HGC.o (by omega)
    have hlen2:(splice C' (q * 6) (Builtin.zeroCells (Value.agg #[.int .i64 0,.int .i64 0,.int .i64 0,.int .i64 0,.int .i64 0,.int .i64 0]).cells (L.length-q)).toList).length=C'.length:=length_splice _ _ _ (by rw [Array.length_toList,size_zeroCells];simp only [Value.cells];show _+(L.length-q) * 6≤_;omega)
    have hh2:=hid (setRow_heap wr g _ (splice C' (q * 6) (Builtin.zeroCells (Value.agg #[.int .i64 0,.int .i64 0,.int .i64 0,.int .i64 0,.int .i64 0,.int .i64 0]).cells (L.length-q)).toList).toArray 92 _ HGC.o)
    have hm2:=hid (HM.o.trans (z2v wr g (splice C' (q * 6) (Builtin.zeroCells (Value.agg #[.int .i64 0,.int .i64 0,.int .i64 0,.int .i64 0,.int .i64 0,.int .i64 0]).cells (L.length-q)).toList).toArray) (fun _ _ h=>h))
    have htk:=hid (z5V C' (Builtin.zeroCells (Value.agg #[.int .i64 0,.int .i64 0,.int .i64 0,.int .i64 0,.int .i64 0,.int .i64 0]).cells (L.length-q)).toList (q * 6) (by omega))
    generalize hw2:wr.setRow g (splice C' (q * 6) (Builtin.zeroCells (Value.agg #[.int .i64 0,.int .i64 0,.int .i64 0,.int .i64 0,.int .i64 0,.int .i64 0]).cells (L.length-q)).toList).toArray=W2 at *
    generalize splice C' (q * 6) (Builtin.zeroCells (Value.agg #[.int .i64 0,.int .i64 0,.int .i64 0,.int .i64 0,.int .i64 0,.int .i64 0]).cells (L.length-q)).toList=C2 at *
    have HX2:=hid hw2
    clear hw2
    have hb1:¬ (cp=q):=by omega
    have hqn:q≤L.length:=by omega
    have hqc:q≤cp:=by omega
    go_wp2_with (at_builtin;refine z3V _ rfl _ 115 rfl _ rfl (hcl _ _) ?_)
    go_ret
    have e:=HQ'.o
    refine ⟨_,rfl,⟨by rw [z0l],.inr ⟨g,cp,C2.toArray,?_,hbg,hh2.o,by omega,hcm,by simp;omega,?_⟩⟩,hm2.o.mono (fun _ _ h=>by simp [Value.ownBlock,h]),.inl rfl⟩
    ·rw [e];rfl
    ·rw [e,List.toList_toArray,htk.o,← e]
     exact HK.o.kept
end Go.Proofs.YtniknicnnaiilaaGreat
end
section
namespace Go.Ext
section
variable {P:Program} {ops:Array Oper} {Q:Exit→Act→World→Prop} {md:Region.Mode}
theorem z4C {S S':World→Prop} (hs:∀ W,S' W→S W):∀ (fuel:Nat) (listed:Array Bool) (a:Act) (w:World),wpAnyH P md ops Q S' fuel listed a w→wpAnyH P md ops Q S fuel listed a w
 | 0,_,_,_,h=>h
 | fuel+1,_,_,_,h=>⟨h.1,fun i hi=>wpOp_mono (fun a' w' h'=>⟨hs w' h'.1,z4C hs fuel _ a' w' h'.2⟩) (h.2 i hi)⟩
def wpPl (P:Program) (ops:Array Oper) (Q:Exit→Act→World→Prop):List (Nat × Bool)→(World→Prop)→Act→World→Prop
 | [],_,a,w=>Q .normal a w
 | (i,false)::r,S,a,w=>∃ o v,ops[i]?=some o∧YieldsIf P ops S o v a∧wpPl P ops Q r S (a.put o.dst v) w
 | (i,true)::r,S,a,w=>∃ o,ops[i]?=some o∧if Region.wanted o (yielded ops a.tmps)=true then Oper.wp P o a w (fun a' w'=>∃ S':World→Prop,S' w'∧(∀ W,S' W→S W)∧wpPl P ops Q r S' a' w') Q else wpPl P ops Q r S (a.put o.dst undef) w
def z96 (md:Region.Mode) (ops:Array Oper):List (Nat × Bool)→Array Bool→Bool
 | [],listed=>(Region.ready md ops listed).isEmpty
 | (i,false)::r,listed=>Region.free md ops listed i && (Region.ready md ops listed).contains i && z96 md ops r (listed.setIfInBounds i true)
 | (i,true)::r,listed=>Region.ready md ops listed==[i] && z96 md ops r (listed.setIfInBounds i true)
theorem z2B (hsel:Region.noSelect ops=true) (hQ:∀ c a d v w,Q (.panic c) (Act.put a d v) w→Q (.panic c) a w) :
  ∀ (plan:List (Nat × Bool)) (listed:Array Bool) (S:World→Prop) (a:Act) (w:World),z96 md ops plan listed=true→S w→wpPl P ops Q plan S a w→wpAnyH P md ops Q S plan.length listed a w
 | [],_,_,_,_,hB,_,h=>⟨by simpa [z96] using hB,h⟩
 | (i,false)::r,listed,S,a,w,hB,hS,h=>by
  simp only [z96,Bool.and_eq_true] at hB
  obtain ⟨⟨hf,hr⟩,hB'⟩:=hB
  obtain ⟨o,v,ho,hy,h'⟩:=h
  exact wpAnyH_take ho hsel hf hr (fun c a w=>hQ c a _ _ w) hy hS (z2B hsel hQ r _ S _ w hB' hS h')
 | (i,true)::r,listed,S,a,w,hB,hS,h=>by
  simp only [z96,Bool.and_eq_true,beq_iff_eq] at hB
  obtain ⟨hr,hB'⟩:=hB
  obtain ⟨o,ho,h'⟩:=h
  refine wpAnyH_all (rs:=[i]) hr (by simp) (fun j hj=>?_)
  obtain rfl:j=i:=by simpa using hj
  unfold wpOp
  simp only [ho]
  split
  ·rename_i hw
   rw [if_pos hw] at h'
   exact .inl (Oper.wp_mono (fun a' w' ⟨S',h1,h2,h3⟩=>⟨h2 w' h1,z4C h2 _ _ _ _ (z2B hsel hQ r _ S' a' w' hB' h1 h3)⟩) h')
  ·rename_i hw
   rw [if_neg hw] at h'
   exact ⟨hS,z2B hsel hQ r _ S _ w hB' hS h'⟩
theorem z0w {id:Nat} {a:Act} {w:World} {l:List Oper} (plan:List (Nat × Bool)) (S:World→Prop) (hm:P.follows .mixedOrders=true)
  (hB:(Region.noSelect l.toArray && (plan.length==l.length) && z96 .any l.toArray plan (Array.replicate l.length false))=true)
  (hQ:∀ c a d v w,Q (.panic c) (Act.put a d v) w→Q (.panic c) a w) (hS:S w.drew) (h:S w.drew→wpPl P l.toArray Q plan S a w.drew):(Code.region id l.toArray true).wp P Q a w:=by
 simp only [Bool.and_eq_true,beq_iff_eq] at hB
 refine wp_region_held_drew (S:=S) hm hS (fun _=>?_)
 have:=z2B (P:=P) (Q:=Q) hB.1.1 hQ plan _ S a w.drew hB.2 hS (h hS)
 rw [hB.1.2] at this
 simpa using this
theorem z0A {l:List Oper} {i:Nat} {o:Oper} {v:Value} {r:List (Nat × Bool)} {S:World→Prop} {a:Act} {w:World} (ho:l[i]?=some o) (hw:Region.wanted o (yielded l.toArray a.tmps)=true)
  (hy:∀ w,S w→(execOp a.eval o).run P w=.ok (.value v) w) (h:wpPl P l.toArray Q r S (a.put o.dst v) w):wpPl P l.toArray Q ((i,false)::r) S a w:=⟨o,v,(List.getElem?_toArray ..).trans ho,.inl ⟨hw,hy⟩,h⟩
theorem z0D {l:List Oper} {i:Nat} {o:Oper} {r:List (Nat × Bool)} {S:World→Prop} {a:Act} {w:World} (ho:l[i]?=some o) (hw:Region.wanted o (yielded l.toArray a.tmps)=false)
  (h:wpPl P l.toArray Q r S (a.put o.dst undef) w):wpPl P l.toArray Q ((i,false)::r) S a w:=⟨o,undef,(List.getElem?_toArray ..).trans ho,.inr ⟨hw,rfl⟩,h⟩
theorem z1s {l:List Oper} {i:Nat} {o:Oper} {r:List (Nat × Bool)} {S:World→Prop} {a:Act} {w:World} (ho:l[i]?=some o) (hw:Region.wanted o (yielded l.toArray a.tmps)=true)
  (h:∀ K':Act→World→Prop,Shut (∀ (S':World→Prop) a w,S' w→(∀ W,S' W→S W)→(S' w→wpPl P l.toArray Q r S' a w)→K' a w)→Oper.wp P o a w K' Q):wpPl P l.toArray Q ((i,true)::r) S a w:=by
 refine ⟨o,(List.getElem?_toArray ..).trans ho,?_⟩
 rw [if_pos hw]
 exact h _ (fun S' a w h1 h2 h3=>⟨S',h1,h2,h3 h1⟩)
theorem z7a {l:List Oper} {i:Nat} {o:Oper} {r:List (Nat × Bool)} {S:World→Prop} {a:Act} {w:World} (ho:l[i]?=some o) (hw:Region.wanted o (yielded l.toArray a.tmps)=false)
  (h:wpPl P l.toArray Q r S (a.put o.dst undef) w):wpPl P l.toArray Q ((i,true)::r) S a w:=by
 refine ⟨o,(List.getElem?_toArray ..).trans ho,?_⟩
 rw [if_neg (by rw [hw];exact Bool.false_ne_true)]
 exact h
theorem z2K {S:World→Prop} {a:Act} {w:World} (h:Q .normal a w):wpPl P ops Q [] S a w:=h
end
theorem AP:(∀ (a:Act) (d:Nat) (v:Value),a.put (some d) v={ a with tmps:=a.tmps.setIfInBounds d v })∧(∀ (a:Act) (v:Value),a.put none v=a)∧(∀ (l:List Value) (i:Nat) (v:Value),l.toArray.setIfInBounds i v=(l.set i v).toArray)∧(∀ (x:Value) (l:List Value) (v:Value),(x::l).set 0 v=v::l)∧∀ (x:Value) (l:List Value) (i:Nat) (v:Value),(x::l).set (i+1) v=x::l.set i v:=⟨fun _ _ _=>rfl,fun _ _=>rfl,fun _ _ _=>by simp,fun _ _ _=>rfl,fun _ _ _ _=>rfl⟩
end Go.Ext
end
