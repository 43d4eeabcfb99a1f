/- Lemmas of the engine. -/
import Derived.Test.YtniknicnnaiilaaGreatX03
import Derived.Test.YtniknicnnaiilaaGreatX06
import Derived.Test.YtniknicnnaiilaaGreatX36
import Derived.Test.YtniknicnnaiilaaGreatLapses1
section
namespace Go.Proofs.YtniknicnnaiilaaGreat
set_option maxRecDepth 100000
open Go.RowKit Go.Ext Go.BigFrame Go.Maps Go.MapKept
attribute [local go_sem] Ext.cell Ext.frozen Ext.lt Ext.le s1 s2 s3 s4 s5 s6 t1 t2 t3 t4 t5 t6
attribute [local go_sem ↓] Go.wp_at_zero Go.wp_at_succ
structure Kx (m:Nat) (now:Int) (F:FS):Prop where
 i:FI F
 ne:F.l≠[]
 len:F.l.length≤m
 c:ChkP h00 F.l
 r:Rl F (fin F.l)
 t:0≤now∧now≤1099511627776
 le:(fin F.l).at_≤now
def Ck (F:FS):Prop:=ChkP h00 F.l∧(z0B F.l=1→Rl F (fin F.l))
theorem Kx.ck {m:Nat} {now:Int} {F:FS} (h:Kx m now F):Ck F:=⟨h.c,fun _=>h.r⟩
theorem Kx.mono {m m':Nat} {now:Int} {F:FS} (h:Kx m now F) (hm:m≤m'):Kx m' now F:=⟨h.i,h.ne,Nat.le_trans h.len hm,h.c,h.r,h.t,h.le⟩
theorem Kx.first {m:Nat} {now:Int} {F:FS} (h:Kx m now F):(fin F.l).n≠0:=by
 rw [h.r.n]
 have:=h.ne
 cases hl:F.l with
 | nil=>exact absurd hl this
 | cons a b=>simp only [List.length_cons];omega
theorem Kx.fit {m:Nat} {now k ref id list n:Int} {data:List UInt8} {F:FS} (h:Kx m now F) (hk:2≤k∧k≤23) (href:0≤ref∧ref≤1099511627776) (hid:0≤id∧id≤1048576) (hl:0≤list∧list≤1048576) (hn:0≤n∧n≤1048576) (hd:data.length≤4096)
  (rf:RefP (fin F.l) ⟨k,now,ref,id,list,n,data⟩) (t2:k=2→(fin F.l).task=0) (us:k=7∨k=12∨k=17→∀ x∈(fin F.l).kinds,x.2=k→lz (fin F.l).ids x.1≠id):FitP (fin F.l) ⟨k,now,ref,id,list,n,data⟩ :=
 ⟨⟨by simp only;omega,hk.2⟩,h.t,href,⟨hid.1,by simp only;omega⟩,⟨hl.1,by simp only;omega⟩,⟨hn.1,by simp only;omega⟩,hd,h.le,⟨fun e=>absurd e h.first,fun e=>by simp only at e;omega⟩,h.r.cl,rf,t2,us⟩
theorem Kx.put {m:Nat} {now:Int} {F:FS} {e:Ev} (h:Kx m now F) (hp:z3p F e) (hf:FitP (fin F.l) e) (ht:e.tick=now) (hk:e.kind<19) (h1:e.kind≠1):Kx (m+1) now (putF F e):=by
 have hr:=h.r.put h.i hp hf hk (fun e=>absurd e h1)
 have hl:=z4a F e
 refine ⟨h.i.put hp,z1W _ _,by rw [z0r];have:=h.len;omega,by rw [hl];exact h.c.app hf,by rw [hl,zbH];exact hr,h.t,?_⟩
 rw [hl,zbH,hr.at_,hl]
 simp [ht]
theorem Kx.last {m:Nat} {now:Int} {F:FS} {e:Ev} (h:Kx m now F) (hf:FitP (fin F.l) e) (hk:19≤e.kind):Ck (putF F e):=by
 refine ⟨by rw [z4a];exact h.c.app hf,fun hs=>?_⟩
 rw [z4a,z4i] at hs
 have:=hf.k.2
 unfold z1P at hs
 exfalso
 revert hs
 repeat' split
 all_goals first | (intro e;simp at e;done) | (intro;omega)
theorem ref0 {H:HS} {e:Ev} (hk:e.kind=1∨e.kind=2∨e.kind=7∨e.kind=12∨e.kind=15∨e.kind=16∨e.kind=17∨19≤e.kind) (h:e.ref=0):RefP H e:=by
 unfold RefP
 repeat rw [if_neg (by omega)]
 exact h
theorem Kx.putPlain {m:Nat} {now k n:Int} {data:List UInt8} {F:FS} (h:Kx m now F) (hk:k=15∨k=16) (hn:0≤n∧n≤1048576) (hd:data.length≤4096):Kx (m+1) now (putF F ⟨k,now,0,0,0,n,data⟩) :=
 h.put (.plain h.ne (by unfold z0V;dsimp only;omega) hn hd) (h.fit (by omega) (by omega) (by omega) (by omega) hn hd (ref0 (by simp only;omega) rfl) (fun e=>by omega) (fun e=>by omega)) rfl (by simp only;omega) (by simp only;omega)
theorem Kx.close {m:Nat} {now k:Int} {data:List UInt8} {F:FS} (h:Kx m now F) (hk:19≤k∧k≤23) (hd:data.length≤4096):Ck (z0J F k data now).1 :=
 h.last (e:=⟨k,now,0,0,0,0,data⟩) (h.fit (by omega) (by omega) (by omega) (by omega) (by omega) hd (ref0 (by simp only;omega) rfl) (fun e=>by omega) (fun e=>by omega)) hk.1
theorem Kx.schedule {m:Nat} {now:Int} {F:FS} (h:Kx m now F) (hm:m≤100000) (ht:F.task=0):Kx (m+1) now (z07 F now).1:=by
 have hlen:=h.len
 have htu:=h.i.turn
 have hli:=h.r.li
 exact h.put (e:=⟨2,now,0,0,F.list,F.turn,[]⟩) ⟨by dsimp only;omega,by simp,fun e=>absurd e h.ne,fun e=>by simp at e,fun _=>by dsimp only;omega,fun e=>by simp at e,fun e=>by simp at e,fun e=>by simp at e⟩
  (h.fit (by omega) (by omega) (by omega) hli (by omega) (by simp) (ref0 (by simp) rfl) (fun _=>h.r.t0 ht) (fun e=>by omega)) rfl (by simp) (by simp)
theorem Kx.wake {m:Nat} {now:Int} {F:FS} (h:Kx m now F) (hm:m≤100000):Kx (m+1) now (z0T F now).1:=by
 unfold z0T
 split
 ·rename_i ht
  exact h.schedule hm ht
 ·exact h.mono (by omega)
def z4X (now:Int) (act:FS→FR):Prop:=∀ F,Kx 4096 now F→Ck (act F).1
theorem zed {data:List UInt8} {now:Int} (hd:data.length≤4096):z4X now (z4O data now):=fun _ h=>((h.putPlain (.inl rfl) (by omega) hd).wake (by omega)).ck
theorem zdm {now:Int}:z4X now (z21 now):=fun _ h=>by
 unfold z21
 split
 ·exact h.ck
 ·exact ((h.putPlain (.inr rfl) (by omega) (by simp)).wake (by omega)).ck
theorem z9e {data:List UInt8} {now:Int} (hd:data.length≤4096):z4X now (z1m data now):=fun _ h=>h.close (by omega) hd
theorem zbn {ref turn now:Int}:z4X now (z0Q ref turn now):=fun F h=>by
 unfold z0Q
 split
 ·exact h.ck
 ·rename_i hw
  have hw:z1n F ref turn=true∧¬ turn<0:=by
   refine ⟨?_,fun e=>hw (.inl e)⟩
   cases hx:z1n F ref turn with
   | true=>rfl
   | false=>exact absurd (.inr hx) hw
  obtain ⟨hw,htu⟩:=hw
  unfold z1n at hw
  rw [if_neg (by omega)] at hw
  simp only [Bool.and_eq_true,beq_iff_eq] at hw
  obtain ⟨t1,t2,t3⟩:=h.r.t1 hw.1.1
  have htn:=h.r.tn
  have hn:=h.r.n
  have hlen:=h.len
  exact (h.put (e:=⟨3,now,ref,0,0,0,[]⟩) (.plain h.ne (by unfold z0V;dsimp only;omega) (by dsimp only;omega) (by simp))
   (h.fit (by omega) (by omega) (by omega) (by omega) (by omega) (by simp) (by unfold RefP;rw [if_pos rfl];exact ⟨by omega,t2,by simp only;omega⟩) (fun e=>by omega) (fun e=>by omega)) rfl (by simp) (by simp)).ck
theorem zfN {ref now:Int}:z4X now (z2H ref now):=fun F h=>by
 unfold z2H
 split
 ·exact h.ck
 ·rename_i hw
  split
  ·exact h.ck
  ·rename_i a ha
   have hw:z1n F ref (-1)=true:=by simpa using hw
   unfold z1n at hw
   rw [if_pos rfl] at hw
   cases hx:lk F.op ref with
   | none=>rw [hx] at hw;cases hw
   | some x =>
    rw [hx] at hw
    simp only [Bool.and_eq_true,beq_iff_eq] at hw
    obtain ⟨h1,h2,_,_,_,e,h6,h7,h8⟩:=h.i.keys _ (z0K hx)
    have hid:=h.i.ids _ (z0K hx)
    rw [ha] at h6
    injection h6 with h6
    subst h6
    rcases x with ⟨k,i,wk⟩
    obtain ⟨rfl,rfl⟩:=hw
    simp only at h8 hid h1 h2
    have hlen:=h.len
    have e7:lk (fin F.l).kinds ref=some 7:=by rw [h.r.ki,z45,hx];rfl
    have e8:lk (fin F.l).wfr ref=none:=by rw [h.r.fr,hx];rfl
    exact (h.put (e:=⟨8,now,ref,a.id,0,0,[]⟩) ⟨by dsimp only;omega,by simp,fun e=>absurd e h.ne,fun e=>by simp at e,fun e=>by simp at e,fun e=>by simp at e,fun _=>by simp only;rw [hx,h8],fun e=>by simp at e⟩
     (h.fit (by omega) (by omega) (by rw [h8];exact hid) (by omega) (by omega) (by simp) (by unfold RefP;simp only;rw [if_neg (by omega),if_neg (by omega),if_pos trivial];exact ⟨e7,e8⟩) (fun e=>by omega) (fun e=>by omega)) rfl (by simp) (by simp)).ck
theorem zeo {kind ref now:Int} {data:List UInt8} (hk:kind=9∨kind=10∨kind=11) (hd:data.length≤4096):z4X now (z2q kind ref data now):=fun F h=>by
 unfold z2q
 split
 ·exact h.ck
 ·rename_i x hx
  split
  ·exact h.ck
  ·rename_i hxx
   have hwk:x.works≠0:=fun e=>hxx (.inr e)
   obtain ⟨h1,h2,_,h4,h5,_⟩:=h.i.keys _ (z0K hx)
   have hid:=h.i.ids _ (z0K hx)
   simp only at h1 h2 h4 h5 hid
   have hlen:=h.len
   have hwf:lk (fin F.l).wof x.works=some ref:=(h.r.wf _ _).2 ⟨x,hx,rfl,hwk⟩
   exact ((h.put (e:=⟨kind,now,x.works,x.id,0,0,data⟩) (.plain h.ne (by unfold z0V;dsimp only;omega) (by dsimp only;omega) hd)
    (h.fit (by omega) (by omega) hid (by omega) (by omega) hd (by unfold RefP;simp only;rw [if_neg (by omega),if_neg (by omega),if_neg (by omega),if_pos hk];unfold lz;rw [hwf];simp only [Option.getD_some];omega) (fun e=>by omega) (fun e=>by omega)) rfl (by simp only;omega) (by simp only;omega)).wake (by omega)).ck
theorem zdU {ref turn now:Int}:z4X now (z1r ref turn now):=fun F h=>by
 unfold z1r
 split
 ·exact h.ck
 ·rename_i hm
  have ht:F.task=2:=Decidable.byContradiction fun e=>hm (.inl e)
  obtain ⟨t1,t2,t3⟩:=h.r.t2 ht
  have htn:=h.r.tn
  have hn:=h.r.n
  have hlen:=h.len
  exact ((h.put (e:=⟨5,now,F.begun,0,0,0,[]⟩) (.plain h.ne (by unfold z0V;dsimp only;omega) (by dsimp only;omega) (by simp))
   (h.fit (by omega) (by omega) (by omega) (by omega) (by omega) (by simp) (by unfold RefP;dsimp only;rw [if_neg (by omega),if_pos (by omega)];exact ⟨by omega,t2,by omega⟩) (fun e=>by omega) (fun e=>by omega)) rfl (by simp) (by simp)).schedule (by omega) (by simp [putF])).ck
theorem z9J {n now:Int} {F:FS} (h:Kx 4096 now F) (ht:F.task=2) (hn:0≤n∧n≤10):Ck (z0y F n now).1:=by
 obtain ⟨t1,t2,t3⟩:=h.r.t2 ht
 have htn:=h.r.tn
 have hnn:=h.r.n
 have hlen:=h.len
 exact ((h.put (e:=⟨6,now,F.begun,0,0,n,[]⟩) (.plain h.ne (by unfold z0V;dsimp only;omega) (by dsimp only;omega) (by simp))
  (h.fit (by omega) (by omega) (by omega) (by omega) (by omega) (by simp) (by unfold RefP;dsimp only;rw [if_neg (by omega),if_pos (by omega)];exact ⟨by omega,t2,by omega⟩) (fun e=>by omega) (fun e=>by omega)) rfl (by simp) (by simp)).schedule (by omega) (by simp [putF])).ck
theorem zdQ {ref turn now:Int}:z4X now (z1x ref turn now):=fun F h=>by
 unfold z1x
 split
 ·exact h.ck
 ·exact zeo (.inr (.inr rfl)) (by simp) F h
theorem zf0 {ref turn now:Int}:z4X now (z29 ref turn now):=fun F h=>by
 unfold z29
 split
 ·exact h.ck
 ·rename_i t ht
  split
  ·exact h.ck
  ·rename_i hk
   have hk:t.kind=12:=Decidable.byContradiction fun e=>hk (.inl e)
   obtain ⟨h1,h2,_⟩:=h.i.keys _ (z0K ht)
   have hid:=h.i.ids _ (z0K ht)
   simp only at h1 h2 hid
   have hlen:=h.len
   have e7:lk (fin F.l).kinds ref=some 12:=by rw [h.r.ki,z45,ht];simp [hk]
   exact ((h.put (e:=⟨13,now,ref,t.id,0,0,[]⟩) (.plain h.ne (by unfold z0V;dsimp only;omega) (by dsimp only;omega) (by simp))
    (h.fit (by omega) (by omega) hid (by omega) (by omega) (by simp) (by unfold RefP;dsimp only;rw [if_neg (by omega),if_neg (by omega),if_neg (by omega),if_neg (by omega),if_pos (by omega)];exact e7) (fun e=>by omega) (fun e=>by omega)) rfl (by simp) (by simp)).wake (by omega)).ck
theorem zdB {op:List (Int × Opn)} {kind id:Int} (h:z2r op kind id≠0):∃ o,(z2r op kind id,o)∈op∧o.kind=kind∧o.id=id:=by
 refine z4I (z2d.2 ?_)
 unfold z2r at h
 cases hf:op.find? fun x=>x.2.kind==kind && x.2.id==id with
 | none=>rw [hf] at h;exact absurd rfl h
 | some x =>
  have h1:=List.find?_some hf
  simp only [Bool.and_eq_true,beq_iff_eq] at h1
  exact ⟨x,List.mem_of_find?_eq_some hf,h1⟩
theorem z8B {id status now:Int} {data:List UInt8} (hd:data.length≤4096):z4X now (z0x id status data now):=fun F h=>by
 unfold z0x
 split
 ·exact h.ck
 ·rename_i hf
  split
  ·exact h.ck
  ·rename_i hst
   obtain ⟨o,ho,hok,hoi⟩:=zdB hf
   have hid:=h.i.ids _ ho
   obtain ⟨h1,h2,_⟩:=h.i.keys _ ho
   have hlk:=z5I h.i.nodup ho
   simp only at h1 h2 hid
   have hlen:=h.len
   have e7:lk (fin F.l).kinds (z2r F.op 17 id)=some 17:=by rw [h.r.ki,z45,hlk];simp [hok]
   exact ((h.put (e:=⟨18,now,z2r F.op 17 id,id,0,status,data⟩) (.plain h.ne (by unfold z0V;dsimp only;omega) (by dsimp only;omega) hd)
    (h.fit (by omega) (by omega) (by omega) (by omega) (by omega) hd (by unfold RefP;simp only;rw [if_neg (by omega),if_neg (by omega),if_neg (by omega),if_neg (by omega),if_neg (by omega),if_pos trivial];exact e7) (fun e=>by omega) (fun e=>by omega)) rfl (by simp) (by simp)).wake (by omega)).ck
theorem zdT {d:Dec} (h:mayF d=true):0≤d.list∧d.list≤1048576:=by
 unfold mayF at h
 simp only [Bool.and_eq_true] at h
 have:=h.1.1.2
 simpa [numB] using this
theorem Kx.done {m:Nat} {now:Int} {F:FS} {d:Dec} (h:Kx m now F) (hm:m≤100000) (hmay:mayF d=true) (ht:takeB (isOf F.op) d=true):(d.kind<5→Kx (m+1) now (z0d F d now).1)∧(5≤d.kind→Ck (z0d F d now).1):=by
 obtain ⟨h1,h2,h3,h4,h5,hid0⟩:=z0L hmay
 have hli:=zdT hmay
 have hlen:=h.len
 have hno:d.kind=1∨d.kind=2∨d.kind=4→∀ x∈F.op,x.2.kind=z2t d.kind→x.2.id=d.id→False:=fun hk x hx e1 e2=>by
  have:takeB (isOf F.op) d = !isOf F.op (z2t d.kind,d.id):=by
   unfold takeB
   rw [if_neg (by omega),if_pos hk]
  rw [this,z2d.2 ⟨x,hx,e1,e2⟩] at ht
  cases ht
 have hus:d.kind=1∨d.kind=2∨d.kind=4→∀ x∈(fin F.l).kinds,x.2=z2t d.kind→lz (fin F.l).ids x.1≠d.id:=fun hk x hx e1 e2=>by
  rw [h.r.ki] at hx
  obtain ⟨y,hy,rfl⟩:=List.mem_map.1 hx
  have hly:=z5I h.i.nodup (show (y.1,y.2)∈F.op from hy)
  unfold lz at e2
  rw [h.r.id,z45,hly] at e2
  exact hno hk y hy e1 e2
 have opens:∀ K:Int,(d.kind=1∨d.kind=2∨d.kind=4)→z2t d.kind=K→(K=7∨K=12∨K=17)→Kx (m+1) now (putF F ⟨K,now,0,d.id,d.list,d.n,d.data⟩):=fun K hk hK hK3=>by
  have hn:=hno hk
  have hu:=hus hk
  rw [hK] at hn hu
  exact h.put ⟨by have:=h4 (by omega);dsimp only;omega,h3,fun e=>absurd e h.ne,fun e=>by simp only at e;omega,fun e=>by simp only at e;omega,fun _=>hn,fun e=>by simp only at e;omega,fun _=>hid0⟩
   (h.fit (by omega) (by omega) hid0 hli (by have:=h4 (by omega);omega) h3 (ref0 (by simp only;omega) rfl) (fun e=>by omega) (fun _=>hu)) rfl (by simp only;omega) (by simp only;omega)
 refine ⟨fun hk=>?_,fun hk=>?_⟩
 ·have hkk:d.kind=1∨d.kind=2∨d.kind=4∨d.kind=3:=by omega
  rcases hkk with e | e | e | e
  ·have:=opens 7 (.inl e) (by simp [z2t,e]) (.inl rfl)
   unfold z0d
   rw [if_pos e]
   exact this
  ·have:=opens 12 (.inr (.inl e)) (by simp [z2t,e]) (.inr (.inl rfl))
   unfold z0d
   rw [if_neg (by omega),if_pos e]
   exact this
  ·have:=opens 17 (.inr (.inr e)) (by simp [z2t,e]) (.inr (.inr rfl))
   unfold z0d
   rw [if_neg (by omega),if_neg (by omega),if_pos e]
   exact this
  ·unfold z0d
   rw [if_neg (by omega),if_neg (by omega),if_neg (by omega),if_pos e]
   have e3:takeB (isOf F.op) d=isOf F.op (12,d.id):=by simp [takeB,e]
   rw [e3] at ht
   obtain ⟨o,ho,hok,hoi⟩:=z4I ht
   obtain ⟨k1,k2,_⟩:=h.i.keys _ ho
   have hlk:=z5I h.i.nodup ho
   simp only at k1 k2
   have e7:lk (fin F.l).kinds (z2r F.op 12 d.id)=some 12:=by rw [h.r.ki,z45,hlk];simp [hok]
   have hdn:=h5 (by omega)
   exact h.put (e:=⟨14,now,z2r F.op 12 d.id,d.id,d.list,d.n,d.data⟩) (.plain h.ne (by unfold z0V;dsimp only;omega) (by dsimp only;omega) h3)
    (h.fit (by omega) (by omega) hid0 hli (by omega) h3 (by unfold RefP;dsimp only;rw [if_neg (by omega),if_neg (by omega),if_neg (by omega),if_neg (by omega),if_pos (by omega)];exact e7) (fun e=>by omega) (fun e=>by omega)) rfl (by simp) (by simp)
 ·unfold z0d
  rw [if_neg (by omega),if_neg (by omega),if_neg (by omega),if_neg (by omega)]
  refine h.close ?_ h3
  have hkk:d.kind=5∨d.kind=6∨d.kind=7∨d.kind=8:=by omega
  rcases hkk with e | e | e | e<;>simp [z2X,e]
theorem zbq {now:Int}:∀ (l:List Dec) (m:Nat) (F:FS) (os:List Out),Kx m now F→m+l.length≤90000→badL F.id F.asked (isOf F.op) l=false→F.task=0 →
  Ck (z0n now (F,os) l).1∧(z0B (z0n now (F,os) l).1.l=1→Kx (m+l.length) now (z0n now (F,os) l).1∧(z0n now (F,os) l).1.task=0)
 | [],m,F,os,h,_,_,ht=>⟨h.ck,fun _=>⟨h,ht⟩⟩
 | d::r,m,F,os,h,hlm,hb,ht0=>by
  simp only [badL,z2j,Bool.or_eq_false_iff,Bool.and_eq_false_iff,Bool.not_eq_false',decide_eq_false_iff_not] at hb
  obtain ⟨⟨⟨⟨⟨hm,h5⟩,ht⟩,_⟩,_⟩,hb⟩:=hb
  simp only [List.length_cons] at hlm
  have hd:=h.done (by omega) hm ht
  obtain ⟨e1,e2,e3,e4⟩:=z3r F d now
  simp only [z0n]
  by_cases hk:d.kind<5
  ·have hh:=(z0L hm).1
   have hkk:d.kind=1∨d.kind=2∨d.kind=3∨d.kind=4:=by omega
   have hask:(z0d F d now).1.asked=F.asked∧(z0d F d now).1.task=F.task:=by
    rcases hkk with e | e | e | e<;>simp only [z0d,e]<;>exact ⟨rfl,rfl⟩
   have his:isOf (z0d F d now).1.op=z37 (isOf F.op) d:=funext fun p=>z8J h.i hk ht (z0L hm).1 p
   rw [← his,← hask.1,← e3] at hb
   have:=zbq r (m+1) (z0d F d now).1 (os++(z0d F d now).2) (hd.1 hk) (by omega) hb (hask.2.trans ht0)
   rw [show m+1+r.length=m+(d::r).length by simp only [List.length_cons];omega] at this
   exact this
  ·have:r=[]:=by
    rcases h5 with h5 | h5
    ·omega
    ·simpa using h5
   subst this
   refine ⟨hd.2 (by omega),fun hs=>?_⟩
   simp only [z0n] at hs
   exfalso
   have hh:=(z0L hm).2.1
   have hkk:d.kind=5∨d.kind=6∨d.kind=7∨d.kind=8:=by omega
   rcases hkk with e | e | e | e<;>simp [z0d,e,z0J,z2X,z4a,z0B,z1P] at hs
theorem zdr {ref turn now:Int} {l:List Dec}:z4X now (z1p ref turn l now):=fun F h=>by
 have hlen:=h.len
 unfold z1p
 split
 ·exact h.ck
 rename_i hm
 have ht:F.task=2:=Decidable.byContradiction fun e=>hm (.inl e)
 split
 ·exact z9J h ht (by omega)
 rename_i hbad
 split
 ·exact z9J h ht (by omega)
 have hb:badL F.id F.asked (isOf F.op) l=false∧l.length≤32:=by
  unfold badF at hbad
  simp only [Bool.or_eq_true,decide_eq_true_eq,not_or,Bool.not_eq_true] at hbad
  exact ⟨hbad.2,by omega⟩
 obtain ⟨t1,t2,t3⟩:=h.r.t2 ht
 have htn:=h.r.tn
 have hnn:=h.r.n
 have h4:=h.put (e:=⟨4,now,F.begun,0,0,0,[]⟩) (.plain h.ne (by unfold z0V;dsimp only;omega) (by dsimp only;omega) (by simp))
  (h.fit (by omega) (by omega) (by omega) (by omega) (by omega) (by simp) (by unfold RefP;dsimp only;rw [if_neg (by omega),if_pos (by omega)];exact ⟨by omega,t2,by omega⟩) (fun e=>by omega) (fun e=>by omega)) rfl (by simp) (by simp)
 have hd:=zbq l _ _ [] h4 (by omega) (by
  have e:badL (putF F ⟨4,now,F.begun,0,0,0,[]⟩).id (putF F ⟨4,now,F.begun,0,0,0,[]⟩).asked (isOf (putF F ⟨4,now,F.begun,0,0,0,[]⟩).op) l=badL F.id F.asked (isOf F.op) l:=by simp [putF]
  rw [e]
  exact hb.1) (by simp [putF])
 split
 ·rename_i hs
  obtain ⟨k,kt⟩:=hd.2 hs.2
  exact (k.schedule (by omega) kt).ck
 ·exact hd.1
theorem zhq {data:List UInt8} {now:Int} {F:FS} (hF:FOk F) (h:Ck F) (hr:z1L F data now=true) (hs:z0B F.l=1):Kx 4096 now F:=by
 unfold z1L at hr
 simp only [Bool.and_eq_true,decide_eq_true_eq] at hr
 obtain ⟨⟨⟨_,h0⟩,h1⟩,h2⟩:=hr
 have hR:=h.2 hs
 refine ⟨hF.i,hF.ne,hF.len,h.1,hR,⟨h0,h1⟩,?_⟩
 rw [hR.at_]
 split
 ·exact h0
 ·rename_i e he
  rw [he] at h2
  simpa using h2
theorem z3I {data:List UInt8} {now:Int} {act:FS→FR} {F:FS} (hF:FOk F) (h:Ck F) (g:data.length≤4096→z4X now act):Ck (tryF F data now act).1:=by
 unfold tryF
 split
 ·exact h
 split
 ·exact h
 rename_i hr hs
 have hr:z1L F data now=true:=by simpa using hr
 have hs:z0B F.l=1:=Decidable.byContradiction hs
 have hd:data.length≤4096:=by
  unfold z1L at hr
  simp only [Bool.and_eq_true,decide_eq_true_eq] at hr
  exact hr.1.1.1
 have:=g hd F (zhq hF h hr hs)
 repeat' split
 all_goals first | exact h | exact this
theorem zeQ {F:FS} (hF:FOk F) (h:Ck F) (d:Bool) (t:Task) (now:Int):Ck (z2s d t now F).1:=by
 unfold z2s z1z z3F
 cases d
 ·exact z3I hF h (fun _=>zfN)
 ·exact z3I hF h (fun _=>zbn)
theorem zg2 (sh:Int→Int) (E:ES) (c:Call) {F:FS} (hF:FOk F) (h:Ck F):Ck (askE sh E c F).1:=by
 unfold askE z3B z3q z1a z2p z2N
 split
 ·exact z3I hF h (fun hd=>zed hd)
 split
 ·exact z3I hF h (fun _=>zdm)
 split
 ·exact z3I hF h (fun hd=>z9e hd)
 split
 ·exact z3I hF h (fun _=>zdr)
 ·exact z3I hF h (fun hd=>zeo (by split<;>simp) hd)
theorem zeP {F:FS} (hF:FOk F) (h:Ck F) (kind ref turn now:Int):Ck (z1F F kind ref turn now).1:=by
 unfold z1F
 split
 ·exact z3I hF h (fun _=>zdU)
 split
 ·exact z3I hF h (fun _=>zdQ)
 split
 ·exact z3I hF h (fun _=>zf0)
 ·exact h
theorem z7A {F:FS} (hF:FOk F) (h:Ck F) (id status:Int) (data:List UInt8) (now:Int):Ck (z0h F id status data now).1:=by
 unfold z0h
 split
 ·exact h
 ·exact z3I hF h (fun hd=>z8B hd)
theorem zg3 {id run list n now:Int} {data:List UInt8} {F:FS} {os:List Out} (h:newF id run list n data now=some (F,os)):Ck F:=by
 unfold newF at h
 split at h
 ·rename_i hc
  injection h with h
  have e1:F=(z07 (putF (f0 id run) ⟨1,now,0,0,list,n,data⟩) now).1:=by rw [h]
  rw [e1]
  simp only [Bool.and_eq_true,numB,z2o,z1L,decide_eq_true_eq] at hc
  obtain ⟨⟨⟨⟨_,_⟩,hl⟩,hn⟩,⟨⟨hd,h0⟩,h1⟩,_⟩:=hc
  have hi0:FI (f0 id run):=⟨fun x hx=>(by cases hx),List.Pairwise.nil,fun x hx=>(by cases hx),fun x hx=>(by cases hx),by simp [f0],fun x hx=>(by cases hx),fun e=>absurd rfl e,by simp [f0],fun x hx=>(by cases hx)⟩
  have hr0:Rl (f0 id run) h00:=⟨rfl,rfl,rfl,fun _=>rfl,fun e=>by simp [f0] at e,fun e=>by simp [f0] at e,by simp [h00],rfl,rfl,fun x hx=>(by cases hx),fun _=>rfl,fun j k=>by simp [h00,f0,lk],List.Pairwise.nil,List.Pairwise.nil,by simp [f0]⟩
  have hp:z3p (f0 id run) ⟨1,now,0,0,list,n,data⟩:=⟨by simp only;omega,hd,fun _=>rfl,fun _=>hn.1,fun e=>by simp at e,fun e=>by simp at e,fun e=>by simp at e,fun e=>by simp at e⟩
  have hf:FitP h00 ⟨1,now,0,0,list,n,data⟩:=⟨by simp,⟨h0,h1⟩,by simp,by simp,⟨hl.1,by simp only;omega⟩,⟨by simp only;omega,by simp only;omega⟩,hd,h0,by simp [h00],rfl,ref0 (.inl rfl) rfl,fun e=>by simp at e,fun e=>by simp at e⟩
  have hl1:(putF (f0 id run) ⟨1,now,0,0,list,n,data⟩).l=[⟨1,now,0,0,list,n,data⟩]:=by rw [z4a];rfl
  have hk:Kx 1 now (putF (f0 id run) ⟨1,now,0,0,list,n,data⟩):=⟨hi0.put hp,z1W _ _,by rw [hl1];simp,by rw [hl1];exact ⟨hf,trivial⟩,by rw [hl1];exact hr0.put hi0 hp hf (by simp) (fun _=>hl.2),⟨h0,h1⟩,by rw [hl1];simp [fin,addH]⟩
  exact (hk.schedule (by omega) (by simp [putF,f0])).ck
 ·cases h
def Gk (E E':ES):Prop:=EOk E→(∀ x∈E.runs,Ck x.2.f)→∀ x∈E'.runs,Ck x.2.f
theorem Gk.refl (E:ES):Gk E E:=fun _ h=>h
theorem Gk.same {E E':ES} (h:E'.runs=E.runs):Gk E E':=fun _ j=>h▸j
theorem Gk.trans {E E' E'':ES} (h:Gk E E') (k:Gk E' E'') (ok:EOk E→EOk E'):Gk E E'':=fun e j=>k (ok e) (h e j)
theorem zep {E:ES} {id:Int} {r':RunS} (hj:EOk E→(∀ x∈E.runs,Ck x.2.f)→Ck r'.f):Gk E { E with runs:=up E.runs id r' }:=fun e j x hx=>by
 rcases z1K hx with rfl | hx
 ·exact hj e j
 ·exact j x hx
theorem z6U {E E':ES} {id list n pf pr now k:Int} {data:List UInt8} (h:z0U E id list n data pf pr now=some (E',k)):Gk E E':=by
 unfold z0U at h
 simp only at h
 split at h
 ·cases h
 ·rename_i f os hn
  obtain ⟨E1,h1,h2⟩:=Option.map_eq_some_iff.1 h
  injection h2 with h2 _
  subst h2
  have a:Gk E { E with runs:=up E.runs id ⟨f,pf,pr⟩ }:=zep (fun _ _=>zg3 hn)
  exact a.trans (.same (z3v h1).2) (z1Y (r:=⟨f,pf,pr⟩) (fun _=>⟨(FOk.new hn).1,(FOk.new hn).2.1⟩)).ok
theorem zc3 {E:ES} {id:Int} {r:RunS} {f:FS} (hr:lk E.runs id=some r) (hj:FOk r.f→Ck r.f→Ck f):Gk E { E with runs:=up E.runs id { r with f:=f } } :=
 zep (fun e j=>hj (e.get hr).1 (j _ (z0K hr)))
theorem zc2 {E E':ES} {id now child status:Int} {data:List UInt8} (h:z3j E id now child status data=some E'):Gk E E':=by
 unfold z3j at h
 split at h
 ·injection h with h;subst h;exact Gk.refl _
 ·rename_i r hr
  simp only at h
  have g:=z2y child status data now
  split at h
  ·have a:=zc3 (f:=(z0h r.f child status data now).1) hr (fun i j=>z7A i j _ _ _ _)
   exact a.trans (.same (z3v h).2) (z1Y (r:={ r with f:=(z0h r.f child status data now).1 }) (fun e=>⟨(g.ok _ (e.get hr).1).1,(g.ok _ (e.get hr).1).2.1.trans (e.get hr).2⟩)).ok
  split at h
  ·cases h
  ·injection h with h;subst h;exact Gk.refl _
theorem zgm {E E':ES} {id n now:Int} {o:Out} (h:outE E id n now o=some E'):Gk E E':=by
 unfold outE at h
 split at h
 ·exact .same (z5N h).2
 split at h
 ·unfold z2P at h
  split at h
  ·exact zc2 h
  ·obtain ⟨⟨E1,k⟩,h1,rfl⟩:=Option.map_eq_some_iff.1 h
   exact z6U h1
 have d:Gk E { E with due:=z20 E.due id n }:=.same rfl
 have dn:Nx 0 E { E with due:=z20 E.due id n }:=z3D (fun e=>z3K e _ _) (Nat.le_trans (z2Y _ _ _) (by omega))
 simp only at h
 split at h
 ·cases h
 ·rename_i r hr
  split at h
  ·split at h
   ·cases h
   ·obtain ⟨⟨E1,k⟩,h1,rfl⟩:=Option.map_eq_some_iff.1 h
    exact d.trans (z6U h1) dn.ok
  ·split at h
   ·injection h with h;subst h;exact d
   ·split at h
    ·injection h with h;subst h;exact d
    ·exact d.trans (zc2 h) dn.ok
theorem z8Q {id n now:Int}:∀ {l:List Out} {E E':ES},z2F E id n now l=some E'→Gk E E'
 | [],E,E',h=>by injection h with h;subst h;exact Gk.refl _
 | o::r,E,E',h=>by
  obtain ⟨E1,h1,h2⟩:=Option.bind_eq_some_iff.1 h
  exact (zgm h1).trans (z8Q h2) (z9W h1).ok
theorem z7X {E E':ES} {id e:Int} {act:FS→FR} (g:z3H act) (hj:∀ F,FOk F→Ck F→Ck (act F).1) (h:z0k E id act=(e,some E')):Gk E E':=by
 unfold z0k at h
 split at h
 ·cases h
 ·rename_i r hr
  simp only at h
  split at h
  ·cases h
  ·injection h with _ h
   have a:=zc3 (f:=(act r.f).1) hr (hj _)
   exact a.trans (z8Q h) (z1Y (r:={ r with f:=(act r.f).1 }) (fun e=>⟨(g.ok _ (e.get hr).1).1,(g.ok _ (e.get hr).1).2.1.trans (e.get hr).2⟩)).ok
theorem zfd {E E':ES} {d:Bool} {t:Task} {a:Ans} (h:z2b E d t=some (a,E')):Gk E E':=by
 unfold z2b at h
 split at h
 ·cases h
 ·split at h
  ·rename_i e E1 hc
   split at h
   ·injection h with h
    injection h with _ h
    subst h
    exact z7X (z4t _ _ _) (fun _ a b=>zeQ a b _ _ _) hc
   ·cases h
  ·cases h
theorem z9M {d:Bool} {list:Int}:∀ (l:List Task) (E:ES),Gk E (z1v d list E l).2
 | [],E=>Gk.refl _
 | t::r,E=>by
  unfold z1v
  split
  ·split
   ·exact Gk.refl _
   ·rename_i a E' h
    exact (zfd h).trans (.same (z3c _ _ _)) (z5M h).ok
  ·exact Gk.trans (.same (z3c _ _ _)) (z9M r _) z4U.ok
theorem zhm {sh:Int→Int} {E E':ES} {c:Call} {a:Ans} (h:doE sh E c=(a,some E')):Gk E E':=by
 unfold doE at h
 split at h
 ·unfold z2n at h
  split at h
  ·injection h with _ h;injection h with h;subst h;exact Gk.refl _
  ·split at h
   ·cases h
   ·rename_i E1 n hb
    injection h with _ h;injection h with h;subst h
    exact z6U hb
 split at h
 ·injection h with _ h;injection h with h;subst h;exact z9M _ _
 split at h
 ·injection h with _ h;injection h with h;subst h;exact Gk.refl _
 split at h
 ·injection h with _ h;injection h with h;subst h;exact Gk.refl _
 split at h
 ·injection h with _ h;injection h with h;subst h;exact Gk.refl _
 split at h
 ·injection h with _ h;injection h with h;subst h;exact Gk.refl _
 ·injection h with h1 h2
  exact z7X (e:=(z0k E (z16 c) (askE sh E c)).1) (z3Y sh E c) (fun _ i j=>zg2 sh E c i j) (Prod.ext rfl h2)
theorem zfb (sh:Int→Int) (E:ES) (c:Call):Gk E (z13 sh E c).2:=by
 unfold z13
 split
 ·exact Gk.refl _
 ·split
  ·rename_i a E' h;exact zhm h
  ·exact Gk.refl _
theorem zfc {E E':ES} {i:It} (h:z1M E i=some E'):Gk E E':=by
 unfold z1M at h
 split at h
 ·injection h with h;subst h;exact Gk.refl _
 ·rename_i r hr
  split at h
  ·injection h with h;subst h;exact Gk.refl _
  ·simp only at h
   have g:=z4s i.2.2.2.2.2 i.2.2.2.1 i.2.2.2.2.1 i.1
   split at h
   ·have a:=zc3 (f:=(z1F r.f i.2.2.2.2.2 i.2.2.2.1 i.2.2.2.2.1 i.1).1) hr (fun i j=>zeP i j _ _ _ _)
    exact a.trans (z8Q h) (z1Y (r:={ r with f:=(z1F r.f i.2.2.2.2.2 i.2.2.2.1 i.2.2.2.2.1 i.1).1 }) (fun e=>⟨(g.ok _ (e.get hr).1).1,(g.ok _ (e.get hr).1).2.1.trans (e.get hr).2⟩)).ok
   split at h
   ·cases h
   ·injection h with h;subst h;exact Gk.refl _
theorem z8R (end_:Int):∀ (n:Nat) (E:ES),Gk E (z1t end_ n E)
 | 0,E=>Gk.refl _
 | n+1,E=>by
  unfold z1t
  split
  ·exact Gk.refl _
  ·rename_i i r hd
   split
   ·exact Gk.refl _
   ·have a:Nx 0 E { E with due:=r }:=z3D (fun e=>by rw [hd] at e;exact (List.pairwise_cons.1 e).2) (by rw [hd];simp only [List.length_cons];omega)
    have ga:Gk E { E with due:=r }:=.same rfl
    split
    ·rename_i E1 h
     exact (ga.trans (zfc h) a.ok).trans (z8R end_ n E1) (fun e=>(z4J h).1.ok (a.ok e))
    ·have b:Nx 0 E { E with due:=addD r (end_+1,i.2) }:=z3D (fun e=>by rw [hd] at e;exact z4l (List.pairwise_cons.1 e).2 _) (by have:=z4k r (end_+1,i.2);rw [hd];simp only [List.length_cons];omega)
     have gb:Gk E { E with due:=addD r (end_+1,i.2) }:=.same rfl
     exact gb.trans (z8R end_ n _) b.ok
def EC (E:ES):Prop:=∀ x∈E.runs,Ck x.2.f
theorem zgf:EC (e0 0 1):=fun x hx=>(by cases hx)
theorem z6O (sh:Int→Int) {E:ES} (h:EOk E) (hc:EC E) (c:Call):EC (z13 sh E c).2:=zfb sh E c h hc
end Go.Proofs.YtniknicnnaiilaaGreat
end
section
namespace Go.Proofs.YtniknicnnaiilaaGreat
set_option maxRecDepth 100000
open Go.RowKit Go.Ext Go.BigFrame Go.Maps Go.MapKept
attribute [local go_sem] Ext.cell Ext.frozen Ext.lt Ext.le s1 s2 s3 s4 s5 s6 t1 t2 t3 t4 t5 t6
attribute [local go_sem ↓] Go.wp_at_zero Go.wp_at_succ
abbrev laF (n:Int) (L:List Ev) (task place begun turn:Int) (op:List (Int × Opn)):FS:=⟨9,1,1,n,L,task,place,begun,turn,false,false,op⟩
abbrev sE (s i:Int):Ev:=⟨2,s,0,0,1,i,[]⟩
def LS (n now s i k:Int) (L:List Ev):ES:=⟨0,1,now,[(9,⟨laF n (L++[sE s i]) 1 (k+1) 0 i [],0,0⟩)],[(1,[⟨9,1,k+1,i⟩])],[],[]⟩
def LB (n now s i k:Int) (L:List Ev):ES:=⟨0,1,now,[(9,⟨laF n (L++[sE s i,⟨3,now,k+1,0,0,0,[]⟩]) 2 (k+1) (k+2) i [],0,0⟩)],[],[],[(now+n,9,1,k+1,i,3)]⟩
def LC (n now s i k:Int) (L:List Ev):ES:=⟨0,1,now,[(9,⟨laF n (L++[sE s i,⟨3,now,k+1,0,0,0,[]⟩,⟨4,now,k+2,0,0,0,[]⟩,⟨7,now,0,1,4,n,[]⟩]) 0 (k+1) (k+2) 0 [(k+4,⟨7,1,0⟩)],0,0⟩)],[],[(4,[⟨9,1,k+4,-1⟩])],[(now+n,9,1,k+1,i,3)]⟩
def LD (n now s i k:Int) (L:List Ev):ES:=⟨0,1,now,[(9,⟨laF n (L++[sE s i,⟨3,now,k+1,0,0,0,[]⟩,⟨4,now,k+2,0,0,0,[]⟩,⟨7,now,0,1,4,n,[]⟩,⟨8,now,k+4,1,0,0,[]⟩]) 0 (k+1) (k+2) 0 [(k+4,⟨7,1,k+5⟩)],0,0⟩)],[],[],[(now+n,9,1,k+1,i,3),(now+n,9,1,k+4,0,4)]⟩
def LL (n now s i k:Int) (L:List Ev):List Ev:=L++[sE s i,⟨3,now,k+1,0,0,0,[]⟩,⟨4,now,k+2,0,0,0,[]⟩,⟨7,now,0,1,4,n,[]⟩,⟨8,now,k+4,1,0,0,[]⟩,⟨11,now+n,k+5,1,0,0,[]⟩,sE (now+n) 0]
def LE (n now s i k late:Int) (L:List Ev):ES:=⟨0,1,now+(n+late),[(9,⟨laF n (LL n now s i k L) 1 (k+7) 0 0 [],0,0⟩)],[(1,[⟨9,1,k+7,0⟩])],[],[]⟩
attribute [local simp] z13 z1Q z2l z3f sh0 doE z2n z0U newF z1L z07 putF z3h out0 z38 rowOf lk up rm popE z3A z2L popR setR z3G z1v z1y z2b z0k z2s z2Z z1z tryF z0Q z1n z2F outE z2P z3g z3j z0h z0x z2r ok z0T z0B z1P ans0 z0b tok0 e0 f0 numB z2o z18 z19 hasN z1J z17 hasL z16 z1Z askE z2p z1p badF badL z2j mayF takeB z37 isOf z2t zaO z0n z0d z0J z2X atF z1a z1m z15 z6R z0y z1M z1F z29 z1r z1x z2q z3F z2H z2N Int.add_assoc
section
variable {n now s i k late:Int} {L:List Ev}
theorem lp_1 (hn:1≤n∧n≤50):z0z (e0 0 1) ⟨1,9,1,n,tok0,[],[]⟩=({ ans0 with run:=1 },LS n 0 0 0 1 [⟨1,0,0,0,1,n,[]⟩]):=by
 have h2:n≤1048576:=by omega
 have h0:0≤n:=by omega
 simp [LS,hn,h2,h0]
theorem ladd (t k i:Int):addD [(t,9,1,k+1,i,3)] (t,9,1,k+4,0,4)=[(t,9,1,k+1,i,3),(t,9,1,k+4,0,4)]:=by
 have hc:cmpI ((t,9,1,k+1,i,3):It) (t,9,1,k+4,0,4)=-1:=by
  simp only [cmpI,il,cmpL]
  rw [if_neg (by omega),if_neg (by omega),if_neg (by omega),if_neg (by omega),if_neg (by omega),if_neg (by omega),if_pos (by omega)]
 have hp:pos [((t,9,1,k+1,i,3):It)] (t,9,1,k+4,0,4)=1:=by simp [pos,hc]
 have hh:has [((t,9,1,k+1,i,3):It)] (t,9,1,k+4,0,4)=false:=by
  unfold has
  rw [hp]
  simp
 unfold addD ins
 rw [hh,hp]
 rfl
theorem zdg (x:It):addD [] x=[x]:=rfl
theorem lp_2 (hs:s≤now) (h0:0≤now∧now≤3000) (hi:0≤i∧i≤100) (hk:(L.length:Int)=k) (hL:L.length≤1000):z0z (LS n now s i k L) ⟨7,0,1,0,tok0,[],[]⟩=({ ans0 with given:=true,tok:=⟨9,1,k+1,i⟩ },LB n now s i k L):=by
 have h2:now≤1099511627776:=by omega
 have h3:¬ 4096<L.length+2:=by omega
 have h4:¬ i=-1:=by omega
 have h5:max i 0=i:=by omega
 have h6:¬ i<0:=by omega
 simp [LS,LB,hs,h0,h2,hk,h3,h4,h5,h6,zdg]
theorem lp_3:z0z (LB n now s i k L) ⟨7,0,1,0,tok0,[],[]⟩=(ans0,LB n now s i k L):=by
 simp [LB]
theorem lp_4 (hn:1≤n∧n≤50) (hlate:0≤late∧late≤50) (h0:0≤now∧now≤3000) (hk:(L.length:Int)=k) (hL:L.length≤1000) :
  z0S (LB n now s i k L) (n+late)=(0,LS n (now+(n+late)) (now+n) (i+1) (k+3) (L++[sE s i,⟨3,now,k+1,0,0,0,[]⟩,⟨5,now+n,k+2,0,0,0,[]⟩])):=by
 unfold z0S
 have e1:(LB n now s i k L).now=now:=rfl
 rw [if_neg (by omega),if_neg (by rw [e1];omega),e1,show (LB n now s i k L).due.length=0+1 from rfl,z3i (i:=(now+n,9,1,k+1,i,3)) (r:=[]) rfl (by simp only;omega)]
 have h1:now≤now+n:=by omega
 have h2:now+n≤1099511627776:=by omega
 have h3:¬ 4096<L.length+4:=by omega
 have h4:0≤now+n:=by omega
 have hf:z1M { LB n now s i k L with due:=[] } (now+n,9,1,k+1,i,3)=some { LS n (now+(n+late)) (now+n) (i+1) (k+3) (L++[sE s i,⟨3,now,k+1,0,0,0,[]⟩,⟨5,now+n,k+2,0,0,0,[]⟩]) with now:=now }:=by
  simp [LS,LB,h1,h2,h3,h4,hk]
 rw [hf]
 rfl
theorem lp_5 {p q:Int} (hs:s≤now) (h0:0≤now∧now≤3000) (hp:0≤p∧p≤1048576) (hq:0≤q∧q≤1048576):z0z (LS n now s i k L) ⟨8,0,0,0,⟨9,1,p,q⟩,[],[]⟩=(z0b 21,LS n now s i k L):=by
 have h2:now≤1099511627776:=by omega
 simp [LS,hs,h0,h2,hp,hq]
theorem lp_6 (hn:1≤n∧n≤50) (h0:0≤now∧now≤3000) (hi:0≤i∧i≤100) (hk:(L.length:Int)=k) (hL:L.length≤1000) :
  z0z (LB n now s i k L) ⟨8,0,0,0,⟨9,1,k+1,i⟩,[],[⟨1,1,4,n,[]⟩]⟩=(ans0,LC n now s i k L):=by
 have h2:now≤1099511627776:=by omega
 have h3:¬ 4096<L.length+4:=by omega
 have h4:n≤1048576:=by omega
 have h5:k+1≤1048576:=by omega
 have h6:0≤k+1:=by omega
 have h7:i≤1048576:=by omega
 simp [LB,LC,h0,h2,h3,h4,h5,h6,h7,hn,hi,hk]
theorem lp_7 (h0:0≤now∧now≤3000) (hk:(L.length:Int)=k) (hL:L.length≤1000) :
  ∃ a:Ans,a.given=true∧a.tok=⟨9,1,k+4,0⟩∧z0z (LC n now s i k L) ⟨9,0,4,0,tok0,[],[]⟩=(a,LD n now s i k L):=by
 have h1:now≤1099511627776:=by omega
 have h3:¬ 4096<L.length+5:=by omega
 have h4:∀ e4 e5 e6 e7:Ev,(L++[e4,e5,e6,e7])[(k+4).toNat-1]?=some e7:=fun e4 e5 e6 e7=>by
  rw [show (k+4).toNat-1=L.length+3 by omega,List.getElem?_append_right (by omega)]
  rw [show L.length+3-L.length=3 by omega]
  rfl
 have h5:=ladd (now+n) k i
 refine ⟨z2Z false ⟨9,1,k+4,-1⟩ (laF n (L++[sE s i,⟨3,now,k+1,0,0,0,[]⟩,⟨4,now,k+2,0,0,0,[]⟩,⟨7,now,0,1,4,n,[]⟩]) 0 (k+1) (k+2) 0 [(k+4,⟨7,1,0⟩)]),rfl,rfl,?_⟩
 simp [LC,LD,h0,h1,h3,h4,h5,hk]
theorem lp_8 (hn:1≤n∧n≤50) (hlate:0≤late∧late≤50) (h0:0≤now∧now≤3000) (hk:(L.length:Int)=k) (hL:L.length≤1000) :
  z0S (LD n now s i k L) (n+late)=(0,LE n now s i k late L):=by
 unfold z0S
 have e1:(LD n now s i k L).now=now:=rfl
 have h1:now≤now+n:=by omega
 have h2:now+n≤1099511627776:=by omega
 have h3:¬ 4096<L.length+7:=by omega
 have h4:0≤now+n:=by omega
 have h5:¬ k+5=0:=by omega
 have hf1:z1M { LD n now s i k L with due:=[(now+n,9,1,k+4,0,4)] } (now+n,9,1,k+1,i,3)=some { LD n now s i k L with due:=[(now+n,9,1,k+4,0,4)] }:=by
  simp [LD,h1,h2,h4]
 have hf2:z1M { LD n now s i k L with due:=[] } (now+n,9,1,k+4,0,4)=some { LE n now s i k late L with now:=now }:=by
  simp [LD,LE,LL,ofF,h1,h2,h3,h4,h5,hk]
 rw [if_neg (by omega),if_neg (by rw [e1];omega),e1,show (LD n now s i k L).due.length=1+1 from rfl,z3i (i:=(now+n,9,1,k+1,i,3)) (r:=[(now+n,9,1,k+4,0,4)]) rfl (by simp only;omega),hf1]
 simp only
 rw [show (1:Nat)=0+1 from rfl,z3i (i:=(now+n,9,1,k+4,0,4)) (r:=[]) rfl (by simp only;omega)]
 rw [show ({ ({ LD n now s i k L with due:=[(now+n,9,1,k+4,0,4)] }:ES) with due:=[] }:ES)={ LD n now s i k L with due:=[] } from rfl,hf2]
 rfl
theorem lp_9 (hlate:0≤late∧late≤50) (hn:1≤n∧n≤50) (h0:0≤now∧now≤3000) (hk:(L.length:Int)=k) (hL:L.length≤1000):z0z (LE n now s i k late L) ⟨10,0,0,0,⟨9,1,k+4,0⟩,[],[]⟩=(z0b 21,LE n now s i k late L):=by
 have h2:now+(n+late)≤1099511627776:=by omega
 have h3:0≤now+(n+late):=by omega
 have h4:now+n≤now+(n+late):=by omega
 have h5:k+4≤1048576:=by omega
 have h6:0≤k+4:=by omega
 simp [LE,LL,h2,h3,h4,h5,h6]
theorem zhr:z0z (LE n now s i k late L) ⟨6,9,0,0,tok0,[],[]⟩=({ ans0 with run:=1,events:=LL n now s i k L },LE n now s i k late L):=by
 simp [LE]
 rfl
theorem zhs (hlate:0≤late∧late≤50) (hn:1≤n∧n≤50) (h0:0≤now∧now≤3000) (hk:(L.length:Int)=k) (hL:L.length≤1000):(z0z (LE n now s i k late L) ⟨7,0,1,0,tok0,[],[]⟩).1.given=true:=by
 have h2:now+(n+late)≤1099511627776:=by omega
 have h3:0≤now+(n+late):=by omega
 have h4:now+n≤now+(n+late):=by omega
 have h5:¬ 4096<L.length+8:=by omega
 simp [LE,LL,h2,h3,h4,h5]
end
end Go.Proofs.YtniknicnnaiilaaGreat
end
section
namespace Go.Proofs.YtniknicnnaiilaaGreat
set_option maxRecDepth 100000
open Go.RowKit Go.Ext Go.BigFrame Go.Maps Go.MapKept
attribute [local go_sem] Ext.cell Ext.frozen Ext.lt Ext.le s1 s2 s3 s4 s5 s6 t1 t2 t3 t4 t5 t6
attribute [local go_sem ↓] Go.wp_at_zero Go.wp_at_succ
structure HR (w:World) (k mk mi mo mf:Nat) (H:HS):Prop where
 cell:w.heap[k]?=some (.cells #[.int .i64 H.n,.int .i64 H.at_,.int .i64 H.closed,.map (some mk),.map (some mi),.int .i64 H.task,.bool H.begun,.map (some mo),.map (some mf)] 145 (0,0))
 kk:MI w mk (mp (.int .i64) H.kinds)
 ii:MI w mi (mp (.int .i64) H.ids)
 oo:MI w mo (mp (.int .i64) H.wof)
 ff:MI w mf (mp (.int .i64) H.wfr)
 o1:mk<mi
 o2:mi<mo
 o3:mo<mf
 o4:mf<k
theorem z2k {W:World} {B:Nat} {t:TypeId} {a b c d e f g h i:Value} (hh:W.heap[B]?=some (.cells #[a,b,c,d,e,f,g,h,i] t (0,0))):W.cell? ⟨B,0,none⟩=some a∧W.cell? ⟨B,1,none⟩=some b∧W.cell? ⟨B,2,none⟩=some c∧W.cell? ⟨B,3,none⟩=some d∧W.cell? ⟨B,4,none⟩=some e∧W.cell? ⟨B,5,none⟩=some f∧W.cell? ⟨B,6,none⟩=some g∧W.cell? ⟨B,7,none⟩=some h∧W.cell? ⟨B,8,none⟩=some i:=by
 refine ⟨?_,?_,?_,?_,?_,?_,?_,?_,?_⟩<;>simp [World.cell?,hh]
section
variable {w w':World} {k mk mi mo mf:Nat} {H:HS}
theorem HR.gr (h:HR w k mk mi mo mf H) (g:Gr w w'):HR w' k mk mi mo mf H :=
 ⟨(g.block k (block_lt h.cell)).trans h.cell,h.kk.gr g,h.ii.gr g,h.oo.gr g,h.ff.gr g,h.o1,h.o2,h.o3,h.o4⟩
end
theorem z8d {w:World} {b:Nat} {l:List (Int × Int)} (h:MI w b (mp (.int .i64) l)) (x:Int) (c:Bool) :
  (Instr.lookup 65 (.map (some b)) (.int .i64 x) c).run Tryz.prog w=.ok (if c then .tuple #[.int .i64 (lz l x),.bool (lk l x).isSome] else .int .i64 (lz l x)) w:=by
 have:=h.lookup (P:=Tryz.prog) Tryz.underlying65 Tryz.underlying3 (z:=.int .i64 0) (by kernel_rfl) x c
 rw [this,z45]
 unfold lz
 cases lk l x<;>cases c<;>rfl
theorem z8z (x:Int) (h1:0≤x) (h2:x≤1099511627776) (w:World):Calls Tryz.prog 165 #[.int .i64 x] w (RetE (.bool true) w):=by
 refine retE ?_
 go_enter Tryz.func165,Tryz.ntmps165
 go_wp2_with fail
 go_ret
 exact ⟨rfl,Gr.refl w⟩
theorem z1C (x:Int) (w:World):Calls Tryz.prog 82 #[.int .i64 x] w (RetE (.bool (decide (19≤x∧x≤23))) w):=by
 refine retE ?_
 by_cases h1:19≤x
 ·by_cases h2:x≤23
  ·rw [decide_eq_true ⟨h1,h2⟩]
   go_enter Tryz.func82,Tryz.ntmps82
   go_wp2_with fail
   go_ret
   exact ⟨rfl,Gr.refl w⟩
  ·rw [decide_eq_false (fun h=>h2 h.2)]
   go_enter Tryz.func82,Tryz.ntmps82
   go_wp2_with fail
   go_ret
   exact ⟨rfl,Gr.refl w⟩
 ·rw [decide_eq_false (fun h=>h1 h.1)]
  go_enter Tryz.func82,Tryz.ntmps82
  go_wp2_with fail
  go_ret
  exact ⟨rfl,Gr.refl w⟩
set_option maxHeartbeats 1000000 in
theorem zaU (e:Ev) (A:Option Addr) (c:Nat) (H:HS) (w:World) (f:FitP H e):Calls Tryz.prog 124 #[evV e (.slice A e.data.length c)] w (RetE (.bool true) w):=by
 have HB:=hid (fun x h1 h2 W=>z8z x h1 h2 W)
 obtain ⟨⟨k1,k2⟩,⟨t1,t2⟩,⟨r1,r2⟩,⟨i1,i2⟩,⟨l1,l2⟩,⟨n1,n2⟩,hd,_⟩:=f
 rcases e with ⟨ek,et,er,ei,el,en,ed⟩
 simp only at k1 k2 t1 t2 r1 r2 i1 i2 l1 l2 n1 n2 hd
 simp only [evV]
 generalize ed.length=dl at *
 have hdz:(dl:Int)≤4096:=by omega
 refine retE ?_
 obtain ⟨w1,hw1⟩:∃ w1,w.alloc (.cells #[.int .i64 ek,.int .i64 et,.int .i64 er,.int .i64 ei,.int .i64 el,.int .i64 en,.slice A dl c] 41)=w1:=⟨_,rfl⟩
 have HB1:=hid (hw1▸heap_alloc_new w (.cells #[.int .i64 ek,.int .i64 et,.int .i64 er,.int .i64 ei,.int .i64 el,.int .i64 en,.slice A dl c] 41))
 have G1:=hid (hw1▸(Gr.refl w).alloc (.cells #[.int .i64 ek,.int .i64 et,.int .i64 er,.int .i64 ei,.int .i64 el,.int .i64 en,.slice A dl c] 41))
 have l1':=block_lt HB1.o
 have HW1:=hid hw1
 clear hw1
 go_enter Tryz.func124,Tryz.ntmps124
 go_upto_region 1 with fail
 rw [HW1.o]
 obtain ⟨c0,c1,c2,c3,c4,c5,c6⟩:=z0p HB1.o
 have GG:=hid (Gr.refl w1)
 go_wp2_with fail
 refine (HB.o _ t1 t2 _).mono ?_
 rintro en _ ⟨rfl,y,rfl⟩
 have g:=GG.o.trans y.gr
 obtain ⟨W,hW⟩:∃ W,y.val=W:=⟨_,rfl⟩
 rw [hW] at g ⊢
 clear hW y c0 c1 c2 c3 c4 c5 c6
 obtain ⟨c0,c1,c2,c3,c4,c5,c6⟩:=z0p ((g.block _ l1').trans HB1.o)
 have lW:=Nat.lt_of_lt_of_le l1' g.size
 replace GG:=hid g
 clear g
 go_wp2_with fail
 refine (HB.o _ r1 r2 _).mono ?_
 rintro en _ ⟨rfl,y,rfl⟩
 have g:=GG.o.trans y.gr
 obtain ⟨W,hW⟩:∃ W,y.val=W:=⟨_,rfl⟩
 rw [hW] at g ⊢
 clear hW y c0 c1 c2 c3 c4 c5 c6
 obtain ⟨c0,c1,c2,c3,c4,c5,c6⟩:=z0p ((g.block _ l1').trans HB1.o)
 have lW:=Nat.lt_of_lt_of_le l1' g.size
 replace GG:=hid g
 clear g
 go_wp2_with fail
 refine (HB.o _ i1 i2 _).mono ?_
 rintro en _ ⟨rfl,y,rfl⟩
 have g:=GG.o.trans y.gr
 obtain ⟨W,hW⟩:∃ W,y.val=W:=⟨_,rfl⟩
 rw [hW] at g ⊢
 clear hW y c0 c1 c2 c3 c4 c5 c6
 obtain ⟨c0,c1,c2,c3,c4,c5,c6⟩:=z0p ((g.block _ l1').trans HB1.o)
 have lW:=Nat.lt_of_lt_of_le l1' g.size
 replace GG:=hid g
 clear g
 go_wp2_with fail
 refine (HB.o _ l1 l2 _).mono ?_
 rintro en _ ⟨rfl,y,rfl⟩
 have g:=GG.o.trans y.gr
 obtain ⟨W,hW⟩:∃ W,y.val=W:=⟨_,rfl⟩
 rw [hW] at g ⊢
 clear hW y c0 c1 c2 c3 c4 c5 c6
 obtain ⟨c0,c1,c2,c3,c4,c5,c6⟩:=z0p ((g.block _ l1').trans HB1.o)
 have lW:=Nat.lt_of_lt_of_le l1' g.size
 replace GG:=hid g
 clear g
 go_wp2_with fail
 refine (HB.o _ n1 n2 _).mono ?_
 rintro en _ ⟨rfl,y,rfl⟩
 have g:=GG.o.trans y.gr
 obtain ⟨W,hW⟩:∃ W,y.val=W:=⟨_,rfl⟩
 rw [hW] at g ⊢
 clear hW y c0 c1 c2 c3 c4 c5 c6
 obtain ⟨c0,c1,c2,c3,c4,c5,c6⟩:=z0p ((g.block _ l1').trans HB1.o)
 have lW:=Nat.lt_of_lt_of_le l1' g.size
 replace GG:=hid g
 clear g
 go_wp2_with fail
 go_ret
 exact ⟨rfl,G1.o.trans GG.o⟩
end Go.Proofs.YtniknicnnaiilaaGreat
end
