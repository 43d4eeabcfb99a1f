/- Lemmas of the engine. -/
import Derived.ChangeKeysEq
import Derived.DeepKeys4
import Derived.Laws.StructEq
import Derived.Test.YtniknicnnaiilaaGreatX06
section
namespace Go.Proofs.YtniknicnnaiilaaGreat
set_option maxRecDepth 100000
open Go.RowKit Go.Ext Go.BigFrame Go.Maps Go.MapKept
attribute [local go_sem] Ext.cell Ext.frozen Ext.lt Ext.le s1 s2 s3 s4 s5 s6 t1 t2 t3 t4 t5 t6
attribute [local go_sem ↓] Go.wp_at_zero Go.wp_at_succ
def RetA (M:Bl) (k mb:Nat) (x:FR) (w:World) (e:Ending) (w':World):Prop :=
 ∃ A c,e=.returned (.tuple #[.slice A x.2.1.length c,.int .i64 x.2.2])∧z0H w' M k mb x.1∧z08 outR w' M (.slice A x.2.1.length c) x.2.1∧Mod (fun b=>b=k∨b=mb) w w'
def RetT (M:Bl) (k:Nat) (x:FR) (w:World) (e:Ending) (w':World):Prop :=
 ∃ A c,e=.returned (.tuple #[.slice A x.2.1.length c,.int .i64 x.2.2])∧z0O w' M k x.1∧z08 outR w' M (.slice A x.2.1.length c) x.2.1∧Mod (fun b=>b=k) w w'
theorem z9h {M:Bl} {k mb:Nat} (w:World):Up (plus M k mb) w M w:=⟨(Gr.refl w).mod _,fun _ _ h=>.inl h⟩
theorem z0H.lenr {w:World} {M:Bl} {k mb:Nat} {F:FS} (h:z0H w M k mb F):∃ A c,FC w k F (.slice A F.l.length c) mb:=by
 obtain ⟨A,c,_,hf,_⟩:=h.parts
 exact ⟨A,c,hf⟩
theorem z0H.copy {w w':World} {M:Bl} {k k' mb':Nat} {F:FS} {A:Option Addr} {c:Nat} (h:z0H w (plus M k' mb') k' mb' F) (hc:w.heap[k']?=some (.cells (z2C F (.slice A F.l.length c) mb') 157 (0,0))) (hM':∀ b,M b→b<mb')
  (hk:M k) (hm:Mod (fun b=>b=k) w w') (hh:w'.heap[k]?=some (.cells (z2C F (.slice A F.l.length c) mb') 157 (0,0))):z0O w' M k F:=by
 have hmb:¬ M mb':=fun e=>Nat.lt_irrefl _ (hM' _ e)
 obtain ⟨v,h1,h2⟩:=h.row
 rw [hc] at h1
 injection h1 with h1
 injection h1 with h1 _ _
 have hv:Value.slice A F.l.length c=v:=by
  have:=congrArg (fun a:Array Value=>a[4]?) h1
  simpa [z2C] using this
 subst hv
 refine ⟨mb',hmb,⟨⟨_,hh,?_⟩,h.map.keep (hm.block mb' h.lt.2 (fun e=>hmb (e▸hk)))⟩⟩
 exact (h2.up (z9h w)).up (Mod.up hm (fun b _ e=>e▸hk))
theorem zgW {w:World} {k:Nat} {u0 u1 u2 u3 u4 u5 u6 u7 u8 u9 u10 u11:Value} (h:w.heap[k]?=some (.cells #[u0,u1,u2,u3,u4,u5,u6,u7,u8,u9,u10,u11] 157 (0,0))) (v0 v1 v2 v3 v4 v5 v6 v7 v8 v9 v10 v11:Value) :
  ((((((((((((w.setCell ⟨k,0,none⟩ v0).setCell ⟨k,1,none⟩ v1).setCell ⟨k,2,none⟩ v2).setCell ⟨k,3,none⟩ v3).setCell ⟨k,4,none⟩ v4).setCell ⟨k,5,none⟩ v5).setCell ⟨k,6,none⟩ v6).setCell ⟨k,7,none⟩ v7).setCell ⟨k,8,none⟩ v8).setCell ⟨k,9,none⟩ v9).setCell ⟨k,10,none⟩ v10).setCell ⟨k,11,none⟩ v11).heap[k]?=some (.cells #[v0,v1,v2,v3,v4,v5,v6,v7,v8,v9,v10,v11] 157 (0,0)):=by
 have:=(z02 (j:=11) (z02 (j:=10) (z02 (j:=9) (z02 (j:=8) (z02 (j:=7) (z02 (j:=6) (z02 (j:=5) (z02 (j:=4) (z02 (j:=3) (z02 (j:=2) (z02 (j:=1) (z02 (j:=0) h v0) v1) v2) v3) v4) v5) v6) v7) v8) v9) v10) v11)
 simpa only [List.setIfInBounds_toArray,List.set_cons_zero,List.set_cons_succ] using this
theorem zgV {w:World} {k mb:Nat} {F:FS} {v:Value} (h:w.heap[k]?=some (.cells (z2C F v mb) 157 (0,0))) (v0 v1 v2 v3 v4 v5 v6 v7 v8 v9 v10 v11:Value) :
  ((((((((((((w.setCell ⟨k,0,none⟩ v0).setCell ⟨k,1,none⟩ v1).setCell ⟨k,2,none⟩ v2).setCell ⟨k,3,none⟩ v3).setCell ⟨k,4,none⟩ v4).setCell ⟨k,5,none⟩ v5).setCell ⟨k,6,none⟩ v6).setCell ⟨k,7,none⟩ v7).setCell ⟨k,8,none⟩ v8).setCell ⟨k,9,none⟩ v9).setCell ⟨k,10,none⟩ v10).setCell ⟨k,11,none⟩ v11).heap[k]?=some (.cells #[v0,v1,v2,v3,v4,v5,v6,v7,v8,v9,v10,v11] 157 (0,0))∧Mod (fun b=>b=k) w ((((((((((((w.setCell ⟨k,0,none⟩ v0).setCell ⟨k,1,none⟩ v1).setCell ⟨k,2,none⟩ v2).setCell ⟨k,3,none⟩ v3).setCell ⟨k,4,none⟩ v4).setCell ⟨k,5,none⟩ v5).setCell ⟨k,6,none⟩ v6).setCell ⟨k,7,none⟩ v7).setCell ⟨k,8,none⟩ v8).setCell ⟨k,9,none⟩ v9).setCell ⟨k,10,none⟩ v10).setCell ⟨k,11,none⟩ v11):=by
 refine ⟨zgW h v0 v1 v2 v3 v4 v5 v6 v7 v8 v9 v10 v11,?_⟩
 refine z0c ?_
 refine z0c ?_
 refine z0c ?_
 refine z0c ?_
 refine z0c ?_
 refine z0c ?_
 refine z0c ?_
 refine z0c ?_
 refine z0c ?_
 refine z0c ?_
 refine z0c ?_
 refine z0c ?_
 exact (Gr.refl w).mod _
theorem z1o {w w':World} {M:Bl} {k mb B t:Nat} {F:FS} {cs:Array Value} (h:z0H w M k mb F) (hB:w.heap[B]?=some (.cells cs t (0,0))) (ht:t≠157) (m:Mod (fun b=>b=k∨b=mb) w w'):w'.heap[B]?=some (.cells cs t (0,0)):=by
 refine (m.block B (block_lt hB) ?_).trans hB
 rintro (rfl | rfl)
 ·obtain ⟨v,h1,_⟩:=h.row
  rw [hB] at h1
  injection h1 with h1
  injection h1 with _ h1 _
  exact ht h1
 ·obtain ⟨es,c,h1,_⟩:=h.map
  rw [hB] at h1
  injection h1 with h1
  cases h1
theorem z1b {w:World} {B t:Nat} {v:Value} (h:w.heap[B]?=some (.cells #[v] t (0,0))):w.cell? ⟨B,0,none⟩=some v:=by simp [World.cell?,h]
theorem FW.put {w w':World} {M:Bl} {k mb:Nat} {F:FS} {e:Ev} (h:FW w M k mb F) (hr:z0H w' M k mb (putF F e)) (hm:Mod (fun b=>b=k∨b=mb) w w') (hp:z3p F e) (hl:F.l.length≤90000):FW w' M k mb (putF F e) :=
 ⟨hr,h.hk,h.hmb,h.ne,fun b e=>Nat.lt_of_lt_of_le (h.hM b e) hm.size,by rw [z0r];omega,h.i.put hp⟩
theorem FW.same {w w':World} {M:Bl} {k mb:Nat} {F F':FS} (h:FW w M k mb F) (hr:z0H w' M k mb F') (hm:Mod (fun b=>b=k∨b=mb) w w') (hi:FI F') (hl:F'.l.length≤100000):FW w' M k mb F' :=
 ⟨hr,h.hk,h.hmb,h.ne,fun b e=>Nat.lt_of_lt_of_le (h.hM b e) hm.size,hl,hi⟩
theorem fput (PUT:z0e) {k mb:Nat} {F:FS} {M:Bl} {w:World} (e:Ev) (d:Value) (h:FW w M k mb F) (hd:Bys w d e.data) (hp:z3p F e) (hl:F.l.length≤90000) (h1:1≤e.kind) (hw:e.kind=9∨e.kind=10∨e.kind=11→e.ref≠0) :
  Calls Tryz.prog 143 #[.pointer (some ⟨k,0,none⟩),evV e d] w (fun en w'=>en=.returned (.int .i64 (atF F))∧FW w' M k mb (putF F e)∧Mod (fun b=>b=k∨b=mb) w w') :=
 (PUT k mb F e d M w h.r h.hk h.hmb h.ne h.hM hd (by omega) h.i h1 hw).mono fun _ _ ⟨h1,h2,h3⟩=>⟨h1,h.put h2 h3 hp hl,h3⟩
theorem FOk.l9 {F:FS} (h:FOk F):F.l.length≤90000:=by have:=h.len;omega
theorem okP {F:FS} (h:FOk F) {e:Ev} (hk:z0V e.kind) (hn:0≤e.n∧e.n≤1048576) (hd:e.data.length≤4096):z3p F e:=.plain h.ne hk hn hd
set_option maxHeartbeats 1000000 in
theorem zbi (PUT:z0e) (k mb B1 B2:Nat) (F:FS) (now:Int) (d:Value) (data:List UInt8) (M:Bl) (w:World) (h:FW w M k mb F) (hF:FOk F) (h1:w.heap[B1]?=some (.cells #[.int .i64 now] 3 (0,0))) (h2:w.heap[B2]?=some (.cells #[d] 22 (0,0))) (hd:Bys w d data) (hdl:data.length≤4096) :
    Calls Tryz.prog 142 #[.pointer (some ⟨k,0,none⟩),.pointer (some ⟨B1,0,none⟩),.pointer (some ⟨B2,0,none⟩)] w (RetA M k mb (z4O data now F) w):=by
  have q1:=z1b h1
  have q2:=z1b h2
  have H1:=hid h1
  have HR:=hid h.r
  obtain ⟨Ad,cd,rfl,_,_,_⟩:=id hd
  have HP:=hid (show Calls Tryz.prog 143 #[.pointer (some ⟨k,0,none⟩),.agg #[.int .i64 15,.int .i64 now,.int .i64 0,.int .i64 0,.int .i64 0,.int .i64 0,.slice Ad data.length cd]] w _ from
    fput PUT ⟨15,now,0,0,0,0,data⟩ (.slice Ad data.length cd) h hd (okP hF (by unfold z0V;dsimp only;omega) (by dsimp only;omega) hdl) hF.l9 (by dsimp only;omega) (by dsimp only;omega))
  clear h h1 h2 hd
  unfold z4O
  go_enter Tryz.func142,Tryz.ntmps142
  go_wp2_with (first
    | (go_at_call 143
       refine HP.o.mono ?_
       rintro en w2 ⟨rfl,hw2,hm2⟩
       have p1:=z1b (z1o HR.o H1.o (by decide) hm2)
       have HM2:=hid hm2
       have HW:=hid (z4B PUT k mb _ now M w2 hw2)
       clear hm2 hw2)
    | (go_at_call 144
       refine HW.o.mono ?_
       rintro en w3 ⟨A3,c3,rfl,hr3,ho3,hm3⟩))
  go_ret2
  exact ⟨A3,c3,rfl,hr3,ho3,HM2.o.trans hm3 (fun _ _ e=>e)⟩
set_option maxHeartbeats 1000000 in
theorem zbe (PUT:z0e) (k mb B1:Nat) (F:FS) (now:Int) (M:Bl) (w:World) (h:FW w M k mb F) (hF:FOk F) (h1:w.heap[B1]?=some (.cells #[.int .i64 now] 3 (0,0))) :
    Calls Tryz.prog 145 #[.pointer (some ⟨k,0,none⟩),.pointer (some ⟨B1,0,none⟩)] w (RetA M k mb (z21 now F) w):=by
  have q1:=z1b h1
  have H1:=hid h1
  have H:=hid h
  have HR:=hid h.r
  obtain ⟨A,c,hc,⟨c0,c1,c2,c3,c4,c5,c6,c7,c8,c9,c10,c11⟩,hr,hk⟩:=h.r.parts
  have HP:=hid (show Calls Tryz.prog 143 #[.pointer (some ⟨k,0,none⟩),.agg #[.int .i64 16,.int .i64 now,.int .i64 0,.int .i64 0,.int .i64 0,.int .i64 0,.slice none 0 0]] w _ from
    fput PUT ⟨16,now,0,0,0,0,[]⟩ (.slice none 0 0) h (BysM.none w M).bys (okP hF (by unfold z0V;dsimp only;omega) (by dsimp only;omega) (by simp)) hF.l9 (by dsimp only;omega) (by dsimp only;omega))
  clear h h1 hr hc
  unfold z21
  cases hask:F.asked
  · rw [hask] at c10
    simp only [Bool.false_eq_true,if_false]
    go_enter Tryz.func145,Tryz.ntmps145
    go_wp2_with (first
      | (go_at_call 143
         refine HP.o.mono ?_
         rintro en w2 ⟨rfl,hw2,hm2⟩
         have p1:=z1b (z1o HR.o H1.o (by decide) hm2)
         have HM2:=hid hm2
         have HW:=hid (z4B PUT k mb _ now M w2 hw2)
         clear hm2 hw2)
      | (go_at_call 144
         refine HW.o.mono ?_
         rintro en w3 ⟨A3,c3,rfl,hr3,ho3,hm3⟩))
    go_ret2
    exact ⟨A3,c3,rfl,hr3,ho3,HM2.o.trans hm3 (fun _ _ e=>e)⟩
  · rw [hask] at c10
    simp only [if_true]
    go_enter Tryz.func145,Tryz.ntmps145
    go_wp2_with fail
    go_ret2
    exact ⟨none,0,rfl,H.o.r,z08.none _ _ _,(Gr.refl w).mod _⟩
theorem z7C (PUT:z0e) (k mb B1 B2:Nat) (F:FS) (now:Int) (d:Value) (data:List UInt8) (M:Bl) (w:World) (h:FW w M k mb F) (h1:w.heap[B1]?=some (.cells #[d] 22 (0,0))) (h2:w.heap[B2]?=some (.cells #[.int .i64 now] 3 (0,0))) (hd:BysM w M d data) :
  Calls Tryz.prog 146 #[.pointer (some ⟨k,0,none⟩),.pointer (some ⟨B1,0,none⟩),.pointer (some ⟨B2,0,none⟩)] w (RetA M k mb (z1m data now F) w):=by
 have q1:=z1b h1
 have q2:=z1b h2
 obtain ⟨Ad,cd,rfl⟩:=hd.shape
 have HC:=hid (z3J PUT k mb F 23 now _ data M w h (by decide) hd)
 clear h h1 h2 hd
 unfold z1m
 go_enter Tryz.func146,Tryz.ntmps146
 go_wp2_with (go_at_call 147;refine HC.o.mono ?_;rintro en w3 ⟨A3,c3,rfl,hr3,ho3,hm3⟩)
 go_ret2
 exact ⟨A3,c3,rfl,hr3,ho3,hm3⟩
set_option maxHeartbeats 1000000 in
theorem z7N (PUT:z0e) (k mb:Nat) (F:FS) (kind ref now:Int) (d:Value) (data:List UInt8) (M:Bl) (w:World) (h:FW w M k mb F) (hF:FOk F) (hkind:kind=9∨kind=10∨kind=11) (hd:Bys w d data) (hdl:data.length≤4096) :
    Calls Tryz.prog 155 #[.pointer (some ⟨k,0,none⟩),.int .i64 kind,.int .i64 ref,d,.int .i64 now] w (RetA M k mb (z2q kind ref data now F) w):=by
  have H:=hid h
  obtain ⟨A,c,hc,⟨c0,c1,c2,c3,c4,c5,c6,c7,c8,c9,c10,c11⟩,hr,hk⟩:=h.r.parts
  have hlk:=z4f h.r.map ref
  have HD:=hid hd
  obtain ⟨Ad,cd,rfl,_,_,_⟩:=hd
  unfold z2q
  clear h hr hc
  have stale:∀ W,Gr w W→RetA M k mb (F,[],21) w (.returned (.tuple #[.slice none 0 0,.int .i64 21])) W:=fun W g=>⟨none,0,rfl,H.o.r.gr g,z08.none _ _ _,g.mod _⟩
  have ST:=hid stale
  clear stale
  cases hx:lk F.op ref with
  | none =>
    rw [hx] at hlk
    simp only [Option.getD_none,Option.isSome_none,opV] at hlk
    go_enter Tryz.func155,Tryz.ntmps155
    go_wp2_with fail
    go_ret2
    exact ST.o _ ((Gr.refl w).alloc _)
  | some x =>
    rw [hx] at hlk
    rcases x with ⟨xk,xi,xw⟩
    simp only [Option.getD_some,Option.isSome_some,opV] at hlk ⊢
    by_cases h1:xk=7
    · by_cases h2:xw=0
      · rw [if_pos (.inr h2)]
        subst h1 h2
        go_enter Tryz.func155,Tryz.ntmps155
        go_wp2_with fail
        go_ret2
        exact ST.o _ ((Gr.refl w).alloc _)
      · rw [if_neg (by rintro (e | e);exact e h1;exact h2 e)]
        subst h1
        have HP:=hid (fun (W:World) (y:Gr w W)=>(show Calls Tryz.prog 143 #[.pointer (some ⟨k,0,none⟩),.agg #[.int .i64 kind,.int .i64 now,.int .i64 xw,.int .i64 xi,.int .i64 0,.int .i64 0,.slice Ad data.length cd]] W _ from
          fput PUT ⟨kind,now,xw,xi,0,0,data⟩ (.slice Ad data.length cd) (H.o.gr y) (HD.o.gr y) (okP hF (by unfold z0V;dsimp only;omega) (by dsimp only;omega) hdl) hF.l9 (by dsimp only;omega) (fun _=>h2)))
        have hkk:=hid hkind
        clear hkind hx
        go_enter Tryz.func155,Tryz.ntmps155
        go_wp2_with (first
          | (go_at_call 143
             refine (HP.o _ ((Gr.refl w).alloc _)).mono ?_
             rintro en w2 ⟨rfl,hw2,hm2⟩
             have HM2:=hid ((((Gr.refl w).alloc _).mod (fun b=>b=k∨b=mb)).trans hm2 (fun _ _ e=>e))
             have HW:=hid (z4B PUT k mb _ now M w2 hw2)
             clear hm2 hw2)
          | (go_at_call 144
             refine HW.o.mono ?_
             rintro en w3 ⟨A3,c3,rfl,hr3,ho3,hm3⟩))
        go_ret2
        exact ⟨A3,c3,rfl,hr3,ho3,HM2.o.trans hm3 (fun _ _ e=>e)⟩
    · rw [if_pos (.inl h1)]
      go_enter Tryz.func155,Tryz.ntmps155
      go_wp2_with fail
      go_ret2
      exact ST.o _ ((Gr.refl w).alloc _)
def I64 (x:Int):Prop:=-9223372036854775808≤x∧x≤9223372036854775807
theorem I64.wf {x:Int} (h:I64 x):(Lit.int .i64 x).wf=true:=WalkArith.wf_i64 h
def pv (p:Int × Int):Value:=.agg #[.int .i64 p.1,.int .i64 p.2]
theorem zb9:Tryz.prog.underlying 236=some (.array 2 3):=by kernel_rfl
theorem cells3:Tryz.prog.cellsOf 3=1:=by kernel_rfl
theorem zeB:236<Tryz.prog.types.size:=of_decide_eq_true (by kernel_rfl)
theorem z3Z:Keyed Tryz.prog 236:=Keyed.of_law (deep_law_laid (show laidOutB Tryz.prog=true by kernel_rfl) (m:=2) (by omega) zeB (by kernel_rfl) (by kernel_rfl))
theorem zaJ:Tryz.prog.keyType 236=true:=by kernel_rfl
theorem z6d:Tryz.prog.cellsOf 236=2:=by kernel_rfl
theorem z40 (d:Nat) {n:Int} (h:I64 n):Tryz.prog.keyLits (d+1) 3 [.int .i64 n]=some [.int .i64 n]:=by simp [Program.keyLits,Tryz.underlying3,h.wf]
theorem zcm {p:Int × Int} (h1:I64 p.1) (h2:I64 p.2):∃ l,keyOf Tryz.prog 236 (pv p)=some l:=by
 obtain ⟨a,b⟩:=p
 simp only at h1 h2
 obtain ⟨M,hM⟩:∃ M,Tryz.prog.types.size=M+1:=⟨Tryz.prog.types.size-1,by have:=zeB;omega⟩
 have e1:=z40 M h1
 have e2:=z40 M h2
 refine ⟨.string (keyBytes [.int .i64 a,.int .i64 b]),?_⟩
 unfold keyOf
 rw [zb9]
 simp only [zaJ,pv,Value.formed,zb9,z6d,Value.cells,hM,Bool.true_and]
 unfold Program.keyLits
 rw [zb9]
 simp only [z6d,cells3,show List.range 2=[0,1] from rfl]
 simp [e1,e2]
theorem z3a {H:Type} {P:Program} {e:TypeId} (he:P.underlying e=some .bool) {v:Value} {z:DataW H × List MemPlace} (h:plainElem P e v=some z):∃ a,v=.bool a∧z=(.lit (.bool a),[]):=by
 unfold plainElem at h
 cases v<;>simp_all
theorem zh2 (w:World):(zeroValue 4).run Tryz.prog w=.ok (.bool false) w:=by kernel_rfl
def MP (w:World) (b n:Nat) (S:IdS):Prop :=
 ∃ D:DataW Empty,w.ownsMap Tryz.prog 236 (plainElem Tryz.prog 4) b n D∧∀ x l,keyOf Tryz.prog 236 (pv x)=some l→D.atKey l (.lit (.bool false))=.lit (.bool (S x))
section
variable {w w':World} {b n:Nat} {S:IdS}
theorem MP.made (w:World):MP (w.alloc (.map #[] 0)) w.heap.size 0 (fun _=>false) :=
 ⟨.map [],World.ownsMap_made _ _ _ _,fun _ _ _=>rfl⟩
theorem MP.lt (h:MP w b n S):b<w.heap.size:=by
 obtain ⟨D,h1,_⟩:=h
 exact h1.lt
theorem MP.keep (h:MP w b n S) (hb:w'.heap[b]?=w.heap[b]?):MP w' b n S:=by
 obtain ⟨D,⟨es,clock,h0,F,hs,hD⟩,h1⟩:=h
 exact ⟨D,⟨es,clock,hb.trans h0,F,hs,hD⟩,h1⟩
theorem MP.gr (h:MP w b n S) (g:Gr w w'):MP w' b n S:=h.keep (g.block b h.lt)
theorem MP.ext {S':IdS} (h:MP w b n S) (e:∀ x,S x=S' x):MP w b n S':=(funext e:S=S')▸h
theorem MP.look (h:MP w b n S) {x:Int × Int} (h1:I64 x.1) (h2:I64 x.2):(Instr.lookup 235 (.map (some b)) (pv x) false).run Tryz.prog w=.ok (.bool (S x)) w:=by
 obtain ⟨D,hD,hS⟩:=h
 obtain ⟨l,hl⟩:=zcm h1 h2
 obtain ⟨v,ps,hrun,hv⟩:=hD.lookup z3Z Tryz.underlying235 (zh2 w) (zd:=.lit (.bool false)) (zp:=[]) (plainElem_bool Tryz.underlying4 false) hl
 obtain ⟨a,rfl,e⟩:=z3a Tryz.underlying4 hv
 rw [hS x l hl] at e
 injection e with e _
 injection e with e
 injection e with e
 rw [hrun,e]
theorem zey {x y:Int × Int} (h:pv x=pv y):x=y:=by
 obtain ⟨a,b⟩:=x
 obtain ⟨a',b'⟩:=y
 simp only [pv] at h
 injection h with h
 simp at h
 obtain ⟨rfl,rfl⟩:=h
 rfl
theorem MP.set (h:MP w b n S) (hn:n≤1000000) {x:Int × Int} (h1:I64 x.1) (h2:I64 x.2):∃ w',(Instr.mapUpdate 235 (.map (some b)) (pv x) (.bool true)).run Tryz.prog w=.ok () w'∧MP w' b (n+1) (fun y=>decide (y=x) || S y)∧Mod (fun k=>k=b) w w':=by
 obtain ⟨D,hD,hS⟩:=h
 obtain ⟨l,hl⟩:=zcm h1 h2
 obtain ⟨w',hrun,r1,r2⟩:=hD.update z3Z Tryz.underlying235 (by unfold maxLen;omega) hl (plainElem_bool Tryz.underlying4 true)
 refine ⟨w',hrun,⟨_,r1,fun y ly hy=>?_⟩,(z2f r2).mono (fun k _ e=>by injection e)⟩
 by_cases e:y=x
 ·subst e
  have:ly=l:=by rw [hl] at hy;injection hy with hy;exact hy.symm
  subst this
  rw [atKey_put_same hD.isMap (z3Z.key hl)]
  simp
 ·have hne:ly≠l:=by
   rintro rfl
   exact e (zey (z3Z.inj hy hl))
  rw [atKey_put_other hne,hS y ly hy]
  simp [e]
theorem MP.del (h:MP w b n S) {x:Int × Int} (h1:I64 x.1) (h2:I64 x.2) (ty:TypeId):∃ w',(Builtin.delete_ #[235,236] ty #[.map (some b),pv x]).run Tryz.prog w=.ok (.tuple #[]) w'∧MP w' b n (fun y=>if y=x then false else S y)∧Mod (fun k=>k=b) w w':=by
 obtain ⟨D,hD,hS⟩:=h
 obtain ⟨l,hl⟩:=zcm h1 h2
 obtain ⟨w',hrun,r1,r2⟩:=hD.drop z3Z Tryz.underlying235 hl ty
 refine ⟨w',hrun,⟨_,r1,fun y ly hy=>?_⟩,?_⟩
 ·by_cases e:y=x
  ·subst e
   have:ly=l:=by rw [hl] at hy;injection hy with hy;exact hy.symm
   subst this
   rw [atKey_del_same]
   simp
  ·have hne:ly≠l:=by
    rintro rfl
    exact e (zey (z3Z.inj hy hl))
   rw [atKey_del_other hne,hS y ly hy]
   simp [e]
 ·obtain ⟨es,c,es',c',hb,rfl⟩:=r2
  exact ⟨rfl,rfl,rfl,by simp [ChangeMaps.setBlock],fun k _ hk=>by
   simp only [ChangeMaps.setBlock]
   rw [Array.getElem?_setIfInBounds_ne (fun e=>hk e.symm)]⟩
end
set_option maxHeartbeats 1000000 in
theorem zef (b n:Nat) (S:IdS) (k id list m:Int) (v:Value) (A:Option Addr) (l c:Nat) (hv:v=.slice A l c) (data:List UInt8) (w:World) (h:MP w b n S) (hn:n≤1000000) (hid:0≤id∧id≤1048576) :
  Calls Tryz.prog 186 #[.map (some b),.agg #[.int .i64 k,.int .i64 id,.int .i64 list,.int .i64 m,v]] w (fun e w'=>e=.returned (.bool (takeB S ⟨k,id,list,m,data⟩))∧MP w' b (n+1) (z37 S ⟨k,id,list,m,data⟩)∧Mod (fun q=>q=b) w w'):=by
 subst hv
 have i1:I64 id:=⟨by omega,by omega⟩
 have H:=Go.Ext.hid h
 have add:∀ K:Int,(k=1∧K=7)∨(k=2∧K=12)∨(k=4∧K=17)→Calls Tryz.prog 186 #[.map (some b),.agg #[.int .i64 k,.int .i64 id,.int .i64 list,.int .i64 m,.slice A l c]] w (fun e w'=>e=.returned (.bool (!S (K,id)))∧MP w' b (n+1) (fun p=>decide (p=(K,id)) || S p)∧Mod (fun q=>q=b) w w'):=by
  intro K hK
  have iK:I64 K:=⟨by omega,by omega⟩
  have G2:Gr w ((w.alloc (.cells #[.int .i64 k,.int .i64 id,.int .i64 list,.int .i64 m,.slice A l c] 39)).alloc (.cells #[.int .i64 K,.int .i64 id] 236)):=((Gr.refl w).alloc _).alloc _
  have hlk:(Instr.lookup 235 (.map (some b)) (.agg #[.int .i64 K,.int .i64 id]) false).run Tryz.prog ((w.alloc (.cells #[.int .i64 k,.int .i64 id,.int .i64 list,.int .i64 m,.slice A l c] 39)).alloc (.cells #[.int .i64 K,.int .i64 id] 236))=_:=(H.o.gr G2).look (x:=(K,id)) iK i1
  obtain ⟨w3,hup,h3,m3⟩:=(H.o.gr G2).set hn (x:=(K,id)) iK i1
  simp only [pv] at hup
  have H3:=Go.Ext.hid h3
  have M3:=Go.Ext.hid ((G2.mod (fun q=>q=b)).trans m3 (fun _ _ e=>e))
  clear h3 m3 G2
  rcases hK with ⟨rfl,rfl⟩ | ⟨rfl,rfl⟩ | ⟨rfl,rfl⟩
  all_goals (
   go_enter Tryz.func186,Tryz.ntmps186
   go_wp2_with fail
   go_ret
   exact ⟨rfl,H3.o,M3.o⟩)
 by_cases k3:k=3
 ·subst k3
  have G2:Gr w ((w.alloc (.cells #[.int .i64 3,.int .i64 id,.int .i64 list,.int .i64 m,.slice A l c] 39)).alloc (.cells #[.int .i64 12,.int .i64 id] 236)):=((Gr.refl w).alloc _).alloc _
  have iK:I64 12:=⟨by omega,by omega⟩
  have hlk:(Instr.lookup 235 (.map (some b)) (.agg #[.int .i64 12,.int .i64 id]) false).run Tryz.prog ((w.alloc (.cells #[.int .i64 3,.int .i64 id,.int .i64 list,.int .i64 m,.slice A l c] 39)).alloc (.cells #[.int .i64 12,.int .i64 id] 236))=_:=(H.o.gr G2).look (x:=(12,id)) iK i1
  obtain ⟨w3,hup,h3,m3⟩:=(H.o.gr G2).del (x:=(12,id)) iK i1 0
  simp only [pv] at hup
  have H3:=Go.Ext.hid h3
  have M3:=Go.Ext.hid ((G2.mod (fun q=>q=b)).trans m3 (fun _ _ e=>e))
  clear h3 m3 G2 h
  have hT:=Go.Ext.hid (show takeB S ⟨3,id,list,m,data⟩=S (12,id)∧z37 S ⟨3,id,list,m,data⟩=(fun p=>if p=(12,id) then false else S p) from ⟨rfl,rfl⟩)
  rw [hT.o.1,hT.o.2]
  go_enter Tryz.func186,Tryz.ntmps186
  go_wp2_with fail
  go_ret
  refine ⟨rfl,?_,M3.o⟩
  obtain ⟨D,hD,hS⟩:=H3.o
  obtain ⟨es,clock,h0,F,hs,hDD⟩:=hD
  exact ⟨D,⟨es,clock,h0,F,Nat.le_succ_of_le hs,hDD⟩,hS⟩
 by_cases k1:k=1
 ·have hT:=Go.Ext.hid (show takeB S ⟨k,id,list,m,data⟩ = !S (7,id)∧z37 S ⟨k,id,list,m,data⟩=(fun p=>decide (p=(7,id)) || S p) by subst k1;exact ⟨rfl,rfl⟩)
  rw [hT.o.1,hT.o.2]
  exact add 7 (.inl ⟨k1,rfl⟩)
 by_cases k2:k=2
 ·have hT:=Go.Ext.hid (show takeB S ⟨k,id,list,m,data⟩ = !S (12,id)∧z37 S ⟨k,id,list,m,data⟩=(fun p=>decide (p=(12,id)) || S p) by subst k2;exact ⟨rfl,rfl⟩)
  rw [hT.o.1,hT.o.2]
  exact add 12 (.inr (.inl ⟨k2,rfl⟩))
 by_cases k4:k=4
 ·have hT:=Go.Ext.hid (show takeB S ⟨k,id,list,m,data⟩ = !S (17,id)∧z37 S ⟨k,id,list,m,data⟩=(fun p=>decide (p=(17,id)) || S p) by subst k4;exact ⟨rfl,rfl⟩)
  rw [hT.o.1,hT.o.2]
  exact add 17 (.inr (.inr ⟨k4,rfl⟩))
 have hT:=Go.Ext.hid (show takeB S ⟨k,id,list,m,data⟩=true∧z37 S ⟨k,id,list,m,data⟩=S by simp [takeB,z37,k1,k2,k3,k4])
 rw [hT.o.1,hT.o.2]
 clear add h hT
 go_enter Tryz.func186,Tryz.ntmps186
 go_wp2_with fail
 go_ret
 refine ⟨rfl,?_,((Gr.refl w).alloc _).mod _⟩
 obtain ⟨D,hD,hS⟩:=H.o.gr ((Gr.refl w).alloc _)
 obtain ⟨es,clock,h0,F,hs,hDD⟩:=hD
 exact ⟨D,⟨es,clock,h0,F,Nat.le_succ_of_le hs,hDD⟩,hS⟩
end Go.Proofs.YtniknicnnaiilaaGreat
end
