/- Lemmas of the engine. -/
import Derived.BigQuiet
import Derived.Deep.AppendLies
import Derived.Deep.DrawnRows
import Derived.Deep.RegionHeld3
import Derived.Laws.IdiomRangeMap
import Derived.Laws.ResultCell
import Derived.Maps.Own
import Derived.Maps.OwnOps
import Derived.Maps.OwnSet
import Derived.WalkKit
import Derived.WalkLawsBesides
import Derived.WalkSpells
section
namespace Go.Ext
open Go.RowKit
theorem _root_.Go.Shut.o {p : Prop} (h : Go.Shut p) : p := h
theorem _root_.Go.RowKit.Hid.o {p : Prop} (h : Hid p) : p := h
theorem hid {p:Prop} (h:p):Hid p:=h
def Gr (w0 w:World):Prop:=Below w0.heap.size w0 w
theorem Gr.below {w0 w:World} (h:Gr w0 w):Below w0.heap.size w0 w:=h
theorem Gr.size {w0 w:World} (h:Gr w0 w):w0.heap.size≤w.heap.size:=h.below.size
theorem Gr.refl (w:World):Gr w w:=Below.refl _ _
theorem Gr.trans {a b c:World} (h:Gr a b) (k:Gr b c):Gr a c:=Below.trans h (Below.mono k h.size)
theorem Gr.alloc {a w:World} (h:Gr a w) (o:Obj):Gr a (w.alloc o):=Below.alloc h h.size o
theorem Gr.drew {a w:World} (h:Gr a w):Gr a w.drew:=Below.drew h
theorem Gr.drewN {a w:World} (h:Gr a w) (n:Nat):Gr a (w.drewN n):=⟨h.os,h.tape,h.output,h.size,h.block⟩
theorem Gr.set {a w:World} (h:Gr a w) {p:Addr} (hp:a.heap.size≤p.block) (u:Value):Gr a (w.setCell p u):=Below.setCell h hp u
theorem Gr.cell {a w:World} (h:Gr a w) {p:Addr} (hp:p.block<a.heap.size):w.cell? p=a.cell? p:=Below.cell h hp
theorem Gr.frozen {a w:World} (h:Gr a w) {p:Addr} (hp:p.block<a.heap.size):w.frozen? p=a.frozen? p:=Below.frozen h hp
structure Ext (w:World) where
 val:World
 gr:Gr w val
instance {w:World}:Nonempty (Ext w):=⟨⟨w,Gr.refl _⟩⟩
theorem Ext.cell {w:World} (x:Ext w) (a:Addr) (h:a.block<w.heap.size):x.val.cell? a=w.cell? a:=x.gr.cell h
theorem Ext.frozen {w:World} (x:Ext w) (a:Addr) (h:a.block<w.heap.size):x.val.frozen? a=w.frozen? a:=x.gr.frozen h
theorem Ext.lt {w:World} (x:Ext w) (b:Nat) (h:b<w.heap.size):(b<x.val.heap.size)=True:=eq_true (Nat.lt_of_lt_of_le h x.gr.size)
theorem Ext.le {w:World} (x:Ext w) (b:Nat) (h:b≤w.heap.size):(b≤x.val.heap.size)=True:=eq_true (Nat.le_trans h x.gr.size)
theorem Gr.ext {a w:World} (h:Gr a w) (x:Ext w):Gr a x.val:=h.trans x.gr
theorem Ext.lt_alloc {w:World} {o:Obj} (y:Ext (w.alloc o)):w.heap.size<y.val.heap.size:=Nat.lt_of_lt_of_le (by simp) y.gr.size
def RetE (v:Value) (w:World) (e:Ending) (w':World):Prop:=e=.returned v∧∃ y:Ext w,w'=y.val
theorem retE {P:Program} {f:FuncId} {args:Array Value} {w:World} {v:Value} (h:Calls P f args w fun e w'=>e=.returned v∧Gr w w'):Calls P f args w (RetE v w) :=
 h.mono fun _ w' ⟨he,hg⟩=>⟨he,⟨w',hg⟩,rfl⟩
theorem z31 {P:Program} {f:FuncId} {args:Array Value} {w:World} {v:Value} (h:Calls P f args w fun e w'=>e=.returned v∧w=w'):Calls P f args w (RetE v w) :=
 retE (h.mono fun _ _ ⟨he,hg⟩=>⟨he,hg▸Gr.refl _⟩)
theorem z0a {P:Program} {id:Nat} {Q:Exit→Act→World→Prop} {a:Act} {w:World} {l:List Oper} (hm:P.follows .mixedOrders=true) (hB:Region.lexB .any l.toArray=true)
  (h:wpQuiet P l.toArray (fun w'=>∃ x:Ext w,w'=x.val) (fun a'=>∀ w',(∃ x:Ext w,w'=x.val)→Q .normal a' w') l a):(Code.region id l.toArray true).wp P Q a w :=
 wp_region_quiet (C:=fun w'=>∃ x:Ext w,w'=x.val) hm hB ⟨⟨w.drew,(Gr.refl _).drew⟩,rfl⟩ (by simpa using h)
theorem z1u {P:Program} {f:FuncId} {args:Array Value} {w:World} {v:Value} (x:Ext w)
  (h:Calls P f args x.val (RetE v x.val)):Calls P f args x.val fun e w''=>e=.returned v∧∃ y:Ext w,w''=y.val :=
 h.mono fun _ _ ⟨he,y,hy⟩=>⟨he,⟨y.val,x.gr.trans y.gr⟩,hy⟩
theorem s1 (n:Nat):(n<n+1)=True:=eq_true (by omega)
theorem s2 (n:Nat):(n<n+1+1)=True:=eq_true (by omega)
theorem s3 (n:Nat):(n<n+1+1+1)=True:=eq_true (by omega)
theorem s4 (n:Nat):(n<n+1+1+1+1)=True:=eq_true (by omega)
theorem s5 (n:Nat):(n<n+1+1+1+1+1)=True:=eq_true (by omega)
theorem s6 (n:Nat):(n<n+1+1+1+1+1+1)=True:=eq_true (by omega)
theorem t1 (b n:Nat) (h:b<n):(b<n+1)=True:=eq_true (by omega)
theorem t2 (b n:Nat) (h:b<n):(b<n+1+1)=True:=eq_true (by omega)
theorem t3 (b n:Nat) (h:b<n):(b<n+1+1+1)=True:=eq_true (by omega)
theorem t4 (b n:Nat) (h:b<n):(b<n+1+1+1+1)=True:=eq_true (by omega)
theorem t5 (b n:Nat) (h:b<n):(b<n+1+1+1+1+1)=True:=eq_true (by omega)
theorem t6 (b n:Nat) (h:b<n):(b<n+1+1+1+1+1+1)=True:=eq_true (by omega)
def Imm (T:TypeId→Bool) (base:Nat) (w:World) (b:Nat):Prop :=
 b<w.heap.size∧(b<base∨∃ cs t fz,w.heap[b]?=some (.cells cs t fz)∧T t=true)
structure Kp (T:TypeId→Bool) (base:Nat) (w w':World):Prop where
 os:w'.os=w.os
 tape:w'.tape=w.tape
 output:w'.output=w.output
 size:w.heap.size≤w'.heap.size
 block:∀ b,Imm T base w b→w'.heap[b]?=w.heap[b]?
section
variable {T:TypeId→Bool} {base:Nat} {w w' a b c:World}
theorem z39 {row:Option Nat} (h:Gr a w) (hg:w.grownBy w' row) (hr:∀ k,row=some k→a.heap.size≤k):Gr a w':=Below.grown h hg h.size hr
end
structure Mod (S:Nat→Prop) (w w':World):Prop where
 os:w'.os=w.os
 tape:w'.tape=w.tape
 output:w'.output=w.output
 size:w.heap.size≤w'.heap.size
 block:∀ k,k<w.heap.size→¬ S k→w'.heap[k]?=w.heap[k]?
section
variable {S S':Nat→Prop} {w w' a b c:World}
theorem Gr.mod (h:Gr w w') (S:Nat→Prop):Mod S w w':=⟨h.os,h.tape,h.output,h.size,fun k hk _=>h.block k hk⟩
theorem Mod.trans (h:Mod S a b) (k:Mod S' b c) (hS:∀ x,x<a.heap.size→S' x→S x):Mod S a c :=
 ⟨k.os.trans h.os,k.tape.trans h.tape,k.output.trans h.output,Nat.le_trans h.size k.size,fun i hi hn=>(k.block i (Nat.lt_of_lt_of_le hi h.size) (fun e=>hn (hS i hi e))).trans (h.block i hi hn)⟩
theorem Mod.gr (h:Mod S a w) (g:Gr w w'):Mod S a w':=h.trans (g.mod fun _=>False) (fun _ _ e=>e.elim)
theorem Mod.set (h:Mod S a w) {p:Addr} (hp:p.block<a.heap.size→S p.block) (u:Value):Mod S a (w.setCell p u) :=
 ⟨h.os,h.tape,h.output,by simpa [World.setCell] using h.size,fun i hi hn=>(Below.heap_setCell w p u i (fun e=>hn (e▸hp (e▸hi)))).trans (h.block i hi hn)⟩
theorem Mod.mono (h:Mod S w w') (hS:∀ k,k<w.heap.size→S k→S' k):Mod S' w w':=⟨h.os,h.tape,h.output,h.size,fun k hk hn=>h.block k hk (fun e=>hn (hS k hk e))⟩
end
def Rd (w:World) (A:Option Addr) (xs:List Value):Prop:=xs≠[]→∃ b off,A=some ⟨b,off,none⟩∧∀ j u,xs[j]?=some u→w.cell? ⟨b,off+j,none⟩=some u
section
variable {w w':World} {A:Option Addr} {xs:List Value}
theorem Rd.nil (w:World) (A:Option Addr):Rd w A []:=fun h=>absurd rfl h
theorem Rd.keep (h:Rd w A xs) (hk:∀ b,(∃ off,A=some ⟨b,off,none⟩)→b<w.heap.size→w'.heap[b]?=w.heap[b]?):Rd w' A xs:=fun hn=>by
 obtain ⟨b,off,rfl,hc⟩:=h hn
 refine ⟨b,off,rfl,fun j u hu=>?_⟩
 have h1:=hc j u hu
 exact (World.cell?_of_block (hk b ⟨off,rfl⟩ (World.block_lt_of_cell? w _ h1))).trans h1
theorem Rd.gr (h:Rd w A xs) (g:Gr w w'):Rd w' A xs:=h.keep fun b _ hb=>g.block b hb
theorem Rd.at_ (h:Rd w A xs) {j:Nat} {u:Value} (hu:xs[j]?=some u):∃ b off,A=some ⟨b,off,none⟩∧w.cell? ⟨b,off+j,none⟩=some u:=by
 obtain ⟨b,off,rfl,hc⟩:=h (by rintro rfl;simp at hu)
 exact ⟨b,off,rfl,hc j u hu⟩
theorem Rd.add {ad:Addr} (h:Rd w (some ad) xs):∀ j u,xs[j]?=some u→w.cell? (ad.add j)=some u:=by
 intro j u hu
 obtain ⟨b,off,e,hc⟩:=h.at_ hu
 injection e with e
 subst e
 rw [← hc]
 congr 1
 unfold Addr.add
 split<;>simp_all
theorem Rd.of_own {base e size n c:Nat} (h:w.ownsRow base e size (.slice A n c) n xs):Rd w A xs:=fun hn=>by
 rcases h.2 with ⟨hv,h0⟩ | ⟨g,cap,cur,hv,hb,hh,hnc,hcm,hcs,ht⟩
 ·exfalso;apply hn;have:=h.1;subst h0;simpa using this
 ·injection hv with h1 h2 h3
  subst h1
  refine ⟨g,0,rfl,fun j u hu=>?_⟩
  have:=h.cells (g:=g) rfl j u hu
  rw [Nat.zero_add]
  have hadd:(⟨g,0,none⟩:Addr).add j=⟨g,j,none⟩:=by unfold Addr.add;split<;>simp_all
  rwa [hadd] at this
end
def bc (bs:List UInt8):List Value:=bs.map fun b=>.int .u8 (b.toNat:Int)
theorem z7v (bs:List UInt8):(bc bs).length=bs.length:=by simp [bc]
theorem zen (bs:List UInt8):∀ u∈bc bs,u.oneCell'=true:=by
 intro u hu
 simp only [bc,List.mem_map] at hu
 obtain ⟨b,_,rfl⟩:=hu
 rfl
def Byt (T:TypeId→Bool) (base:Nat) (w:World) (d:Value) (bs:List UInt8):Prop :=
 ∃ A c,d=.slice A bs.length c∧bs.length≤140737488351232∧Rd w A (bc bs)∧(bs≠[]→∃ b off,A=some ⟨b,off,none⟩∧Imm T base w b)∧(A=none→c=0)
end Go.Ext
end
section
namespace Go.Ext
open Go.RowKit Go.MapKept
section
variable {α β:Type}
def lk:List (Int × α)→Int→Option α
 | [],_=>none
 | x::r,k=>if x.1=k then some x.2 else lk r k
def up:List (Int × α)→Int→α→List (Int × α)
 | [],k,v=>[(k,v)]
 | x::r,k,v=>if x.1=k then (k,v)::r else x::up r k v
def rm:List (Int × α)→Int→List (Int × α)
 | [],_=>[]
 | x::r,k=>if x.1=k then r else x::rm r k
def mp (f:α→β) (l:List (Int × α)):List (Int × β):=l.map fun x=>(x.1,f x.2)
theorem z45 (f:α→β) (k:Int):∀ l:List (Int × α),lk (mp f l) k=(lk l k).map f
 | []=>rfl
 | x::r=>by
  simp only [mp,List.map_cons,lk]
  split
  ·rfl
  ·exact z45 f k r
theorem z7n (f:α→β) (k:Int) (v:α):∀ l:List (Int × α),up (mp f l) k (f v)=mp f (up l k v)
 | []=>rfl
 | x::r=>by
  simp only [mp,List.map_cons,up]
  split
  ·rfl
  ·simp only [List.map_cons]
   congr 1
   exact z7n f k v r
theorem z4Z (f:α→β) (k:Int):∀ l:List (Int × α),rm (mp f l) k=mp f (rm l k)
 | []=>rfl
 | x::r=>by
  simp only [mp,List.map_cons,rm]
  split
  ·rfl
  ·simp only [List.map_cons]
   congr 1
   exact z4Z f k r
theorem up_new {l:List (Int × α)} {k:Int} {v:α} (h:lk l k=none):up l k v=l++[(k,v)]:=by
 induction l with
 | nil=>rfl
 | cons x r ih =>
  simp only [lk] at h
  split at h
  ·cases h
  ·rename_i hx
   simp only [up,if_neg hx,List.cons_append]
   rw [ih h]
theorem zcS {l:List (Int × α)} {k:Int} (h:lk l k=none):rm l k=l:=by
 induction l with
 | nil=>rfl
 | cons x r ih =>
  simp only [lk] at h
  split at h
  ·cases h
  ·rename_i hx
   simp only [rm,if_neg hx]
   rw [ih h]
theorem z0g (l:List (Int × α)) (k:Int) (v:α):lk (up l k v) k=some v:=by
 induction l with
 | nil=>simp [up,lk]
 | cons x r ih =>
  simp only [up]
  split
  ·simp [lk]
  ·rename_i hx
   simp [lk,hx,ih]
theorem z0G (l:List (Int × α)) {k q:Int} (v:α) (h:q≠k):lk (up l k v) q=lk l q:=by
 induction l with
 | nil=>simp [up,lk,Ne.symm h]
 | cons x r ih =>
  simp only [up]
  split
  ·rename_i hx
   simp only [lk,hx,Ne.symm h,if_false]
  ·simp only [lk,ih]
theorem z0K {l:List (Int × α)} {k:Int} {v:α} (h:lk l k=some v):(k,v)∈l:=by
 induction l with
 | nil=>cases h
 | cons x r ih =>
  simp only [lk] at h
  split at h
  ·rename_i hx
   injection h with h
   subst hx h
   exact List.mem_cons_self ..
  ·exact List.mem_cons_of_mem _ (ih h)
theorem z5I {l:List (Int × α)} {k:Int} {v:α} (hn:(l.map (·.1)).Nodup) (h:(k,v)∈l):lk l k=some v:=by
 induction l with
 | nil=>cases h
 | cons x r ih =>
  simp only [List.map_cons,List.nodup_cons] at hn
  rcases List.mem_cons.1 h with rfl | h
  ·simp [lk]
  ·have:x.1≠k:=by
    rintro rfl
    exact hn.1 (List.mem_map.2 ⟨(x.1,v),h,rfl⟩)
   simp only [lk,if_neg this]
   exact ih hn.2 h
theorem z73 {l:List (Int × α)} {k:Int} (h:lk l k=none):k ∉ l.map (·.1):=by
 induction l with
 | nil=>simp
 | cons x r ih =>
  simp only [lk] at h
  split at h
  ·cases h
  ·rename_i hx
   simp only [List.map_cons,List.mem_cons,not_or]
   exact ⟨fun e=>hx e.symm,ih h⟩
theorem zfJ (l:List (Int × α)) (k:Int) (v:α):(up l k v).map (·.1)=if (lk l k).isSome then l.map (·.1) else l.map (·.1)++[k]:=by
 induction l with
 | nil=>rfl
 | cons x r ih =>
  simp only [up,lk]
  split
  ·rename_i hx
   simp [hx]
  ·simp only [List.map_cons,ih]
   split<;>simp
theorem z3d {l:List (Int × α)} (h:(l.map (·.1)).Nodup) (k:Int) (v:α):((up l k v).map (·.1)).Nodup:=by
 rw [zfJ]
 split
 ·exact h
 ·rename_i hx
  have:lk l k=none:=by simpa using hx
  have hk:=z73 this
  rw [List.nodup_append]
  exact ⟨h,by simp,fun a ha b hb=>by simp at hb;subst hb;rintro rfl;exact hk ha⟩
theorem z2Q (l:List (Int × α)) (k:Int):(rm l k).Sublist l:=by
 induction l with
 | nil=>exact List.Sublist.refl _
 | cons x r ih =>
  simp only [rm]
  split
  ·exact List.sublist_cons_self ..
  ·exact ih.cons_cons _
theorem z5a {l:List (Int × α)} (h:(l.map (·.1)).Nodup) (k:Int):((rm l k).map (·.1)).Nodup:=h.sublist ((z2Q l k).map _)
theorem z1G {l:List (Int × α)} (h:(l.map (·.1)).Nodup) (k:Int):lk (rm l k) k=none:=by
 induction l with
 | nil=>rfl
 | cons x r ih =>
  simp only [List.map_cons,List.nodup_cons] at h
  simp only [rm]
  split
  ·rename_i hx
   cases e:lk r k with
   | none=>rfl
   | some v=>exact absurd (List.mem_map.2 ⟨(k,v),z0K e,hx.symm⟩) h.1
  ·rename_i hx
   simp only [lk,if_neg hx]
   exact ih h.2
theorem z1V (l:List (Int × α)) {k q:Int} (h:q≠k):lk (rm l k) q=lk l q:=by
 induction l with
 | nil=>rfl
 | cons x r ih =>
  simp only [rm]
  split
  ·rename_i hx
   simp only [lk,hx,Ne.symm h,if_false]
  ·simp only [lk,ih]
end
def kvs (kv:List (Int × Value)):List (Value × Value):=kv.map fun x=>(.int .i64 x.1,x.2)
def MI (w:World) (b:Nat) (kv:List (Int × Value)):Prop :=
 ∃ es clock,w.heap[b]?=some (.map es clock)∧es.toList.map (fun e=>(e.key,e.val))=kvs kv∧Stamped es clock
section
variable {P:Program} {w w':World} {b:Nat} {kv:List (Int × Value)}
theorem MI.lt (h:MI w b kv):b<w.heap.size:=by
 obtain ⟨es,clock,hb,_⟩:=h
 exact (Array.getElem?_eq_some_iff.1 hb).1
theorem MI.keep (h:MI w b kv) (hb:w'.heap[b]?=w.heap[b]?):MI w' b kv:=by
 obtain ⟨es,clock,h0,h1,h2⟩:=h
 exact ⟨es,clock,hb.trans h0,h1,h2⟩
theorem MI.gr (h:MI w b kv) (g:Gr w w'):MI w' b kv:=h.keep (g.block b h.lt)
theorem MI.mod {S:Nat→Prop} (h:MI w b kv) (m:Mod S w w') (hS:¬ S b):MI w' b kv:=h.keep (m.block b h.lt hS)
theorem MI.made (w:World):MI (w.alloc (.map #[] 0)) w.heap.size []:=⟨#[],0,heap_alloc_new w _,rfl,stamped_empty 0⟩
theorem z3k (k:Int):∀ (l:List MapEntry) (kv:List (Int × Value)) (i:Nat),l.map (fun e=>(e.key,e.val))=kvs kv →
  (lk kv k=none∧Instr.findNow (.int .i64) (.int .i64 k) l i=some none) ∨
  ∃ (j:Nat) (e:MapEntry),l[j]?=some e∧e.key=.int .i64 k∧lk kv k=some e.val∧Instr.findNow (.int .i64) (.int .i64 k) l i=some (some (i+j,e.val)) ∧
   (∀ v,(l.modify j fun e=>{ e with key:=.int .i64 k,val:=v }).map (fun e=>(e.key,e.val))=kvs (up kv k v))∧(l.eraseIdx j).map (fun e=>(e.key,e.val))=kvs (rm kv k)
 | [],kv,i,h=>by
  left
  cases kv with
  | nil=>exact ⟨rfl,rfl⟩
  | cons x r=>cases h
 | e::l,kv,i,h=>by
  cases kv with
  | nil=>cases h
  | cons x r =>
   simp only [List.map_cons,kvs] at h
   injection h with h1 h2
   injection h1 with hk hv
   have hs:Instr.sameNow (.int .i64) (.int .i64 k) e.key=some (k==x.1):=by rw [hk];simp [Instr.sameNow]
   by_cases hx:x.1=k
   ·right
    refine ⟨0,e,rfl,by rw [hk,hx],by simp [lk,hx,hv],?_,fun v=>?_,?_⟩
    ·simp only [Instr.findNow,hs,hx,beq_self_eq_true,Nat.add_zero]
    ·simp only [List.modify_cons,if_true,List.map_cons,up,if_pos hx,kvs]
     exact congrArg _ h2
    ·simp only [List.eraseIdx_cons_zero,rm,if_pos hx]
     exact h2
   ·have hb:(k==x.1)=false:=by rw [beq_eq_false_iff_ne];exact Ne.symm hx
    rw [hb] at hs
    rcases z3k k l r (i+1) h2 with ⟨h3,h4⟩ | ⟨j,e',h3,h4,h5,h6,h7,h8⟩
    ·left
     refine ⟨by simp only [lk,if_neg hx,h3],?_⟩
     simp only [Instr.findNow,hs,h4]
    ·right
     refine ⟨j+1,e',h3,h4,by simp only [lk,if_neg hx,h5],?_,fun v=>?_,?_⟩
     ·simp only [Instr.findNow,hs,h6]
      simp only [Nat.add_assoc,Nat.add_comm 1 j]
     ·simp only [List.modify_cons,Nat.add_one_ne_zero,if_false,Nat.add_sub_cancel,List.map_cons,up,if_neg hx,kvs]
      have:=h7 v
      simp only [kvs] at this
      rw [this,hk,hv]
     ·simp only [List.eraseIdx_cons_succ,List.map_cons,rm,if_neg hx,kvs]
      simp only [kvs] at h8
      rw [h8,hk,hv]
theorem MI.lookup (h:MI w b kv) {T K E:TypeId} (hT:P.underlying T=some (.map K E)) (hK:P.underlying K=some (.int .i64)) {z:Value} (hz:(zeroValue E).run P w=.ok z w) (k:Int) (c:Bool) :
  (Instr.lookup T (.map (some b)) (.int .i64 k) c).run P w=.ok (if c then .tuple #[(lk kv k).getD z,.bool (lk kv k).isSome] else (lk kv k).getD z) w:=by
 obtain ⟨es,clock,hb,h1,h2⟩:=h
 unfold Instr.lookup
 have hc:∀ e,(Instr.checkKey e 10000 K (.int .i64 k)).run P w=.ok () w:=fun e=>MapKept.run_checkKey (n:=9999) hK (by simp [IsKey]) e
 rcases z3k k es.toList kv 0 h1 with ⟨h3,h4⟩ | ⟨j,e,h3,h4,h5,h6,_⟩
 ·have hf:(Instr.findKey K (.int .i64 k) es.toList).run P w=.ok none w:=MapKept.run_findKey hK h4
  simp [run_underlying hT,MapKept.run_getObj_map hb,hc,hf,hz,h3,Sem.run_bind,Result.andThen]
 ·have hf:(Instr.findKey K (.int .i64 k) es.toList).run P w=.ok (some (0+j,e.val)) w:=MapKept.run_findKey hK h6
  simp [run_underlying hT,MapKept.run_getObj_map hb,hc,hf,h5,Sem.run_bind,Result.andThen]
theorem z4g {es:Array MapEntry} {clock:Nat} (hb:w.heap[b]?=some (.map es clock)) (o:Obj):∃ w',(setObj b o).run P w=.ok () w'∧w'.heap[b]?=some o∧Mod (·=b) w w':=by
 refine ⟨_,MapKept.run_setObj_map o hb,(MapKept.heap_set hb).1,⟨rfl,rfl,rfl,by simp,fun k _ hk=>(MapKept.heap_set hb).2 k hk⟩⟩
theorem MI.update (h:MI w b kv) {T K E:TypeId} (hT:P.underlying T=some (.map K E)) (hK:P.underlying K=some (.int .i64)) (k:Int) (v:Value) :
  ∃ w',(Instr.mapUpdate T (.map (some b)) (.int .i64 k) v).run P w=.ok () w'∧MI w' b (up kv k v)∧Mod (·=b) w w':=by
 obtain ⟨es,clock,hb,h1,h2⟩:=h
 unfold Instr.mapUpdate
 have hc:∀ e,(Instr.checkKey e 10000 K (.int .i64 k)).run P w=.ok () w:=fun e=>MapKept.run_checkKey (n:=9999) hK (by simp [IsKey]) e
 rcases z3k k es.toList kv 0 h1 with ⟨h3,h4⟩ | ⟨j,e,h3,h4,h5,h6,h7,_⟩
 ·have hf:(Instr.findKey K (.int .i64 k) es.toList).run P w=.ok none w:=MapKept.run_findKey hK h4
  obtain ⟨w',hr,hb',hm⟩:=z4g (P:=P) hb (.map (es.push { key:=.int .i64 k,val:=v,born:=clock }) (clock+1))
  refine ⟨w',?_,⟨_,_,hb',?_,stamped_push h2 (fun x hx he=>?_)⟩,hm⟩
  ·simp [run_underlying hT,MapKept.run_getObj_map hb,hc,hf,hr,Sem.run_bind,Result.andThen]
  ·rw [up_new h3,Array.toList_push,List.map_append,h1]
   simp [kvs]
  ·have:=congrArg (List.map Prod.fst) h1
   have hm:x.key∈es.toList.map (·.key):=List.mem_map.2 ⟨x,hx,rfl⟩
   have e1:es.toList.map (·.key)=kv.map (fun x=>Value.int .i64 x.1):=by simpa [kvs,List.map_map,Function.comp_def] using this
   rw [e1,he] at hm
   obtain ⟨y,hy,hyk⟩:=List.mem_map.1 hm
   injection hyk with _ hyk
   exact z73 h3 (List.mem_map.2 ⟨y,hy,hyk⟩)
 ·have hf:(Instr.findKey K (.int .i64 k) es.toList).run P w=.ok (some (j,e.val)) w:=MapKept.run_findKey hK (by rw [h6,Nat.zero_add])
  have hj:es[j]?=some e:=by rw [← Array.getElem?_toList];exact h3
  have hk:(Instr.keyThatStays (.int .i64 k) (.int .i64 k)).run P w=.ok (.int .i64 k) w:=MapKept.run_keyThatStays (d:=.int .i64) (by simp [IsKey])
  obtain ⟨w',hr,hb',hm⟩:=z4g (P:=P) hb (.map (es.modify j fun e=>{ e with key:=.int .i64 k,val:=v }) clock)
  refine ⟨w',?_,⟨_,_,hb',?_,stamped_modify h2 _ _ (fun _ _=>rfl) (fun e' _ he'=>?_)⟩,hm⟩
  ·simp [run_underlying hT,MapKept.run_getObj_map hb,hc,hf,hj,h4,hk,hr,Sem.run_bind,Result.andThen]
  ·rw [Array.toList_modify]
   exact h7 v
  ·rw [hj] at he'
   injection he' with he'
   rw [← he',h4]
theorem MI.delete (h:MI w b kv) {T K E:TypeId} (hT:P.underlying T=some (.map K E)) (hK:P.underlying K=some (.int .i64)) (k:Int) (ty U:TypeId) :
  ∃ w',(Builtin.delete_ #[T,U] ty #[.map (some b),.int .i64 k]).run P w=.ok (.tuple #[]) w'∧MI w' b (rm kv k)∧Mod (·=b) w w':=by
 obtain ⟨es,clock,hb,h1,h2⟩:=h
 unfold Builtin.delete_
 have hc:∀ e,(Instr.checkKey e 10000 K (.int .i64 k)).run P w=.ok () w:=fun e=>MapKept.run_checkKey (n:=9999) hK (by simp [IsKey]) e
 rcases z3k k es.toList kv 0 h1 with ⟨h3,h4⟩ | ⟨j,e,h3,h4,h5,h6,_,h8⟩
 ·have hf:(Instr.findKey K (.int .i64 k) es.toList).run P w=.ok none w:=MapKept.run_findKey hK h4
  obtain ⟨w',hr,hb',hm⟩:=z4g (P:=P) hb (.map es clock)
  refine ⟨w',?_,⟨_,_,hb',by rw [zcS h3];exact h1,h2⟩,hm⟩
  simp [run_underlying hT,MapKept.run_getObj_map hb,hc,hf,hr,Sem.run_bind,Result.andThen]
 ·have hf:(Instr.findKey K (.int .i64 k) es.toList).run P w=.ok (some (0+j,e.val)) w:=MapKept.run_findKey hK h6
  obtain ⟨w',hr,hb',hm⟩:=z4g (P:=P) hb (.map (es.eraseIdxIfInBounds (0+j)) clock)
  refine ⟨w',?_,⟨_,_,hb',?_,stamped_erase h2 _⟩,hm⟩
  ·simp [run_underlying hT,MapKept.run_getObj_map hb,hc,hf,Sem.run_bind,Result.andThen]
   simpa [Result.andThen] using congrArg (fun r=>r.andThen fun _ w=>Result.ok (Value.tuple #[]) w) hr
  ·have hjl:j<es.size:=by
    have:=(List.getElem?_eq_some_iff.1 h3).1
    simpa using this
   rw [Nat.zero_add,Array.eraseIdxIfInBounds,dif_pos hjl,Array.toList_eraseIdx]
   exact h8
theorem MI.len (h:MI w b kv) {T K E:TypeId} (hT:P.underlying T=some (.map K E)) (ty:TypeId):(Builtin.len_ #[T] ty #[.map (some b)]).run P w=.ok (.int .i64 kv.length) w:=by
 obtain ⟨es,clock,hb,h1,h2⟩:=h
 have:es.size=kv.length:=by
  have:=congrArg List.length h1
  simpa [kvs] using this
 simp [Builtin.len_,run_underlying hT,MapKept.run_getObj_map hb,Sem.run_bind,Result.andThen,this,goInt]
theorem MI.clear (h:MI w b kv) {T K E:TypeId} (hT:P.underlying T=some (.map K E)) (ty:TypeId):∃ w',(Builtin.clear_ #[T] ty #[.map (some b)]).run P w=.ok (.tuple #[]) w'∧MI w' b []∧Mod (·=b) w w':=by
 obtain ⟨es,clock,hb,h1,h2⟩:=h
 obtain ⟨w',hr,hb',hm⟩:=z4g (P:=P) hb (.map #[] clock)
 refine ⟨w',?_,⟨_,_,hb',rfl,stamped_empty _⟩,hm⟩
 simp [Builtin.clear_,run_underlying hT,MapKept.run_getObj_map hb,hr,Sem.run_bind,Result.andThen]
theorem MI.clone (h:MI w b kv) (t:TypeId):∃ o,(Extern.MapsClone.clone #[.iface t (.map (some b))]).run P w=.ok (.iface t (.map (some w.heap.size))) (w.alloc o)∧MI (w.alloc o) w.heap.size kv:=by
 obtain ⟨es,clock,hb,h1,h2⟩:=h
 refine ⟨.map es clock,?_,⟨es,clock,heap_alloc_new w _,h1,h2⟩⟩
 have e:Extern.MapsClone.clone #[.iface t (.map (some b))]=(getObj b >>= fun o=>match o with
   | .map entries clock=>(newObj (.map entries clock) >>= fun n=>pure (.iface t (.map (some n))))
   | _ => stuck "maps.clone: a map expected") := rfl
 rw [e]
 simp [MapKept.run_getObj_map hb,Result.andThen]
end
section
variable {P:Program} {ops:Array Oper} {rest:List Oper} {o:Oper} {a:Act} {Q:Exit→Act→World→Prop} {b:Nat} {kv:List (Int × Value)}
end
end Go.Ext
end
section
namespace Go.Proofs.YtniknicnnaiilaaGreat
open Go.RowKit Go.Ext
structure Ev where
 kind:Int
 tick:Int
 ref:Int
 id:Int
 list:Int
 n:Int
 data:List UInt8
structure Opn where
 kind:Int
 id:Int
 works:Int
structure FS where
 id:Int
 run:Int
 list:Int
 n:Int
 l:List Ev
 task:Int
 place:Int
 begun:Int
 turn:Int
 late:Bool
 asked:Bool
 op:List (Int × Opn)
structure Out where
 kind:Int
 list:Int
 ref:Int
 turn:Int
 tick:Int
 id:Int
 n:Int
 data:List UInt8
structure Dec where
 kind:Int
 id:Int
 list:Int
 n:Int
 data:List UInt8
def z2r (op:List (Int × Opn)) (kind id:Int):Int:=((op.find? fun x=>x.2.kind==kind && x.2.id==id).map (·.1)).getD 0
def ofF (op:List (Int × Opn)) (works:Int):Int:=((op.find? fun x=>x.2.kind==7 && x.2.works==works).map (·.1)).getD 0
def atF (F:FS):Int:=F.l.length+1
def putF (F:FS) (e:Ev):FS :=
 if e.kind=1 then { F with l:=F.l++[e],list:=e.list,n:=e.n } else
 if e.kind=2 then { F with l:=F.l++[e],task:=1,place:=atF F,begun:=0,turn:=e.n,late:=false } else
 if e.kind=3 then { F with l:=F.l++[e],task:=2,begun:=atF F,late:=false } else
 if e.kind=4 then { F with l:=F.l++[e],task:=0,turn:=0 } else
 if e.kind=5∨e.kind=6 then { F with l:=F.l++[e],task:=0,turn:=F.turn+1 } else
 if e.kind=7∨e.kind=12∨e.kind=17 then { F with l:=F.l++[e],op:=up F.op (atF F) ⟨e.kind,e.id,0⟩ } else
 if e.kind=8 then { F with l:=F.l++[e],op:=up F.op e.ref ⟨7,e.id,atF F⟩ } else
 if e.kind=14 then { F with l:=F.l++[e],op:=rm F.op e.ref } else
 if e.kind=9∨e.kind=10∨e.kind=11 then { F with l:=F.l++[e],op:=rm F.op (ofF F.op e.ref),late:=F.late || F.task==2 } else
 if e.kind=16 then { F with l:=F.l++[e],asked:=true,op:=rm F.op e.ref,late:=F.late || F.task==2 } else
 if e.kind=13∨e.kind=18 then { F with l:=F.l++[e],op:=rm F.op e.ref,late:=F.late || F.task==2 } else
 if e.kind=15 then { F with l:=F.l++[e],late:=F.late || F.task==2 } else
 { F with l:=F.l++[e],task:=0,op:=[] }
def z1P (k:Int):Int:=if k=19 then 6 else if k=20 then 2 else if k=21 then 3 else if k=22 then 4 else if k=23 then 5 else 1
def z0B (l:List Ev):Int:=match l.getLast? with | none=>0 | some e=>z1P e.kind
def z1L (F:FS) (data:List UInt8) (now:Int):Bool:=decide (data.length≤4096) && decide (0≤now) && decide (now≤1099511627776) && (match F.l.getLast? with | none=>true | some e=>decide (e.tick≤now))
def z1n (F:FS) (ref turn:Int):Bool :=
 if turn=-1 then (match lk F.op ref with | some x=>x.kind==7 && x.works==0 | none=>false) else F.task==1 && F.place==ref && F.turn==turn
def z07 (F:FS) (now:Int):FS × List Out:=(putF F ⟨2,now,0,0,F.list,F.turn,[]⟩,[⟨1,F.list,atF F,F.turn,0,0,0,[]⟩])
def z0T (F:FS) (now:Int):FS × List Out:=if F.task=0 then z07 F now else (F,[])
def z0J (F:FS) (kind:Int) (data:List UInt8) (now:Int):FS × List Out :=
 (putF F ⟨kind,now,0,0,0,0,data⟩,if kind=19 then [⟨8,0,0,0,0,0,0,data⟩] else [⟨7,0,0,0,0,0,z1P kind,data⟩])
abbrev FR:=FS × List Out × Int
def ok (x:FS × List Out):FR:=(x.1,x.2,0)
def tryF (F:FS) (data:List UInt8) (now:Int) (act:FS→FR):FR :=
 if z1L F data now=false then (F,[],1) else
 if z0B F.l≠1 then (F,[],20) else
 if (act F).2.2≠0∧(act F).1.l.length=F.l.length then (F,[],(act F).2.2) else
 if 4096<(act F).1.l.length then (F,[],4) else act F
def z4O (data:List UInt8) (now:Int) (F:FS):FR:=ok (z0T (putF F ⟨15,now,0,0,0,0,data⟩) now)
def z21 (now:Int) (F:FS):FR:=if F.asked then (F,[],3) else ok (z0T (putF F ⟨16,now,0,0,0,0,[]⟩) now)
def z1m (data:List UInt8) (now:Int) (F:FS):FR:=ok (z0J F 23 data now)
def z0Q (ref turn now:Int) (F:FS):FR :=
 if turn<0∨z1n F ref turn=false then (F,[],21) else (putF F ⟨3,now,ref,0,0,0,[]⟩,[⟨3,0,ref,turn,now+F.n,0,0,[]⟩],0)
def z2H (ref now:Int) (F:FS):FR :=
 if z1n F ref (-1)=false then (F,[],21) else
 match F.l[(ref-1).toNat]? with
 | none=>(F,[],21)
 | some a=>(putF F ⟨8,now,ref,a.id,0,0,[]⟩,[⟨4,0,ref,0,now+a.n,0,0,[]⟩],0)
def z2q (kind ref:Int) (data:List UInt8) (now:Int) (F:FS):FR :=
 match lk F.op ref with
 | none=>(F,[],21)
 | some x=>if x.kind≠7∨x.works=0 then (F,[],21) else ok (z0T (putF F ⟨kind,now,x.works,x.id,0,0,data⟩) now)
def z1r (ref turn now:Int) (F:FS):FR :=
 if F.task≠2∨F.place≠ref∨F.turn≠turn then (F,[],21) else ok (z07 (putF F ⟨5,now,F.begun,0,0,0,[]⟩) now)
def z1x (ref turn now:Int) (F:FS):FR:=if turn≠0 then (F,[],21) else z2q 11 ref [] now F
def z29 (ref turn now:Int) (F:FS):FR :=
 match lk F.op ref with
 | none=>(F,[],21)
 | some t=>if t.kind≠12∨turn≠0 then (F,[],21) else ok (z0T (putF F ⟨13,now,ref,t.id,0,0,[]⟩) now)
def z0x (id status:Int) (data:List UInt8) (now:Int) (F:FS):FR :=
 if z2r F.op 17 id=0 then (F,[],21) else
 if status<0∨6<status then (F,[],1) else ok (z0T (putF F ⟨18,now,z2r F.op 17 id,id,0,status,data⟩) now)
def z2o (n:Int):Bool:=decide (1≤n) && decide (n≤1048576)
def numB (n:Int):Bool:=decide (0≤n) && decide (n≤1048576)
def mayF (d:Dec):Bool :=
 decide (1≤d.kind) && decide (d.kind≤8) &&
 (decide (d.kind≤4) || d.id==0) && (d.kind==1 || d.kind==4 || d.list==0) && (d.kind==1 || d.kind==4 || d.kind==2 || d.n==0) &&
 (d.kind==1 || d.kind==4 || d.kind==5 || d.kind==6 || d.kind==8 || d.data.isEmpty) &&
 numB d.id && numB d.list && (!(d.kind==1 || d.kind==4 || d.kind==2) || z2o d.n) && decide (d.data.length≤4096)
abbrev IdS:=Int × Int→Bool
def isOf (op:List (Int × Opn)):IdS:=fun p=>op.any fun x=>x.2.kind==p.1 && x.2.id==p.2
def z2t (k:Int):Int:=if k=1 then 7 else if k=2 then 12 else 17
def takeB (is:IdS) (d:Dec):Bool:=if d.kind=3 then is (12,d.id) else if d.kind=1∨d.kind=2∨d.kind=4 then !is (z2t d.kind,d.id) else true
def z37 (is:IdS) (d:Dec):IdS :=
 if d.kind=3 then (fun p=>if p=(12,d.id) then false else is p) else if d.kind=1∨d.kind=2∨d.kind=4 then (fun p=>decide (p=(z2t d.kind,d.id)) || is p) else is
def z2j (id:Int) (asked:Bool) (is:IdS) (d:Dec) (last:Bool):Bool :=
 !mayF d || (decide (5≤d.kind) && !last) || !takeB is d || (d.kind==4 && d.id==id) || (d.kind==7 && !asked)
def badL (id:Int) (asked:Bool):IdS→List Dec→Bool
 | _,[]=>false
 | is,d::r=>z2j id asked is d r.isEmpty || badL id asked (z37 is d) r
def badF (F:FS) (l:List Dec):Bool:=decide (32<l.length) || badL F.id F.asked (isOf F.op) l
def z0y (F:FS) (n now:Int):FS × List Out:=z07 (putF F ⟨6,now,F.begun,0,0,n,[]⟩) now
def z2X (k:Int):Int:=if k=5 then 20 else if k=6 then 21 else if k=7 then 22 else if k=8 then 19 else 0
def z0d (F:FS) (d:Dec) (now:Int):FS × List Out :=
 if d.kind=1 then (putF F ⟨7,now,0,d.id,d.list,d.n,d.data⟩,[⟨2,d.list,atF F,0,0,0,0,[]⟩]) else
 if d.kind=2 then (putF F ⟨12,now,0,d.id,d.list,d.n,d.data⟩,[⟨5,0,atF F,0,now+d.n,0,0,[]⟩]) else
 if d.kind=4 then (putF F ⟨17,now,0,d.id,d.list,d.n,d.data⟩,[⟨6,d.list,atF F,0,0,d.id,d.n,d.data⟩]) else
 if d.kind=3 then (putF F ⟨14,now,z2r F.op 12 d.id,d.id,d.list,d.n,d.data⟩,[]) else
 z0J F (z2X d.kind) d.data now
def z0n (now:Int):FS × List Out→List Dec→FS × List Out
 | x,[]=>x
 | x,d::r=>z0n now ((z0d x.1 d now).1,x.2++(z0d x.1 d now).2) r
def z6R (l:List Dec):Bool:=match l.getLast? with | none=>false | some d=>decide (5≤d.kind)
def z1p (ref turn:Int) (l:List Dec) (now:Int) (F:FS):FR :=
 if F.task≠2∨F.place≠ref∨F.turn≠turn then (F,[],21) else
 if badF F l then ((z0y F 1 now).1,(z0y F 1 now).2,22) else
 if F.late=true∧z6R l=true then ((z0y F 2 now).1,(z0y F 2 now).2,23) else
 if F.late=true∧z0B (z0n now (putF F ⟨4,now,F.begun,0,0,0,[]⟩,[]) l).1.l=1 then
  ok ((z07 (z0n now (putF F ⟨4,now,F.begun,0,0,0,[]⟩,[]) l).1 now).1,(z0n now (putF F ⟨4,now,F.begun,0,0,0,[]⟩,[]) l).2++(z07 (z0n now (putF F ⟨4,now,F.begun,0,0,0,[]⟩,[]) l).1 now).2)
 else ok (z0n now (putF F ⟨4,now,F.begun,0,0,0,[]⟩,[]) l)
def f0 (id run:Int):FS:=⟨id,run,0,0,[],0,0,0,0,false,false,[]⟩
def newF (id run list n:Int) (data:List UInt8) (now:Int):Option (FS × List Out) :=
 if numB id && z2o run && numB list && z2o n && z1L (f0 id run) data now then some (z07 (putF (f0 id run) ⟨1,now,0,0,list,n,data⟩) now) else none
def z3B (F:FS) (data:List UInt8) (now:Int):FR:=tryF F data now (z4O data now)
def z3q (F:FS) (now:Int):FR:=tryF F [] now (z21 now)
def z1a (F:FS) (data:List UInt8) (now:Int):FR:=tryF F data now (z1m data now)
def z1z (F:FS) (ref turn now:Int):FR:=tryF F [] now (z0Q ref turn now)
def z2p (F:FS) (ref turn:Int) (l:List Dec) (now:Int):FR:=tryF F [] now (z1p ref turn l now)
def z3F (F:FS) (ref now:Int):FR:=tryF F [] now (z2H ref now)
def z2N (F:FS) (ref:Int) (data:List UInt8) (good:Bool) (now:Int):FR:=tryF F data now (z2q (if good then 9 else 10) ref data now)
def z1F (F:FS) (kind ref turn now:Int):FR :=
 if kind=3 then tryF F [] now (z1r ref turn now) else if kind=4 then tryF F [] now (z1x ref turn now) else if kind=5 then tryF F [] now (z29 ref turn now) else (F,[],1)
def z0h (F:FS) (id status:Int) (data:List UInt8) (now:Int):FR:=if numB id=false then (F,[],1) else tryF F data now (z0x id status data now)
def z15 (F:FS) (from_:Int):List Ev:=if (F.l.length:Int)<from_ then [] else F.l.drop ((max from_ 1)-1).toNat
def z4K (F:FS):List UInt8:=if z0B F.l=1 then [] else (match F.l.getLast? with | none=>[] | some e=>e.data)
end Go.Proofs.YtniknicnnaiilaaGreat
end
section
namespace Go.Proofs.YtniknicnnaiilaaGreat
open Go.RowKit Go.Ext
abbrev Bl:=Nat→Prop
structure Up (M:Bl) (w:World) (M':Bl) (w':World):Prop where
 mod:Mod M w w'
 old:∀ b,b<w.heap.size→M' b→M b
section
variable {M M' M'':Bl} {w w' w'':World}
theorem Up.refl (M:Bl) (w:World):Up M w M w:=⟨(Gr.refl w).mod M,fun _ _ h=>h⟩
theorem Up.trans (h:Up M w M' w') (k:Up M' w' M'' w''):Up M w M'' w'' :=
 ⟨h.mod.trans k.mod h.old,fun b hb h2=>h.old b hb (k.old b (Nat.lt_of_lt_of_le hb h.mod.size) h2)⟩
theorem Gr.up (g:Gr w w') (M:Bl):Up M w M w':=⟨g.mod M,fun _ _ h=>h⟩
theorem Up.gr (h:Up M w M' w') (g:Gr w' w''):Up M w M' w'':=h.trans (Gr.up g M')
theorem Mod.up {S:Bl} (m:Mod S w w') (hS:∀ b,b<w.heap.size→S b→M b):Up M w M w':=⟨m.mono hS,fun _ _ h=>h⟩
theorem Up.size (h:Up M w M' w'):w.heap.size≤w'.heap.size:=h.mod.size
theorem Up.block (h:Up M w M' w') {b:Nat} (hb:b<w.heap.size) (hM:¬ M b):w'.heap[b]?=w.heap[b]?:=h.mod.block b hb hM
theorem Up.not (h:Up M w M' w') {b:Nat} (hb:b<w.heap.size) (hM:¬ M b):¬ M' b:=fun e=>hM (h.old b hb e)
end
def RdM (w:World) (M:Bl) (A:Option Addr) (xs:List Value):Prop:=xs≠[]→∃ b off,A=some ⟨b,off,none⟩∧¬ M b∧∀ j u,xs[j]?=some u→w.cell? ⟨b,off+j,none⟩=some u
section
variable {M M':Bl} {w w':World} {A:Option Addr} {xs:List Value}
theorem RdM.nil (w:World) (M:Bl) (A:Option Addr):RdM w M A []:=fun h=>absurd rfl h
theorem RdM.rd (h:RdM w M A xs):Rd w A xs:=fun hn=>by
 obtain ⟨b,off,e,_,hc⟩:=h hn
 exact ⟨b,off,e,hc⟩
theorem Rd.m (h:Rd w A xs) (hM:∀ b off,A=some ⟨b,off,none⟩→b<w.heap.size→¬ M b):RdM w M A xs:=fun hn=>by
 obtain ⟨b,off,e,hc⟩:=h hn
 refine ⟨b,off,e,hM b off e ?_,hc⟩
 rcases xs with _ | ⟨x,r⟩
 ·exact absurd rfl hn
 ·exact World.block_lt_of_cell? w _ (hc 0 x rfl)
theorem RdM.up (h:RdM w M A xs) (u:Up M w M' w'):RdM w' M' A xs:=fun hn=>by
 obtain ⟨b,off,e,hM,hc⟩:=h hn
 have hlt:b<w.heap.size:=by
  rcases xs with _ | ⟨x,r⟩
  ·exact absurd rfl hn
  ·exact World.block_lt_of_cell? w _ (hc 0 x rfl)
 exact ⟨b,off,e,u.not hlt hM,fun j v hv=>(World.cell?_of_block (u.block hlt hM)).trans (hc j v hv)⟩
end
def BysM (w:World) (M:Bl) (v:Value) (bs:List UInt8):Prop:=∃ A c,v=.slice A bs.length c∧bs.length≤140737488351232∧RdM w M A (bc bs)∧(A=none→c=0)
def Bys (w:World) (v:Value) (bs:List UInt8):Prop:=∃ A c,v=.slice A bs.length c∧bs.length≤140737488351232∧Rd w A (bc bs)∧(A=none→c=0)
section
variable {M M':Bl} {w w':World} {v:Value} {bs:List UInt8}
theorem BysM.up (h:BysM w M v bs) (u:Up M w M' w'):BysM w' M' v bs:=by
 obtain ⟨A,c,e,h1,h2,h3⟩:=h
 exact ⟨A,c,e,h1,h2.up u,h3⟩
theorem BysM.bys (h:BysM w M v bs):Bys w v bs:=by
 obtain ⟨A,c,e,h1,h2,h3⟩:=h
 exact ⟨A,c,e,h1,h2.rd,h3⟩
theorem Bys.gr (h:Bys w v bs) (g:Gr w w'):Bys w' v bs:=by
 obtain ⟨A,c,e,h1,h2,h3⟩:=h
 exact ⟨A,c,e,h1,h2.gr g,h3⟩
theorem BysM.none (w:World) (M:Bl):BysM w M (.slice none 0 0) []:=⟨.none,0,rfl,by simp,RdM.nil _ _ _,fun _=>rfl⟩
theorem BysM.shape (h:BysM w M v bs):∃ A c,v=.slice A bs.length c:=by
 obtain ⟨A,c,e,_⟩:=h
 exact ⟨A,c,e⟩
theorem BysM.of_own {B:Nat} (h:w.ownsRow B 5 1 v bs.length (bc bs)) (hM:∀ b,B≤b→¬ M b) (hl:bs.length≤140737488351232):BysM w M v bs:=by
 rcases h.2 with ⟨rfl,h0⟩ | ⟨g,cap,cur,rfl,hb,hh,r⟩
 ·have:bs=[]:=List.eq_nil_of_length_eq_zero h0
  subst this
  exact BysM.none _ _
 ·refine ⟨some ⟨g,0,.none⟩,cap,rfl,hl,Rd.m (Rd.of_own h) ?_,fun e=>by cases e⟩
  rintro b off e _
  injection e with e
  injection e with e1
  subst e1
  exact hM _ hb
end
def recC (x:List Int × List UInt8) (d:Value):List Value:=x.1.map (.int .i64)++[d]
def rowC:List (List Int × List UInt8)→List Value→List Value
 | x::xs,d::ds=>recC x d++rowC xs ds
 | _,_=>[]
def DatM (w:World) (M:Bl):List (List Int × List UInt8)→List Value→Prop
 | [],[]=>True
 | x::xs,d::ds=>BysM w M d x.2∧DatM w M xs ds
 | _,_=>False
section
variable {M M':Bl} {w w':World} {m:Nat}
theorem DatM.up (u:Up M w M' w'):∀ {xs:List (List Int × List UInt8)} {ds:List Value},DatM w M xs ds→DatM w' M' xs ds
 | [],[],_=>trivial
 | _::_,_::_,h=>⟨h.1.up u,DatM.up u h.2⟩
 | [],_::_,h=>h.elim
 | _::_,[],h=>h.elim
theorem DatM.len:∀ {xs:List (List Int × List UInt8)} {ds:List Value},DatM w M xs ds→ds.length=xs.length
 | [],[],_=>rfl
 | _::_,_::_,h=>by simp [DatM.len h.2]
 | [],_::_,h=>h.elim
 | _::_,[],h=>h.elim
theorem DatM.get:∀ {xs:List (List Int × List UInt8)} {ds:List Value} {i:Nat} {x:List Int × List UInt8},DatM w M xs ds→xs[i]?=some x→∃ d,ds[i]?=some d∧BysM w M d x.2
 | [],_,i,x,_,h=>by simp at h
 | _::_,[],_,_,h,_=>h.elim
 | y::r,d::ds,0,x,h,hx=>by
  simp only [List.getElem?_cons_zero,Option.some.injEq] at hx
  subst hx
  exact ⟨d,rfl,h.1⟩
 | y::r,d::ds,i+1,x,h,hx=>by
  simp only [List.getElem?_cons_succ] at hx ⊢
  exact DatM.get h.2 hx
theorem DatM.app:∀ {xs ys:List (List Int × List UInt8)} {ds es:List Value},DatM w M xs ds→DatM w M ys es→DatM w M (xs++ys) (ds++es)
 | [],_,[],_,_,k=>k
 | _::_,_,_::_,_,h,k=>⟨h.1,DatM.app h.2 k⟩
 | [],_,_::_,_,h,_=>h.elim
 | _::_,_,[],_,h,_=>h.elim
theorem z5b:∀ (xs:List (List Int × List UInt8)) (ds:List Value),(∀ x∈xs,x.1.length=m)→ds.length=xs.length→(rowC xs ds).length=xs.length * (m+1)
 | [],[],_,_=>by simp [rowC]
 | x::xs,d::ds,h,hl=>by
  have:=z5b xs ds (fun y hy=>h y (List.mem_cons_of_mem _ hy)) (by simpa using hl)
  simp only [rowC,recC,List.length_append,List.length_map,List.length_cons,List.length_nil,this,h x (List.mem_cons_self ..),Nat.add_mul]
  omega
 | [],_::_,_,hl=>by simp at hl
 | _::_,[],_,hl=>by simp at hl
theorem z4y:∀ (xs ys:List (List Int × List UInt8)) (ds es:List Value),ds.length=xs.length→rowC (xs++ys) (ds++es)=rowC xs ds++rowC ys es
 | [],_,[],_,_=>rfl
 | x::xs,ys,d::ds,es,h=>by simp only [List.cons_append,rowC,z4y xs ys ds es (by simpa using h),List.append_assoc]
 | [],_,_::_,_,h=>by simp at h
 | _::_,_,[],_,h=>by simp at h
theorem za4:∀ (xs:List (List Int × List UInt8)) (ds:List Value),(∀ d∈ds,d.oneCell'=true)→∀ u∈rowC xs ds,u.oneCell'=true
 | x::xs,d::ds,h,u,hu=>by
  simp only [rowC,recC,List.mem_append,List.mem_map,List.mem_singleton] at hu
  rcases hu with (⟨n,_,rfl⟩ | rfl) | hu
  ·rfl
  ·exact h _ (List.mem_cons_self ..)
  ·exact za4 xs ds (fun d hd=>h d (List.mem_cons_of_mem _ hd)) u hu
 | [],_,_,u,hu=>by simp [rowC] at hu
 | _::_,[],_,u,hu=>by simp [rowC] at hu
theorem DatM.one:∀ {xs:List (List Int × List UInt8)} {ds:List Value},DatM w M xs ds→∀ d∈ds,d.oneCell'=true
 | [],[],_,d,hd=>by cases hd
 | _::_,e::ds,h,d,hd=>by
  rcases List.mem_cons.1 hd with rfl | hd
  ·obtain ⟨A,c,rfl⟩:=h.1.shape;rfl
  ·exact DatM.one h.2 d hd
 | [],_::_,h,_,_=>h.elim
 | _::_,[],h,_,_=>h.elim
theorem z7b:∀ (xs:List (List Int × List UInt8)) (ds:List Value) (i:Nat) (x:List Int × List UInt8) (d:Value) (j:Nat),(∀ x∈xs,x.1.length=m)→xs[i]?=some x→ds[i]?=some d→j<m+1 →
  (rowC xs ds)[i * (m+1)+j]?=(recC x d)[j]?
 | [],_,_,_,_,_,_,h,_,_=>by simp at h
 | _::_,[],_,_,_,_,_,_,h,_=>by simp at h
 | y::xs,e::ds,0,x,d,j,hm,h,k,hj=>by
  simp only [List.getElem?_cons_zero,Option.some.injEq] at h k
  subst h k
  simp only [rowC,Nat.zero_mul,Nat.zero_add]
  rw [List.getElem?_append_left]
  simp [recC,hm y (List.mem_cons_self ..)]
  omega
 | y::xs,e::ds,i+1,x,d,j,hm,h,k,hj=>by
  simp only [List.getElem?_cons_succ] at h k
  have hl:(recC y e).length=m+1:=by simp [recC,hm y (List.mem_cons_self ..)]
  simp only [rowC]
  rw [List.getElem?_append_right (by rw [hl,Nat.add_mul];omega),hl,show (i+1) * (m+1)+j-(m+1)=i * (m+1)+j by rw [Nat.add_mul];omega]
  exact z7b xs ds i x d j (fun y hy=>hm y (List.mem_cons_of_mem _ hy)) h k hj
end
def z08 {α:Type} (r:α→List Int × List UInt8) (w:World) (M:Bl) (v:Value) (xs:List α):Prop :=
 ∃ A c ds,v=.slice A xs.length c∧xs.length≤c∧DatM w M (xs.map r) ds∧RdM w M A (rowC (xs.map r) ds)∧(A=none→c=0)
section
variable {α:Type} {r:α→List Int × List UInt8} {M M':Bl} {w w':World} {v:Value} {xs:List α} {m:Nat}
theorem z08.up (h:z08 r w M v xs) (u:Up M w M' w'):z08 r w' M' v xs:=by
 obtain ⟨A,c,ds,e,hc,h1,h2,h3⟩:=h
 exact ⟨A,c,ds,e,hc,h1.up u,h2.up u,h3⟩
theorem z08.none (r:α→List Int × List UInt8) (w:World) (M:Bl):z08 r w M (.slice none 0 0) []:=⟨.none,0,[],rfl,by simp,trivial,RdM.nil _ _ _,fun _=>rfl⟩
theorem z08.at_ {A:Option Addr} {n c:Nat} {i:Nat} {x:α} (h:z08 r w M (.slice A n c) xs) (hm:∀ x,(r x).1.length=m) (hx:xs[i]?=some x) :
  ∃ b off d,A=some ⟨b,off,.none⟩∧b<w.heap.size∧¬ M b∧BysM w M d (r x).2∧∀ j u,(recC (r x) d)[j]?=some u→w.cell? ⟨b,off+i * (m+1)+j,.none⟩=some u:=by
 obtain ⟨A',c',ds,e,hc,h1,h2,h3⟩:=h
 injection e with e1 e2 e3
 subst e1 e2 e3
 have hx':(xs.map r)[i]?=some (r x):=by rw [List.getElem?_map,hx];rfl
 obtain ⟨d,hd,hb⟩:=h1.get hx'
 have hm':∀ y∈xs.map r,y.1.length=m:=fun y hy=>by
  obtain ⟨z,_,rfl⟩:=List.mem_map.1 hy
  exact hm z
 have hg:=fun j hj=>z7b (xs.map r) ds i (r x) d j hm' hx' hd hj
 have hne:rowC (xs.map r) ds≠[]:=fun e=>by
  have:=hg 0 (by omega)
  rw [e] at this
  cases hr:(r x).1<;>simp [recC,hr] at this
 obtain ⟨b,off,rfl,hM,hcell⟩:=h2 hne
 have hall:∀ j u,(recC (r x) d)[j]?=some u→w.cell? ⟨b,off+i * (m+1)+j,.none⟩=some u:=fun j u hu=>by
  have hj:j<m+1:=by
   have:=(List.getElem?_eq_some_iff.1 hu).1
   simpa [recC,hm x] using this
  rw [Nat.add_assoc]
  exact hcell _ u ((hg j hj).trans hu)
 refine ⟨b,off,d,rfl,?_,hM,hb,hall⟩
 obtain ⟨u,hu⟩:∃ u,(recC (r x) d)[0]?=some u:=by
  have:0<(recC (r x) d).length:=by simp [recC]
  exact ⟨_,List.getElem?_eq_getElem this⟩
 exact World.block_lt_of_cell? w _ (hall 0 u hu)
theorem z08.shape (h:z08 r w M v xs):∃ A c,v=.slice A xs.length c∧xs.length≤c:=by
 obtain ⟨A,c,ds,e,hc,_⟩:=h
 exact ⟨A,c,e,hc⟩
end
def evR (e:Ev):List Int × List UInt8:=([e.kind,e.tick,e.ref,e.id,e.list,e.n],e.data)
def outR (o:Out):List Int × List UInt8:=([o.kind,o.list,o.ref,o.turn,o.tick,o.id,o.n],o.data)
def decR (d:Dec):List Int × List UInt8:=([d.kind,d.id,d.list,d.n],d.data)
theorem z14 (e:Ev):(evR e).1.length=6:=rfl
theorem ze3 (o:Out):(outR o).1.length=7:=rfl
theorem z9x (d:Dec):(decR d).1.length=4:=rfl
def evV (e:Ev) (d:Value):Value:=.agg #[.int .i64 e.kind,.int .i64 e.tick,.int .i64 e.ref,.int .i64 e.id,.int .i64 e.list,.int .i64 e.n,d]
def opV (o:Opn):Value:=.agg #[.int .i64 o.kind,.int .i64 o.id,.int .i64 o.works]
def z2C (F:FS) (v:Value) (mb:Nat):Array Value :=
 #[.int .i64 F.id,.int .i64 F.run,.int .i64 F.list,.int .i64 F.n,v,.int .i64 F.task,.int .i64 F.place,.int .i64 F.begun,.int .i64 F.turn,.bool F.late,.bool F.asked,.map (some mb)]
structure z0H (w:World) (M:Bl) (k mb:Nat) (F:FS):Prop where
 row:∃ v,w.heap[k]?=some (.cells (z2C F v mb) 157 (0,0))∧z08 evR w M v F.l
 map:MI w mb (mp opV F.op)
def z0O (w:World) (M:Bl) (k:Nat) (F:FS):Prop:=∃ mb,¬ M mb∧z0H w M k mb F
def z7s (w:World) (M:Bl) (k:Nat) (F:FS):Prop:=¬ M k∧z0O w M k F
section
variable {M M':Bl} {w w':World} {k mb:Nat} {F:FS}
theorem z0H.lt (h:z0H w M k mb F):k<w.heap.size∧mb<w.heap.size:=by
 obtain ⟨v,h1,h2⟩:=h.row
 exact ⟨(Array.getElem?_eq_some_iff.1 h1).1,h.map.lt⟩
theorem z0H.up (h:z0H w M k mb F) (u:Up M w M' w') (hk:w'.heap[k]?=w.heap[k]?) (hm:w'.heap[mb]?=w.heap[mb]?):z0H w' M' k mb F:=by
 obtain ⟨v,h1,h2⟩:=h.row
 exact ⟨⟨v,hk.trans h1,h2.up u⟩,h.map.keep hm⟩
theorem z0H.gr (h:z0H w M k mb F) (g:Gr w w'):z0H w' M k mb F:=h.up (Gr.up g M) (g.block _ h.lt.1) (g.block _ h.lt.2)
theorem z0O.gr (h:z0O w M k F) (g:Gr w w'):z0O w' M k F:=by
 obtain ⟨mb,hM,h⟩:=h
 exact ⟨mb,hM,h.gr g⟩
theorem z7s.up (h:z7s w M k F) (u:Up M w M' w'):z7s w' M' k F:=by
 obtain ⟨hk,mb,hM,h⟩:=h
 exact ⟨u.not h.lt.1 hk,mb,u.not h.lt.2 hM,h.up u (u.block h.lt.1 hk) (u.block h.lt.2 hM)⟩
end
end Go.Proofs.YtniknicnnaiilaaGreat
end
