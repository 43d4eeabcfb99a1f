/- For every input EngineSplits returns true, and each argument reads afterwards as it read before; no condition. -/
import Derived.Test.YtniknicnnaiilaaGreatSplits7
import Derived.Test.YtniknicnnaiilaaGreatSplits8
namespace Go.Proofs.YtniknicnnaiilaaGreat
open Go.RowKit Go.Ext Go.ChangeShapes Go.WideShapes Go.ChangeAt Go.Joins
set_option maxRecDepth 100000 in
theorem splits_lifted (os:Os) (started:os.Started) (H:Type) (enc:TypeId × Value→H) :
  ReturnsInHanded {} Tryz.checked os 10 .any (Rows.engineSplitsSpec.pre6 enc Tryz.prog Tryz.f10 Rows.engineSplitsRow.domain false) (Rows.engineSplitsSpec.post enc Tryz.prog Tryz.f10 false true false false):=by
 refine returnsInHanded_of_change_sized (C:=Tryz.checked) Tryz.own started (by kernel_rfl) Tryz.func10
  (ChangeSpec.witness6 (enc:=enc) (C:=Tryz.checked) false ⟨#[],#[.slice none 0 0,.int .i64 0,.slice none 0 0],[]⟩ 8 (by kernel_rfl) (by kernel_rfl) (by kernel_rfl) (by kernel_rfl)) ?_
 intro W base args ds gs before hval0 hW hcnd hsz _
 have hval:∀ (j:Nat) t v,Tryz.f10.params[j]?=some t→args[j]?=some v→Value.okWide Tryz.prog W .any base t v:=hval0
 have hW':=hW
 obtain ⟨p,q,hA0,hV,rfl,hfz,hnd⟩:=hW
 have hA:DataW.TrodAll enc Tryz.prog W 0 (fun _=>true) true Tryz.f10.params.toList args.toList ds p:=hA0
 have hz:∀ n∈DataW.weightsEach Tryz.prog (Tryz.f10.params.toList++Rows.engineSplitsSpec.plain.varTypes Tryz.prog) (ds++gs),n≤reachBytes:=fun n hn=>by
  have:=List.all_eq_true.1 hsz n hn
  simpa using this
 rw [Tryz.params10] at hA hval hz
 obtain ⟨v0,vs0,d0,ds0,p0,q0,hargs,rfl,rfl,h0,r0⟩:=trodAll_cons hA
 obtain ⟨v1,vs1,d1,ds1,p1,q1,rfl,rfl,rfl,h1,r1⟩:=trodAll_cons r0
 obtain ⟨v2,vs2,d2,ds2,p2,q2,rfl,rfl,rfl,h2,r2⟩:=trodAll_cons r1
 obtain ⟨rfl,rfl,rfl⟩:=trodAll_nil r2
 obtain rfl:args=#[v0,v1,v2]:=by cases args;simp_all
 obtain ⟨rfl,rfl⟩:=trodVars_none hV
 obtain ⟨xs0,A0,c0,rfl,hx0,hn0⟩:=z5f (hval 0 50 v0 rfl rfl) h0 (fun n hn=>hz n (DataW.weights_mem_each (j:=0) rfl rfl n hn))
 obtain ⟨a1,rfl,_,_,_⟩:=open_int Tryz.underlying3 (hval 1 3 v1 rfl rfl) h1
 obtain ⟨A2,n2,c2,rfl,hi2,_⟩:=z6l (hval 2 56 v2 rfl rfl) h2 (fun n hn=>hz n (DataW.weights_mem_each (j:=2) rfl rfl n hn))
 clear hA0 hval0 hA hval
 refine (zb0 A0 c0 xs0 a1 A2 n2 c2 W hx0 hn0 hi2).mono fun e W' ⟨he,y,hy⟩=>?_
 subst he hy
 exact ⟨_,rfl,z2R Tryz.laidOut (by kernel_rfl) rfl Tryz.underlying4 rfl hW' rfl y.gr⟩
theorem splits_holds:Rows.EngineSplitsSaid :=
 OpenClaim.holds_of_wide 10 Tryz.f10 rfl rfl rfl rfl rfl rfl rfl ⟨rfl,rfl,rfl,rfl,rfl⟩ rfl rfl rfl rfl rfl (by kernel_rfl) Tryz.func10 (by kernel_rfl)
  (of_decide_eq_true (by kernel_rfl)) (by unfold Func.isWrapper;first | (rw [if_pos (by decide +kernel)];kernel_rfl) | (rw [if_neg (by decide +kernel)];exact ⟨rfl,rfl⟩))
  (fun os started H enc _=>splits_lifted os started H enc)
#print axioms splits_holds
end Go.Proofs.YtniknicnnaiilaaGreat
