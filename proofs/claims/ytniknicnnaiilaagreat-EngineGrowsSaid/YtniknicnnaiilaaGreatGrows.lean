/- For every input EngineGrows returns true, and each argument reads afterwards as it read before; no condition. -/
import Derived.Test.YtniknicnnaiilaaGreatGrows6
import Derived.Test.YtniknicnnaiilaaGreatGrows7
namespace Go.Proofs.YtniknicnnaiilaaGreat
open Go.RowKit Go.Ext Go.ChangeShapes Go.WideShapes Go.ChangeAt Go.Joins
set_option maxRecDepth 100000 in
theorem grows_lifted (os:Os) (started:os.Started) (H:Type) (enc:TypeId × Value→H) :
  ReturnsInHanded {} Tryz.checked os 11 .any (Rows.engineGrowsSpec.pre6 enc Tryz.prog Tryz.f11 Rows.engineGrowsRow.domain false) (Rows.engineGrowsSpec.post enc Tryz.prog Tryz.f11 false true false false):=by
 refine returnsInHanded_of_change_sized (C:=Tryz.checked) Tryz.own started (by kernel_rfl) Tryz.func11
  (ChangeSpec.witness6 (enc:=enc) (C:=Tryz.checked) false ⟨#[],#[.slice none 0 0],[]⟩ 8 (by kernel_rfl) (by kernel_rfl) (by kernel_rfl) (by kernel_rfl)) ?_
 intro W base args ds gs before hval0 hW hcnd hsz _
 have hval:∀ (j:Nat) t v,Tryz.f11.params[j]?=some t→args[j]?=some v→Value.okWide Tryz.prog W .any base t v:=hval0
 have hW':=hW
 obtain ⟨p,q,hA0,hV,rfl,hfz,hnd⟩:=hW
 have hA:DataW.TrodAll enc Tryz.prog W 0 (fun _=>true) true Tryz.f11.params.toList args.toList ds p:=hA0
 have hz:∀ n∈DataW.weightsEach Tryz.prog (Tryz.f11.params.toList++Rows.engineGrowsSpec.plain.varTypes Tryz.prog) (ds++gs),n≤reachBytes:=fun n hn=>by
  have:=List.all_eq_true.1 hsz n hn
  simpa using this
 rw [Tryz.params11] at hA hval hz
 obtain ⟨v0,vs0,d0,ds0,p0,q0,hargs,rfl,rfl,h0,r0⟩:=trodAll_cons hA
 obtain ⟨rfl,rfl,rfl⟩:=trodAll_nil r0
 obtain rfl:args=#[v0]:=by cases args;simp_all
 obtain ⟨rfl,rfl⟩:=trodVars_none hV
 obtain ⟨xs0,A0,c0,rfl,hx0,hn0⟩:=z5f (hval 0 50 v0 rfl rfl) h0 (fun n hn=>hz n (DataW.weights_mem_each (j:=0) rfl rfl n hn))
 clear hA0 hval0 hA hval
 refine (zc7 A0 c0 xs0 W hx0 hn0).mono fun e W' ⟨he,y,hy⟩=>?_
 subst he hy
 exact ⟨_,rfl,z2R Tryz.laidOut (by kernel_rfl) rfl Tryz.underlying4 rfl hW' rfl y.gr⟩
theorem grows_holds:Rows.EngineGrowsSaid :=
 OpenClaim.holds_of_wide 11 Tryz.f11 rfl rfl rfl rfl rfl rfl rfl ⟨rfl,rfl,rfl,rfl,rfl⟩ rfl rfl rfl rfl rfl (by kernel_rfl) Tryz.func11 (by kernel_rfl)
  (of_decide_eq_true (by kernel_rfl)) (by unfold Func.isWrapper;first | (rw [if_pos (by decide +kernel)];kernel_rfl) | (rw [if_neg (by decide +kernel)];exact ⟨rfl,rfl⟩))
  (fun os started H enc _=>grows_lifted os started H enc)
#print axioms grows_holds
end Go.Proofs.YtniknicnnaiilaaGreat
