/- ModelDoes: the given statement, proved for every input: the law's Go text returns true and writes nothing that was there.
   No condition beyond the given row's own. -/
import Derived.Test.YtmomjpolkkbhnaaGreatRows
import Derived.Test.YtmomjpolkkbhnaaGreatQModelCountsRow1
import Derived.Test.YtmomjpolkkbhnaaGreatQModelDoesRow1
set_option linter.unusedVariables false
set_option maxHeartbeats 100000000
set_option linter.unusedSimpArgs false
open Go.Proofs.Tryz
namespace Go.Proofs.YtmomjpolkkbhnaaGreat.modelDoesDone
open Go.ChangeShapes Go.WideShapes Go.ChangeAt Go.RowKit
theorem own:ownKnob prog.godebug=none:=by kernel_rfl
theorem laidOut:laidOutB prog=true:=by kernel_rfl
set_option maxRecDepth 100000 in
theorem lifted(os:Os)(started:os.Started)(H:Type)(enc:TypeId × Value→H) :
  ReturnsInHanded {} Tryz.checked os 5 .any (Rows.modelDoesSpec.pre6 enc prog Tryz.f5 Rows.modelDoesRow.domain false) (Rows.modelDoesSpec.post enc prog Tryz.f5 false true false false):=by
 refine returnsInHanded_of_change_sized (C:=Tryz.checked) own started jk func5
  (ChangeSpec.witness6 (enc:=enc) (C:=Tryz.checked) false ⟨#[],#[.agg #[.int .i64 0,.int .i64 0,.int .i64 0,.int .i64 0,.int .i64 0,.bool false,.bool false],.slice none 0 0],[]⟩ 8 jk jk jk jk) ?_
 intro W base args ds gs before hval0 hW hcnd hsz0 _;have hval:∀(j:Nat) t v,Tryz.f5.params[j]?=some t→args[j]?=some v→Value.okWide prog W .any base t v:=hval0;have hsz:(DataW.weightsEach prog (Tryz.f5.params.toList++Rows.modelDoesSpec.plain.varTypes prog) (ds++gs)).all (·≤reachBytes)=true:=hsz0;have hW':=hW;obtain⟨p,q,hA0,hV,rfl,hfz,hnd⟩:=hW;have hA:DataW.TrodAll enc prog W 0 (fun _=>true) true Tryz.f5.params.toList args.toList ds p:=hA0;rw[Tryz.params5]at hA hval hsz;obtain⟨v0,vs0,d0,ds0,p0,q0,hargs,rfl,rfl,h0,r0⟩:=trodAll_cons hA;obtain⟨v1,vs1,d1,ds1,p1,q1,rfl,rfl,rfl,h1,r1⟩:=trodAll_cons r0;obtain⟨rfl,rfl,rfl⟩:=trodAll_nil r1;obtain rfl:args=#[v0,v1]:=by cases args;simp_all
 obtain⟨rfl,rfl⟩:=trodVars_none hV;have k0:=h0;have lt0:∀x∈p0,x.block<W.heap.size:=by obtain⟨m,hm⟩:=k0;exact DataW.trod_lt m _ _ _ hm
 have wt0:=jC hsz (j:=0) (t:=25) (d:=d0) rfl rfl;obtain⟨C0,e0,Q0⟩:=Md.JF (hval 0 25 v0 rfl rfl) h0;subst e0;have k1:=h1;have lt1:∀x∈p1,x.block<W.heap.size:=by obtain⟨m,hm⟩:=k1;exact DataW.trod_lt m _ _ _ hm
 have wt1:=jC hsz (j:=1) (t:=22) (d:=d1) rfl rfl;obtain⟨A1,n1,c1,L1,T1,e1,O1,P1⟩:=Md.qC (hval 1 22 v1 rfl rfl) h1 wt1;subst e1;clear hA0 hval0;refine(Md.GX C0 Q0 A1 n1 c1 L1 T1 W O1 P1).mono fun e W' ⟨he,bel⟩=>?_
 subst he;exact⟨_,rfl,_,_,_,[],_,[],hW',trodAll_mk1 (shut_bool underlying4 _),(trodAll_cons_mk (Below.trod laidOut jk (of_decide_eq_true jk) k0 bel lt0) (trodAll_cons_mk (Below.trod laidOut jk (of_decide_eq_true jk) k1 bel lt1) trodAll_mk0)),rfl,bel.frame _,fun h=>by cases h⟩
theorem over:Rows.modelDoesRow.holds Tryz.pinned (OpenSpec.ofChange Rows.modelDoesSpec):=
 OpenClaim.holds_of_wide 5 Tryz.f5 rfl rfl rfl rfl rfl rfl rfl ⟨rfl,rfl,rfl,rfl,rfl⟩ rfl rfl rfl rfl rfl jk func5 jk
  (of_decide_eq_true jk) (by unfold Func.isWrapper;first|(rw[zI jq];kernel_rfl)|(rw[zH jq];exact⟨rfl,rfl⟩))
  (fun os started H enc _=>lifted os started H enc)
theorem proved:Rows.ModelDoesSaid:=over
#print axioms proved
end Go.Proofs.YtmomjpolkkbhnaaGreat.modelDoesDone
