/- ModelRuns: the given statement, proved for every input: the law's Go text returns true and writes nothing that was there.
   No condition beyond the given row's own. -/
import Derived.Test.YtmomjpolkkbhnaaGreatRows
import Derived.Test.YtmomjpolkkbhnaaGreatQModelRunsRow42
set_option linter.unusedVariables false
set_option maxHeartbeats 100000000
set_option linter.unusedSimpArgs false
open Go.Proofs.Tryz
namespace Go.Proofs.YtmomjpolkkbhnaaGreat.modelRunsDone
open Go.ChangeShapes Go.WideShapes Go.ChangeAt Go.RowKit
theorem own:ownKnob prog.godebug=none:=by kernel_rfl
theorem laidOut:laidOutB prog=true:=by kernel_rfl
set_option maxRecDepth 100000 in
theorem lifted(os:Os)(started:os.Started)(H:Type)(enc:TypeId × Value→H) :
  ReturnsInHanded {} Tryz.checked os 7 .any (Rows.modelRunsSpec.pre6 enc prog Tryz.f7 Rows.modelRunsRow.domain false) (Rows.modelRunsSpec.post enc prog Tryz.f7 false true false false):=by
 refine returnsInHanded_of_change_sized (C:=Tryz.checked) own started jk func7
  (ChangeSpec.witness6 (enc:=enc) (C:=Tryz.checked) false ⟨#[],#[.slice none 0 0,.slice none 0 0,.agg #[.int .i64 0,.int .i64 0,.int .i64 0,.slice none 0 0,.slice none 0 0,.slice none 0 0,.int .i64 0,.int .i64 0,.int .i64 0,.int .i64 0],.agg #[.int .i64 0,.int .i64 0,.int .i64 0,.slice none 0 0,.slice none 0 0,.slice none 0 0,.int .i64 0,.int .i64 0,.int .i64 0,.int .i64 0]],[]⟩ 8 jk jk jk jk) ?_
 intro W base args ds gs before hval0 hW hcnd hsz0 _;have hval:∀(j:Nat) t v,Tryz.f7.params[j]?=some t→args[j]?=some v→Value.okWide prog W .any base t v:=hval0;have hsz:(DataW.weightsEach prog (Tryz.f7.params.toList++Rows.modelRunsSpec.plain.varTypes prog) (ds++gs)).all (·≤reachBytes)=true:=hsz0;have hW':=hW;obtain⟨p,q,hA0,hV,rfl,hfz,hnd⟩:=hW;have hA:DataW.TrodAll enc prog W 0 (fun _=>true) true Tryz.f7.params.toList args.toList ds p:=hA0;rw[Tryz.params7]at hA hval hsz;obtain⟨v0,vs0,d0,ds0,p0,q0,hargs,rfl,rfl,h0,r0⟩:=trodAll_cons hA;obtain⟨v1,vs1,d1,ds1,p1,q1,rfl,rfl,rfl,h1,r1⟩:=trodAll_cons r0;obtain⟨v2,vs2,d2,ds2,p2,q2,rfl,rfl,rfl,h2,r2⟩:=trodAll_cons r1;obtain⟨v3,vs3,d3,ds3,p3,q3,rfl,rfl,rfl,h3,r3⟩:=trodAll_cons r2;obtain⟨rfl,rfl,rfl⟩:=trodAll_nil r3;obtain rfl:args=#[v0,v1,v2,v3]:=by cases args;simp_all
 obtain⟨rfl,rfl⟩:=trodVars_none hV;have k0:=h0;have lt0:∀x∈p0,x.block<W.heap.size:=by obtain⟨m,hm⟩:=k0;exact DataW.trod_lt m _ _ _ hm
 have wt0:=qZ hsz (j:=0) (t:=22) (d:=d0) rfl rfl;obtain⟨A0,n0,c0,L0,T0,e0,O0,P0⟩:=Md.Bb (hval 0 22 v0 rfl rfl) h0 wt0;subst e0;have k1:=h1;have lt1:∀x∈p1,x.block<W.heap.size:=by obtain⟨m,hm⟩:=k1;exact DataW.trod_lt m _ _ _ hm
 have wt1:=qZ hsz (j:=1) (t:=22) (d:=d1) rfl rfl;obtain⟨A1,n1,c1,L1,T1,e1,O1,P1⟩:=Md.Bb (hval 1 22 v1 rfl rfl) h1 wt1;subst e1;have k2:=h2;have lt2:∀x∈p2,x.block<W.heap.size:=by obtain⟨m,hm⟩:=k2;exact DataW.trod_lt m _ _ _ hm
 have wt2:=qZ hsz (j:=2) (t:=42) (d:=d2) rfl rfl;obtain⟨cs2,a2,e2,Q2⟩:=Md.Ch (hval 2 42 v2 rfl rfl) h2 wt2;subst e2;have k3:=h3;have lt3:∀x∈p3,x.block<W.heap.size:=by obtain⟨m,hm⟩:=k3;exact DataW.trod_lt m _ _ _ hm
 have wt3:=qZ hsz (j:=3) (t:=42) (d:=d3) rfl rfl;obtain⟨cs3,a3,e3,Q3⟩:=Md.Ch (hval 3 42 v3 rfl rfl) h3 wt3;subst e3;clear hA0 hval0;refine(Md.KH A0 n0 c0 L0 T0 A1 n1 c1 L1 T1 cs2 cs3 a2 a3 W O0 P0 O1 P1 Q2 Q3).mono fun e W' ⟨he,bel⟩=>?_
 subst he;exact⟨_,rfl,_,_,_,[],_,[],hW',trodAll_mk1 (shut_bool underlying4 _),(trodAll_cons_mk (Below.trod laidOut jk (of_decide_eq_true jk) k0 bel lt0) (trodAll_cons_mk (Below.trod laidOut jk (of_decide_eq_true jk) k1 bel lt1) (trodAll_cons_mk (Below.trod laidOut jk (of_decide_eq_true jk) k2 bel lt2) (trodAll_cons_mk (Below.trod laidOut jk (of_decide_eq_true jk) k3 bel lt3) trodAll_mk0)))),rfl,bel.frame _,fun h=>by cases h⟩
theorem over:Rows.modelRunsRow.holds Tryz.pinned (OpenSpec.ofChange Rows.modelRunsSpec):=
 OpenClaim.holds_of_wide 7 Tryz.f7 rfl rfl rfl rfl rfl rfl rfl ⟨rfl,rfl,rfl,rfl,rfl⟩ rfl rfl rfl rfl rfl jk func7 jk
  (of_decide_eq_true jk) (by unfold Func.isWrapper;first|(rw[zI jq];kernel_rfl)|(rw[zH jq];exact⟨rfl,rfl⟩))
  (fun os started H enc _=>lifted os started H enc)
theorem proved:Rows.ModelRunsSaid:=over
#print axioms proved
end Go.Proofs.YtmomjpolkkbhnaaGreat.modelRunsDone
