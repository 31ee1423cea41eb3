/- ModelCounts: the given statement, proved for every input: the law's Go text returns true and writes nothing that was there.
   No condition beyond the given row's own. -/
import Derived.Test.YtmomjpolkkbhnaaGreatRows
import Derived.Test.YtmomjpolkkbhnaaGreatQModelCountsRow1
import Derived.Test.YtmomjpolkkbhnaaGreatQModelCountsRow45
set_option linter.unusedVariables false
set_option maxHeartbeats 100000000
set_option linter.unusedSimpArgs false
open Go.Proofs.Tryz
namespace Go.Proofs.YtmomjpolkkbhnaaGreat.modelCountsDone
open Go.ChangeShapes Go.WideShapes Go.ChangeAt Go.RowKit
theorem own:ownKnob prog.godebug=none:=by kernel_rfl
theorem laidOut:laidOutB prog=true:=by kernel_rfl
set_option maxRecDepth 100000 in
theorem lifted(os:Os)(started:os.Started)(H:Type)(enc:TypeId × Value→H) :
  ReturnsInHanded {} Tryz.checked os 3 .any (Rows.modelCountsSpec.pre6 enc prog Tryz.f3 Rows.modelCountsRow.domain false) (Rows.modelCountsSpec.post enc prog Tryz.f3 false true false false):=by
 refine returnsInHanded_of_change_sized (C:=Tryz.checked) own started jk func3
  (ChangeSpec.witness6 (enc:=enc) (C:=Tryz.checked) false ⟨#[],#[.slice none 0 0,.string ByteArray.empty,.int .i64 0,.int .i64 0,.int .i64 0],[]⟩ 8 jk jk jk jk) ?_
 intro W base args ds gs before hval0 hW hcnd hsz0 _;have hval:∀(j:Nat) t v,Tryz.f3.params[j]?=some t→args[j]?=some v→Value.okWide prog W .any base t v:=hval0;have hsz:(DataW.weightsEach prog (Tryz.f3.params.toList++Rows.modelCountsSpec.plain.varTypes prog) (ds++gs)).all (·≤reachBytes)=true:=hsz0;have hW':=hW;obtain⟨p,q,hA0,hV,rfl,hfz,hnd⟩:=hW;have hA:DataW.TrodAll enc prog W 0 (fun _=>true) true Tryz.f3.params.toList args.toList ds p:=hA0;rw[Tryz.params3]at hA hval hsz;obtain⟨v0,vs0,d0,ds0,p0,q0,hargs,rfl,rfl,h0,r0⟩:=trodAll_cons hA;obtain⟨v1,vs1,d1,ds1,p1,q1,rfl,rfl,rfl,h1,r1⟩:=trodAll_cons r0;obtain⟨v2,vs2,d2,ds2,p2,q2,rfl,rfl,rfl,h2,r2⟩:=trodAll_cons r1;obtain⟨v3,vs3,d3,ds3,p3,q3,rfl,rfl,rfl,h3,r3⟩:=trodAll_cons r2;obtain⟨v4,vs4,d4,ds4,p4,q4,rfl,rfl,rfl,h4,r4⟩:=trodAll_cons r3;obtain⟨rfl,rfl,rfl⟩:=trodAll_nil r4;obtain rfl:args=#[v0,v1,v2,v3,v4]:=by cases args;simp_all
 obtain⟨rfl,rfl⟩:=trodVars_none hV;have k0:=h0;have lt0:∀x∈p0,x.block<W.heap.size:=by obtain⟨m,hm⟩:=k0;exact DataW.trod_lt m _ _ _ hm
 have wt0:=jC hsz (j:=0) (t:=22) (d:=d0) rfl rfl;obtain⟨A0,n0,c0,L0,T0,e0,O0,P0⟩:=Md.qC (hval 0 22 v0 rfl rfl) h0 wt0;subst e0;have k1:=h1;have lt1:∀x∈p1,x.block<W.heap.size:=by obtain⟨m,hm⟩:=k1;exact DataW.trod_lt m _ _ _ hm
 have wt1:=jC hsz (j:=1) (t:=9) (d:=d1) rfl rfl;obtain⟨s1,e1,w1⟩:=JG underlying9 (hval 1 9 v1 rfl rfl) h1 wt1;subst e1;have k2:=h2;have lt2:∀x∈p2,x.block<W.heap.size:=by obtain⟨m,hm⟩:=k2;exact DataW.trod_lt m _ _ _ hm
 obtain⟨a2,e2,_,_,w2⟩:=open_int underlying3 (hval 2 3 v2 rfl rfl) h2;subst e2;have k3:=h3;have lt3:∀x∈p3,x.block<W.heap.size:=by obtain⟨m,hm⟩:=k3;exact DataW.trod_lt m _ _ _ hm
 obtain⟨a3,e3,_,_,w3⟩:=open_int underlying3 (hval 3 3 v3 rfl rfl) h3;subst e3;have k4:=h4;have lt4:∀x∈p4,x.block<W.heap.size:=by obtain⟨m,hm⟩:=k4;exact DataW.trod_lt m _ _ _ hm
 obtain⟨a4,e4,_,_,w4⟩:=open_int underlying3 (hval 4 3 v4 rfl rfl) h4;subst e4;clear hA0 hval0;refine(Md.Ci A0 n0 c0 L0 T0 s1 a2 a3 a4 w4 W O0 P0).mono fun e W' ⟨he,bel⟩=>?_
 subst he;exact⟨_,rfl,_,_,_,[],_,[],hW',trodAll_mk1 (shut_bool underlying4 _),(trodAll_cons_mk (Below.trod laidOut jk (of_decide_eq_true jk) k0 bel lt0) (trodAll_cons_mk (Below.trod laidOut jk (of_decide_eq_true jk) k1 bel lt1) (trodAll_cons_mk (Below.trod laidOut jk (of_decide_eq_true jk) k2 bel lt2) (trodAll_cons_mk (Below.trod laidOut jk (of_decide_eq_true jk) k3 bel lt3) (trodAll_cons_mk (Below.trod laidOut jk (of_decide_eq_true jk) k4 bel lt4) trodAll_mk0))))),rfl,bel.frame _,fun h=>by cases h⟩
theorem over:Rows.modelCountsRow.holds Tryz.pinned (OpenSpec.ofChange Rows.modelCountsSpec):=
 OpenClaim.holds_of_wide 3 Tryz.f3 rfl rfl rfl rfl rfl rfl rfl ⟨rfl,rfl,rfl,rfl,rfl⟩ rfl rfl rfl rfl rfl jk func3 jk
  (of_decide_eq_true jk) (by unfold Func.isWrapper;first|(rw[zI jq];kernel_rfl)|(rw[zH jq];exact⟨rfl,rfl⟩))
  (fun os started H enc _=>lifted os started H enc)
theorem proved:Rows.ModelCountsSaid:=over
#print axioms proved
end Go.Proofs.YtmomjpolkkbhnaaGreat.modelCountsDone
