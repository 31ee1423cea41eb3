/- Settings that came in; ModelDoes, of what came in. -/
import Derived.Test.YtmomjpolkkbhnaaGreatQModelCountsRow45
import Derived.Test.YtmomjpolkkbhnaaGreatQModelDoesRow0
set_option linter.unusedSimpArgs false
set_option linter.unusedVariables false
set_option maxRecDepth 20000
set_option maxHeartbeats 100000000
open Go.Proofs.Tryz
namespace Go.Proofs.YtmomjpolkkbhnaaGreat
namespace Md
open Go.RowKit Go.ChangeShapes Go.WideShapes Go.ChangeAt Go.Deep Go.Joins Ut Tk Qy Ev Qp Cu Mx
section
variable {H:Type} {enc:TypeId × Value→H} {W:World} {base:Nat}
theorem Aj{P:Program}{t:TypeId}{f0 f1 f2 f3 f4 f5 f6:Field}{fuel:Nat}{cs:List Value}{x:DataW H × List MemPlace}(ht:P.underlying t=some (.struct #[f0,f1,f2,f3,f4,f5,f6]))(h:DataW.trod enc P W 0 (fun _=>true) true fuel t cs=some x) :
  ∃y0 y1 y2 y3 y4 y5 y6 n,x.1=.agg [y0.1,y1.1,y2.1,y3.1,y4.1,y5.1,y6.1]∧cs.length=P.cellsOf t∧DataW.trod enc P W 0 (fun _=>true) true n f0.type ((cs.drop f0.offset).take (P.cellsOf f0.type))=some y0∧DataW.trod enc P W 0 (fun _=>true) true n f1.type ((cs.drop f1.offset).take (P.cellsOf f1.type))=some y1∧DataW.trod enc P W 0 (fun _=>true) true n f2.type ((cs.drop f2.offset).take (P.cellsOf f2.type))=some y2∧DataW.trod enc P W 0 (fun _=>true) true n f3.type ((cs.drop f3.offset).take (P.cellsOf f3.type))=some y3∧DataW.trod enc P W 0 (fun _=>true) true n f4.type ((cs.drop f4.offset).take (P.cellsOf f4.type))=some y4∧DataW.trod enc P W 0 (fun _=>true) true n f5.type ((cs.drop f5.offset).take (P.cellsOf f5.type))=some y5∧DataW.trod enc P W 0 (fun _=>true) true n f6.type ((cs.drop f6.offset).take (P.cellsOf f6.type))=some y6:=by
 obtain⟨xs,n,_,rfl,hl,hlen,hf⟩:=DataW.trod_struct ht h
 match xs,hlen with
 | [y0,y1,y2,y3,y4,y5,y6],_=>exact⟨y0,y1,y2,y3,y4,y5,y6,n,jz,hl,by simpa using hf 0 f0 rfl,by simpa using hf 1 f1 rfl,by simpa using hf 2 f2 rfl,by simpa using hf 3 f3 rfl,by simpa using hf 4 f4 rfl,by simpa using hf 5 f5 rfl,by simpa using hf 6 f6 rfl⟩
theorem Cj:prog.cellsOf 25=7:=by kernel_rfl
theorem JF{v:Value}{d:DataW H}{p:List MemPlace}(hv:Value.okWide prog W .any base 25 v)(h:DataW.Trod enc prog W 0 (fun _=>true) true 25 v d p) :
  ∃c:Cf,v=.agg #[.int .i64 c.size,.int .i64 c.age,.int .i64 c.retain,.int .i64 c.batch,.int .i64 c.buckets,.bool c.bt,.bool c.bb]∧c.retain≤9223372036854775807:=by
 obtain⟨cs,rfl,_⟩:=okWide_struct underlying25 hv;obtain⟨fuel,hf⟩:=h;obtain⟨y0,y1,y2,y3,y4,y5,y6,n,hx,hl,t0,t1,t2,t3,t4,t5,t6⟩:=Aj underlying25 hf;rw[Cj]at hl;obtain⟨l,hlc⟩:∃l:List Value,(Value.agg cs).cells.toList=l:=⟨_,rfl⟩;rw[hlc]at hl t0 t1 t2 t3 t4 t5 t6
 match l,hl with
 | [u0,u1,u2,u3,u4,u5,u6],_=>
  simp only[pG,oW,List.drop_zero,zm,zX,List.take_zero,zB,zC]at t0 t1 t2 t3 t4 t5 t6;obtain⟨k0,e0,_,w0⟩:=DataW.trod_int underlying3 t0;obtain⟨k1,e1,_,w1⟩:=DataW.trod_int underlying3 t1;obtain⟨k2,e2,_,w2⟩:=DataW.trod_int underlying3 t2;obtain⟨k3,e3,_,w3⟩:=DataW.trod_int underlying3 t3;obtain⟨k4,e4,_,w4⟩:=DataW.trod_int underlying3 t4;obtain⟨k5,e5,_⟩:=DataW.trod_bool underlying4 t5;obtain⟨k6,e6,_⟩:=DataW.trod_bool underlying4 t6;simp only[zQ,and_true]at e0 e1 e2 e3 e4 e5 e6;subst e0 e1 e2 e3 e4 e5 e6;refine⟨⟨k0,k1,k2,k3,k4,k5,k6⟩,?_,(lV w2).2⟩;have e:cs.toList=[.int .i64 k0,.int .i64 k1,.int .i64 k2,.int .i64 k3,.int .i64 k4,.bool k5,.bool k6]:=hlc;exact congrArg Value.agg (Array.toList_inj.1 e)
end
theorem GX(c:Cf)(hret:c.retain≤9223372036854775807)(A:Option Addr)(n cc:Nat)(LL:List Rq)(TT:List Bool)(w:World)(hL:StepsAt w A n cc LL)(hT:StepsT w A n TT) :
  Calls prog 5 #[.agg #[.int .i64 c.size,.int .i64 c.age,.int .i64 c.retain,.int .i64 c.batch,.int .i64 c.buckets,.bool c.bt,.bool c.bb],.slice A n cc] w fun e w'=>e=.returned (.bool true)∧zWW w w':=GV c hret A n cc LL TT w hL hT
end Md
end Go.Proofs.YtmomjpolkkbhnaaGreat
