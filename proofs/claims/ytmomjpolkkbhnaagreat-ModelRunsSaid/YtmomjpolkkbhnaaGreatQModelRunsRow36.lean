/- loggialaw26: Conf, awake (printed by gen_mdq.py). -/
import Derived.Test.YtmomjpolkkbhnaaGreatQModelRunsRow33
set_option linter.unusedSimpArgs false
set_option linter.unusedVariables false
set_option maxRecDepth 100000
set_option maxHeartbeats 100000000
open Go.Proofs.Tryz
namespace Go.Proofs.YtmomjpolkkbhnaaGreat
namespace Md
open Go.RowKit Ut Tk Qy Qp Ev Cu
section
variable {base:Nat} {w':World} {m m':M} {r:Rq} {cs:Array Value}
theorem DoR.k1(h:DoR base w' m r m' cs)(e:r.op=1):m'=(ing m r).1∧cs=(ing m r).2:=by
 rcases h with⟨_,h⟩|⟨h,_⟩|⟨h,_⟩|⟨h,_⟩|⟨h,_⟩|⟨h,_⟩|⟨h,_⟩|⟨h,_⟩|⟨h,_⟩|⟨h,_⟩|⟨h,_⟩<;>first|exact h|omega
theorem DoR.k9(h:DoR base w' m r m' cs)(e:r.op=9):m'=m∧OpR base w' r cs:=by
 rcases h with⟨h,_⟩|⟨h,_⟩|⟨h,_⟩|⟨h,_⟩|⟨h,_⟩|⟨h,_⟩|⟨h,_⟩|⟨_,h⟩|⟨h,_⟩|⟨h,_⟩|⟨h,_⟩<;>first|exact h|omega
theorem DoR.k10(h:DoR base w' m r m' cs)(e:r.op=10):m'=m∧TlR w' m r base cs:=by
 rcases h with⟨h,_⟩|⟨h,_⟩|⟨h,_⟩|⟨h,_⟩|⟨h,_⟩|⟨h,_⟩|⟨h,_⟩|⟨h,_⟩|⟨_,h⟩|⟨h,_⟩|⟨h,_⟩<;>first|exact h|omega
theorem DoR.k11(h:DoR base w' m r m' cs)(e:r.op=11):m'=m∧cs=mh m:=by
 rcases h with⟨h,_⟩|⟨h,_⟩|⟨h,_⟩|⟨h,_⟩|⟨h,_⟩|⟨h,_⟩|⟨h,_⟩|⟨h,_⟩|⟨h,_⟩|⟨_,h⟩|⟨h,_⟩<;>first|exact h|omega
theorem DoR.k0(h:DoR base w' m r m' cs)(e:r.op=0):m'=m∧cs=rsC 272 0 0 nil nil nil 0 0 0 0:=by
 rcases h with⟨h,_⟩|⟨h,_⟩|⟨h,_⟩|⟨h,_⟩|⟨h,_⟩|⟨h,_⟩|⟨h,_⟩|⟨h,_⟩|⟨h,_⟩|⟨h,_⟩|⟨_,h⟩<;>first|exact h|omega
end
def conf:Cf:=⟨1000,100,50,8,20,false,false⟩
theorem rO:okC conf:=by unfold okC conf;decide
theorem uj(w:World):Calls prog 13 #[] w fun e w'=>e=.returned conf.v∧zWW w w':=by
 have H:=zh (And.intro (Blk.new w 25 #[.int .i64 1000,.int .i64 100,.int .i64 50,.int .i64 8,.int .i64 20,.bool false,.bool false]) ((zy w.heap.size w).alloc (zG _) (.cells #[.int .i64 1000,.int .i64 100,.int .i64 50,.int .i64 8,.int .i64 20,.bool false,.bool false] 25)));go_enter func13,ntmps13;go_wp2_with fail;refine zw (fA rfl rfl (zv _ w.heap.size 25 25 _ (0,0) _ H.out.1 underlying25 rfl jk)) rfl ⟨rfl,H.out.2⟩
theorem nu{n0 X:Nat}{v:Value}{w w':World}{ds:List Dc}(h:Chg (fun b=>b=X∨v.ownBlock=some b) w w')(ho:DOwn w n0 v ds)(hX:n0≤X)(hn:n0≤w.heap.size):Below n0 w w':=h.below hn (fun k hk=>by
 rcases hk with rfl|hk
 ·exact hX
 obtain⟨a,_,c,_⟩:=ho.ex
 exact(c.lt k hk).1)
theorem rE{n0 X K g:Nat}{v:Value}{m:M}{w w':World}{T:TypeId}{cs:Array Value}(h:Chg (fun b=>b=X∨v.ownBlock=some b) w w')(hA:At w n0 X K v m)(hb:Blk w g T cs)(h1:T≠81)(h2:T≠48):Blk w' g T cs:=oC h hb (fun hk=>by
 rcases hk with rfl|hk
 ·exact h1 ((ow hb).one ⟨_,_,hA.blk⟩)
 obtain⟨a,_,c,_⟩:=hA.own.ex
 exact h2 ((ow hb).one (fO c hk)))
def rq0:Rq:=⟨0,[],false,0,⟨#[]⟩,0,0,0,0,0,[]⟩
theorem DU{w:World}(r:Rq)(h1:r.evs=[])(h2:r.cur=[])(h3:I64 r.now)(h4:r.width≤9223372036854775807):RqAt w r ⟨none,0,0,none,0,0⟩:=
 ⟨⟨by rw[h1];rfl,jd,zG _,[],rfl,Reads.none_,fun i h=>absurd h (by rw[h1];simp)⟩,by rw[h2];exact Reads.none_,⟨jd,zG _,fun _=>rfl⟩,fun e a=>absurd (h1 ▸ a) jz,h3,h4⟩
def exE:List Evn:=[(1,[]),(2,[])]
def rq1:Rq:={ rq0 with op:=1,evs:=exE }
def xJ:Rq:={ rq0 with op:=11 }
abbrev exM:M:=⟨conf,[],-9223372036854775808,-9223372036854775808,0⟩
def xK:M:=⟨conf,[⟨1,1,[]⟩,⟨2,2,[]⟩],-9223372036854775808,-9223372036854775808,0⟩
theorem NJ:gQ 1 exE=0:=by decide +kernel
theorem NK:ing exM rq1=(xK,rsC 0 1 0 nil nil nil 0 0 0 0):=by
 have h:gQ ((exM.ds.length:Nat)+1) exE=0:=NJ;unfold ing;rw[zH jd,zH jd];show (if gQ ((exM.ds.length:Nat)+1) exE≠0 then _ else _)=_;rw[zH (by rw[h];decide)];rfl
theorem L6:mh xK=rsC 0 0 (-9223372036854775808) nil nil nil 2 3 (-9223372036854775808) 0:=by
 have h:(upL xK (fun _=>true)).length=2:=jq;unfold mh;rw[h];rfl
theorem L8(w:World):(Instr.field 42 (.agg #[.int .i64 272,.int .i64 0,.int .i64 0,.slice none 0 0,.slice none 0 0,.slice none 0 0,.int .i64 0,.int .i64 0,.int .i64 0,.int .i64 0]) 0).run prog w=.ok (.int .i64 272) w:=by kernel_rfl
theorem IL(w:World):Calls prog 9 #[] w fun e w'=>e=.returned (.bool true)∧zWW w w':=by
 go_enter func9,ntmps9;go_wp2_with fail;refine(uj w).mono ?_;rintro e w1 ⟨rfl,y⟩;have t:=zh y;clear y;go_wp2_with fail;refine(CY conf jd w1).mono ?_;rintro e H hN;rcases hN with⟨_,X,rfl,q,hA,I⟩|⟨h,_⟩
 case inr=>exact absurd rO h
 have V:=zt t I;have u:=zh hA;have v:=t.out.size;clear hA I;have b:zWW H (H.alloc (.cells #[.int .i64 1,.slice none 0 0,.int .i64 2,.slice none 0 0] 46)):=zRR _;have A:=Rg.CZ (k:=2) H 46 [.int .i64 1,.slice none 0 0,.int .i64 2,.slice none 0 0] 2 rfl jo
 have D:RqAt (H.alloc (.cells #[.int .i64 1,.slice none 0 0,.int .i64 2,.slice none 0 0] 46)) rq1 ⟨some ⟨H.heap.size,0,none⟩,2,2,none,0,0⟩:=
  ⟨⟨rfl,by show (2:Nat)≤4398046511104;decide,zG _,[[.int .i64 1,.slice none 0 0],[.int .i64 2,.slice none 0 0]],rfl,A,fun i h1 h2=>by
   have hi:i=0∨i=1:=by have:i<2:=h1;omega
   rcases hi with rfl|rfl
   ·exact⟨none,0,0,rfl,⟨Reads.none_,rfl,jd,zG _,fun f W=>(nomatch W),fun _=>rfl⟩⟩
   ·exact⟨none,0,0,rfl,⟨Reads.none_,rfl,jd,zG _,fun f W=>(nomatch W),fun _=>rfl⟩⟩⟩,Reads.none_,⟨by show (0:Nat)≤140737488351232;decide,zG _,fun _=>rfl⟩,fun e he=>by
   have:e=(1,[])∨e=(2,[]):=by simpa[rq1,exE]using he
   rcases this with rfl|rfl<;>exact⟨jd,jd⟩,⟨jd,jd⟩,jd⟩
 have CD1:=zh (qO (u.out.below b) (by decide:0≤59000) q _ _ D);have z:=zh (u.out.below b);have N:=zt V b;clear b A D;go_wp2_with fail;refine CD1.out.mono ?_;rintro e J ⟨v4,m4,cs,rfl,g,c,s,_⟩;obtain⟨rfl,rfl⟩:=g.k1 rfl;rw[show ing (⟨conf,[],-9223372036854775808,-9223372036854775808,0⟩:M) rq1=_ from NK]at c ⊢;have U:=zh (N.out.trans ((nu s z.out.own q z.out.n0).mono v));have aa:=zh c;have n:zWW J (J.alloc (.cells (rsC 0 1 0 nil nil nil 0 0 0 0) 42)):=zRR _;have E:=zh (Blk.new J 42 (rsC 0 1 0 nil nil nil 0 0 0 0));have Y:=zh (c.below n);have O:=zt U n;have CD2:=zh (qO Y.out (by decide:0+64≤59000) q xJ _ (DU xJ rfl rfl ⟨jd,jd⟩ jd));clear g c s CD1 n
 go_upto_region 5 with(fail);generalize J.alloc (.cells (rsC 0 1 0 nil nil nil 0 0 0 0) 42)=w5 at *;go_wp2_with fail;refine CD2.out.mono ?_;rintro e L ⟨v6,m6,cs,rfl,g,C,S,G⟩;obtain⟨rfl,rfl⟩:=g.k11 rfl;obtain⟨p,_⟩:=G.1 jd;rw[L6];have l:zWW L (L.alloc (.cells (rsC 0 0 (-9223372036854775808) nil nil nil 2 3 (-9223372036854775808) 0) 42)):=zRR _;have a:=p.trans (l.mono p.size);have o:=zh (Blk.new L 42 (rsC 0 0 (-9223372036854775808) nil nil nil 2 3 (-9223372036854775808) 0));have d:=zb E a;have P:=zt O a;have j:=zh (C.below l);have CD3:=zh (qO j.out (by decide:0+64+64≤59000) q rq0 _ (DU rq0 rfl rfl ⟨jd,jd⟩ jd));clear g C S G p l a CD2 E
 go_upto_region 6 with(fail);generalize L.alloc (.cells (rsC 0 0 (-9223372036854775808) nil nil nil 2 3 (-9223372036854775808) 0) 42)=w7 at *;have a0:=d.out.cell 0;have a1:=d.out.cell 1;have b6:=o.out.cell 6;have Z:=o.out.cell 7;have b9:=o.out.cell 9;simp only[rsC,zA,zB,zC]at a0 a1 b6 Z b9;go_wp2_with fail;refine CD3.out.mono ?_;rintro e w8 ⟨v8,m8,cs,rfl,g,T,x,_⟩;obtain⟨_,F⟩:=g.k0 rfl;have B:cs=#[.int .i64 272,.int .i64 0,.int .i64 0,.slice none 0 0,.slice none 0 0,.slice none 0 0,.int .i64 0,.int .i64 0,.int .i64 0,.int .i64 0]:=F;subst B;have R:=zh (P.out.trans ((nu x j.out.own q j.out.n0).mono v));have ab:=L8 w8;clear F g T x CD3 a0 a1 b6 Z b9;go_wp2;go_ret;exact⟨rfl,R.out⟩
end Md

namespace Qy
open Go.RowKit Ut Tk
theorem Ew(s:ByteArray):∀x∈words s.data.toList,x.length≤1048576:=fun x a=>by
 have:=(FH s.data.toList x a).2;omega
theorem IP(k:Int)(hk:k=2∨k=3∨k=4)(nm:ByteArray)(ws:List ByteArray)(WA CA:Option Addr)(m wc n c2:Nat)(y:ByteArray)(w:World)(hy:y.size≤1048576)
  (hW:Reads w w.heap.size 1 WA m (ws.map Value.string)) (hm:ws.length=m) (hm2:m≤8796093021952) :
  Calls prog 147 #[.agg #[.int .i64 k,.string nm,.slice WA m wc,.slice CA n c2],.string y] w fun e w'=>e=.returned (.bool (gP k ws (words y.data.toList)))∧zWW w w':=by
 have E:zWW w (w.alloc (.cells #[.int .i64 k,.string nm,.slice WA m wc,.slice CA n c2] 60)):=zRR _;have U:=Blk.new w 60 #[.int .i64 k,.string nm,.slice WA m wc,.slice CA n c2];have H:=fS E hW;have u:=yO y (w.alloc (.cells #[.int .i64 k,.string nm,.slice WA m wc,.slice CA n c2] 60)) hy;have aa:=nY y;have M:=Ew y;have N:=zh H;have L:=zh U;have q:=zh E;have Hws:=zh M;have G:=zh hm;clear hW E U H M hm;generalize words y.data.toList=T at *;rcases hk with rfl|rfl|rfl
 ·by_cases B:m=1
  ·have I:((m:Int)==1)=true:=by rw[beq_iff_eq];omega
   have e:gP 2 ws T=decide (0<(phr T ws).length):=by unfold gP;simp[G.out,B]
   rw[e];generalize z:phr T ws=P;have J:=zh z;clear e B z;go_enter func147,ntmps147;go_wp2_with fail;refine u.mono ?_;rintro e x ⟨v,rfl,a,g⟩;obtain⟨A,c,rfl,j⟩:=fT a;have f:=L.out.below g jz;have h:=f.cell 0;have i:=f.cell 2;simp at h i;have d:=fS g N.out;have O:=f.lt;have s:=fun wx (hbx:zWW x wx)=>yR A T.length c T WA m wc ws wx (fS hbx j) rfl jo (fS hbx d) G.out hm2
   simp only[J.out]at s;have R:=zh s;have r:=zt q g;clear a j f d s g u;go_wp2_with fail;refine(R.out x (zy _ _)).mono ?_;rintro e S ⟨Y,rfl,D⟩;obtain⟨V,c3,rfl,_⟩:=fT D.own;have C:=zh (r.out.trans (D.bel.mono r.out.size));clear D;go_wp2;go_ret;exact⟨jz,C.out⟩
  have I:((m:Int)==1)=false:=by rw[zM];omega
  have e:gP 2 ws T=false:=by unfold gP;simp[G.out,B]
  rw[e];clear e B;go_enter func147,ntmps147;go_wp2_with fail;refine u.mono ?_;rintro e x ⟨v,rfl,a,g⟩;obtain⟨A,c,rfl,j⟩:=fT a;have f:=L.out.below g jz;have h:=f.cell 0;have i:=f.cell 2;simp at h i;have d:=fS g N.out;have O:=f.lt;have r:=zt q g;clear a j f d g u;go_wp2;go_ret;exact⟨rfl,r.out⟩
 ·by_cases B:m=1
  ·obtain⟨p,rfl⟩:∃p,ws=[p]:=List.length_eq_one_iff.1 (by rw[G.out,B]);obtain rfl:m=1:=B;have e:gP 3 [p] T=T.any (gp · p):=by unfold gP;simp
   rw[e];generalize z:T.any (gp · p)=P;have J:=zh z;clear e z;go_enter func147,ntmps147;go_wp2_with fail;refine u.mono ?_;rintro e x ⟨v,rfl,a,g⟩;obtain⟨A,c,rfl,j⟩:=fT a;have f:=L.out.below g jz;have h:=f.cell 0;have i:=f.cell 2;simp at h i;have d:=fS g N.out;have O:=f.lt;obtain⟨b,o,hl,rfl,X,Z⟩:=d.at_map (k:=0) jo;simp at Z;have s:=EL A T.length c T p x j rfl jo Hws.out;have r:=zt q g;rw[J.out]at s;clear a j f d g u;go_wp2_with fail;refine s.mono ?_;rintro e S ⟨rfl,rfl⟩;go_wp2;go_ret;exact⟨rfl,r.out⟩
  have I:((m:Int)==1)=false:=by rw[zM];omega
  have e:gP 3 ws T=false:=by
   unfold gP;simp only[if_true]
   split
   ·exact absurd G.out jm
   rfl
  rw[e];clear e B;go_enter func147,ntmps147;go_wp2_with fail;refine u.mono ?_;rintro e x ⟨v,rfl,a,g⟩;obtain⟨A,c,rfl,j⟩:=fT a;have f:=L.out.below g jz;have h:=f.cell 0;have i:=f.cell 2;simp at h i;have d:=fS g N.out;have O:=f.lt;have r:=zt q g;clear a j f d g u;go_wp2;go_ret;exact⟨rfl,r.out⟩
 have e:gP 4 ws T=decide (0<(phr T ws).length):=by unfold gP;simp
 rw[e];generalize z:phr T ws=P;have J:=zh z;clear e z;go_enter func147,ntmps147;go_wp2_with fail;refine u.mono ?_;rintro e x ⟨v,rfl,a,g⟩;obtain⟨A,c,rfl,j⟩:=fT a;have f:=L.out.below g jz;have h:=f.cell 0;have i:=f.cell 2;simp at h i;have d:=fS g N.out;have O:=f.lt;have s:=fun wx (hbx:zWW x wx)=>yR A T.length c T WA m wc ws wx (fS hbx j) rfl jo (fS hbx d) G.out hm2
 simp only[J.out]at s;have R:=zh s;have r:=zt q g;clear a j f d s g u;go_wp2_with fail;refine(R.out x (zy _ _)).mono ?_;rintro e S ⟨Y,rfl,D⟩;obtain⟨V,c3,rfl,_⟩:=fT D.own;have C:=zh (r.out.trans (D.bel.mono r.out.size));clear D;go_wp2;go_ret;exact⟨jz,C.out⟩
def oh(fs:List (ByteArray × ByteArray))(q:Q):Prop:=∀(w:World) (a0 a1 a2 a3:Value) (t:Int) (F:Option Addr) (fn fc:Nat),QAt w w.heap.size q [a0,a1,a2,a3]→EvAt w F fn fs →
 Calls prog 118 #[.agg #[a0,a1,a2,a3],.agg #[.int .i64 t,.slice F fn fc]] w fun e w'=>e=.returned (.bool (fC fs q))∧zWW w w'
structure MAt (W:World) (qb eb:Nat) (k:Int) (nm:ByteArray) (ws:List ByteArray) (l:List Q) (WA:Option Addr) (m wc:Nat) (CA:Option Addr) (n c2:Nat) (t:Int) (F:Option Addr) (fn fc:Nat) (fs:List (ByteArray × ByteArray)):Prop where
 q:Blk W qb 60 #[.int .i64 k,.string nm,.slice WA m wc,.slice CA n c2]
 e:Blk W eb 46 #[.int .i64 t,.slice F fn fc]
 ev:EvAt W F fn fs
 at_:QAt W W.heap.size (.mk k nm ws l) [.int .i64 k,.string nm,.slice WA m wc,.slice CA n c2]
section
variable {W W':World} {qb eb:Nat} {k:Int} {nm:ByteArray} {ws:List ByteArray} {l:List Q} {WA:Option Addr} {m wc:Nat} {CA:Option Addr} {n c2:Nat} {t:Int} {F:Option Addr} {fn fc:Nat} {fs:List (ByteArray × ByteArray)}
theorem MAt.grow(h:MAt W qb eb k nm ws l WA m wc CA n c2 t F fn fc fs)(hb:zWW W W'):MAt W' qb eb k nm ws l WA m wc CA n c2 t F fn fc fs:=
 ⟨h.q.below hb h.q.lt,h.e.below hb h.e.lt,h.ev.grow hb,h.at_.grow hb⟩
theorem MAt.is(h:MAt W qb eb k nm ws l WA m wc CA n c2 t F fn fc fs):QIs W W.heap.size k nm ws l WA m CA n:=by
 obtain⟨b,i,f,d,g,c,e,a⟩:=h.at_.is;simp only[zQ,Value.slice.injEq,and_true,true_and]at e;obtain⟨⟨rfl,rfl,rfl⟩,rfl,rfl,rfl⟩:=e;exact a
end
theorem xU{α:Type}(l:List α)(g:α→Bool)(i:Nat)(h:i<l.length):(l.take (i+1)).any g=((l.take i).any g || g l[i]):=by
 rw[zL h,List.any_append];simp
theorem EF{α:Type}(l:List α)(g:α→Bool)(i:Nat)(h:i<l.length):(l.take (i+1)).all g=((l.take i).all g&&g l[i]):=by
 rw[zL h,List.all_append];simp
theorem Ex(fs:List (ByteArray × ByteArray))(k:Int)(nm:ByteArray)(ws:List ByteArray)(l:List Q)(hl2:ws.length≤8796093021952)(hl3:l.length≤8796093021952)(ih:∀x∈l,oh fs x):oh fs (.mk k nm ws l):=by
 intro w a0 a1 a2 a3 t F fn fc hq M;obtain⟨WA,m,wc,CA,n,c2,e,hI⟩:=hq.is;simp only[zQ,and_true]at e;obtain⟨rfl,rfl,rfl,rfl⟩:=e;have ag:zWW w (w.alloc (.cells #[.int .i64 k,.string nm,.slice WA m wc,.slice CA n c2] 60)):=zRR _;have aa:zWW w ((w.alloc (.cells #[.int .i64 k,.string nm,.slice WA m wc,.slice CA n c2] 60)).alloc (.cells #[.int .i64 t,.slice F fn fc] 46)):=ag.alloc ag.size _;have z1:(w.alloc (.cells #[.int .i64 k,.string nm,.slice WA m wc,.slice CA n c2] 60)).heap.size=w.heap.size+1:=jz;have ai:=((Blk.new w 60 #[.int .i64 k,.string nm,.slice WA m wc,.slice CA n c2]).alloc (.cells #[.int .i64 t,.slice F fn fc] 46));have ab:=Blk.new (w.alloc (.cells #[.int .i64 k,.string nm,.slice WA m wc,.slice CA n c2] 60)) 46 #[.int .i64 t,.slice F fn fc];rw[z1]at ab;have HM:Hid (MAt ((w.alloc (.cells #[.int .i64 k,.string nm,.slice WA m wc,.slice CA n c2] 60)).alloc (.cells #[.int .i64 t,.slice F fn fc] 46)) w.heap.size (w.heap.size+1) k nm ws l WA m wc CA n c2 t F fn fc fs):=zh ⟨ai,ab,M.grow aa,hq.grow aa⟩;have N:=zh aa;have E:=hI.lm;have I:=hI.wn;have J:=M.len;have av:=M.few;have z3:w.heap.size+1<(World.heap ((w.alloc (.cells #[.int .i64 k,.string nm,.slice WA m wc,.slice CA n c2] 60)).alloc (.cells #[.int .i64 t,.slice F fn fc] 46))).size:=jz;clear hq M hI ag aa z1 ai ab;by_cases Z:k=1
 ·subst Z;have Fin:Hid (fC fs (.mk 1 nm ws l)=true):=zh (by rw[lG];simp);rw[Fin.out];clear E I J ih;go_enter func118,ntmps118;go_wp2;go_ret;exact⟨rfl,N.out⟩
 by_cases A:k=2∨k=3∨k=4
 ·have Fin:Hid (fC fs (.mk k nm ws l)=kx k nm ws fs):=zh (by rw[lG,zH Z,zI A]);rw[Fin.out];have Hfn:=zh J;have Hwn:=zh I;have aq:m≤8796093021952:=jo;obtain⟨g,hg⟩:∃g,g=gP k ws:=⟨_,rfl⟩;have al:kx k nm ws fs=fs.any (fun f=>f.1.data.toList==nm.data.toList&&g (words f.2.data.toList)):=by rw[hg];rfl
  have Fld:=zh (fun(y:ByteArray) (b:World) hy hr=>(show Calls prog 147 #[.agg #[.int .i64 k,.string nm,.slice WA m wc,.slice CA n c2],.string y] b (fun e w'=>e=.returned (.bool (g (words y.data.toList)))∧zWW b w') by rw[hg];exact IP k A nm ws WA CA m wc n c2 y b hy hr Hwn.out aq));rw[al];obtain⟨P,hP⟩:∃P:World→Prop,∀wr,P wr↔MAt wr w.heap.size (w.heap.size+1) k nm ws l WA m wc CA n c2 t F fn fc fs:=⟨_,fun _=>Iff.rfl⟩;have HP:=zh hP;clear E ih Fin hl2 hl3 J I hg al hP;generalize hL:fs.any (fun f=>f.1.data.toList==nm.data.toList&&g (words f.2.data.toList))=L;have HL:=zh hL;clear hL;rcases A with rfl|rfl|rfl
  all_goals
   clear Z;go_enter func118,ntmps118;go_wp2_with fail;go_loopw [5] (fun i wr=>∃j:Nat,j≤fn∧i=.int .i64 j∧(fs.take j).any (fun f=>f.1.data.toList==nm.data.toList&&g (words f.2.data.toList))=false∧P wr∧zWW w wr) (fun i _=>fn-(intOf i).toNat)
   case atStart=>exact⟨0,zS _,rfl,rfl,(HP.out _).2 HM.out,N.out⟩
   obtain⟨j,hj,rfl,H,hm,S⟩:=hrel;have o:=zh ((HP.out wr).1 hm);have Hal:=zh H;have Hbr:=zh S;clear H S hm;have ap:=o.out.e.cell 1;simp at ap;by_cases R:j<fn
   ·obtain⟨u,s,rfl,v,am,ao⟩:=lq o.out.ev.rd (k:=j) (by rw[Hfn.out];exact R);have D:j<fs.length:=by rw[Hfn.out];exact R
    have C:=xU fs (fun f=>f.1.data.toList==nm.data.toList&&g (words f.2.data.toList)) j D;rw[Hal.out,Bool.false_or]at C;have ad:(fs[j].1.data.toList==nm.data.toList)=(fs[j].1.toList==nm.toList):=by rw[tl,tl]
    rw[ad]at C;have ak:=o.out.ev.sz _ (za D);have z:fs[j]∈fs:=za D;have Hmem:Hid ((fs[j].1.toList==nm.toList&&g (words fs[j].2.data.toList))=true→L=true):=zh (fun e=>HL.out ▸ List.any_eq_true.2 ⟨_,z,by rw[ad];exact e⟩);have V:=fun b (c:zWW wr b)=>Fld.out fs[j].2 b ak (o.out.grow c).is.wds
    have d:∀b,zWW wr b→b.cell? ⟨w.heap.size,0,none⟩=some (.int .i64 _)∧b.cell? ⟨w.heap.size,1,none⟩=some (.string nm)∧b.cell? ⟨w.heap.size,2,none⟩=some (.slice WA m wc)∧b.cell? ⟨w.heap.size,3,none⟩=some (.slice CA n c2) ∧
      b.cell? ⟨w.heap.size+1,1,none⟩=some (.slice (some ⟨u,s,none⟩) fn fc)∧b.cell? ⟨u,s+j*2,none⟩=some (.string fs[j].1)∧b.cell? ⟨u,s+j*2+1,none⟩=some (.string fs[j].2):=fun b c=>
     ⟨(o.out.grow c).q.cell 0,(o.out.grow c).q.cell 1,(o.out.grow c).q.cell 2,(o.out.grow c).q.cell 3,(o.out.grow c).e.cell 1,(c.cell (p:=⟨u,s+j*2,none⟩) v).trans am,(c.cell (p:=⟨u,s+j*2+1,none⟩) v).trans ao⟩
    have aj:(0:Int)≤(j:Int):=jo;have an:(j:Int)<(fn:Int):=jo;have C1:=zh V;have a:=zh d;have Hat:=zh C;have Hnp:Hid (∀b,zWW wr b→P b):=zh (fun b c=>(HP.out b).2 (o.out.grow c));clear V d C z ak am ao ad;generalize g (words fs[j].2.data.toList)=r at *;generalize fs[j].1=x at *;generalize fs[j].2=y at *;by_cases ac:(x.toList==nm.toList)=true
    ·go_wp2_with fail;refine iF (fF [(17,⟨Unit,fun _=>(.bool r),fun _ _=>True⟩)]) (fun b=>Below (World.heap wr).size wr b) (fun T U=>zWW T U) jk jk (fN (fun _ _ _ _ h=>h) (fQ)) (zy _ _).drew ?_
     iterate 17
      refine fG _ ?_ rfl jr jr (fun b c O=>?_) ?_;rotate_left
      ·have B:=a.out b c;go_simp;all_goals with_reducible rfl
      try simp only[Act.put,zD,zE,zF]
     refine fo 18 _ rfl jr jr (fun b c O=>?_) (fun x=>?_)
     ·refine fZ (f:=?_) (args:=?_) ?_ ?_;rotate_left 2
      ·have B:=a.out b c;go_simp;all_goals first|with_reducible rfl|(refine⟨?_,?_⟩<;>with_reducible rfl)
      exact ia c (C1.out b c)
     obtain⟨⟩:=x;try simp only[Act.put,zD,zE,zF]
     refine fG 19 ?_ rfl jr jr (fun b c O=>?_) ?_;rotate_left
     ·have B:=a.out b c;go_simp;all_goals with_reducible rfl
     try simp only[Act.put,zD,zE,zF]
     refine fW (fun w4 c M=>?_);have Hf:=zt Hbr c;have ae:=zh (Hnp.out _ c);clear M c
     cases r with
     | true=>
      have Fin:=zh (Hmem.out (by rw[ac];rfl));go_wp2;go_ret;exact⟨by rw[Fin.out];rfl,Hf.out⟩
     | false=>
      have Hnx:=zh (Hat.out.trans (by rw[Bool.and_false]));go_wp2;go_roundw
      case rel=>exact⟨j+1,jo,ju,Hnx.out,ae.out,Hf.out⟩
      simp[intOf];omega
    have ar:(x.toList==nm.toList)=false:=Bool.eq_false_iff.2 ac;have Hnx:=zh (Hat.out.trans (by rw[ar,Bool.false_and]));clear ac;go_wp2_with fail;refine iF (fF []) (fun b=>Below (World.heap wr).size wr b) (fun T U=>zWW T U) jk jk (fQ) (zy _ _).drew ?_
    iterate 10
     refine fG _ ?_ rfl jr jr (fun b c O=>?_) ?_;rotate_left
     ·have B:=a.out b c;go_simp;all_goals with_reducible rfl
     try simp only[Act.put,zD,zE,zF]
    refine fK 11 (some false) true rfl jr jr jr ?_;try simp only[Act.put,zD,zE,zF]
    refine fK 12 (some false) true rfl jr jr jr ?_;try simp only[Act.put,zD,zE,zF]
    refine fK 13 (some false) true rfl jr jr jr ?_;try simp only[Act.put,zD,zE,zF]
    refine fK 14 (some false) true rfl jr jr jr ?_;try simp only[Act.put,zD,zE,zF]
    refine fK 15 (some false) true rfl jr jr jr ?_;try simp only[Act.put,zD,zE,zF]
    refine fK 16 (some false) true rfl jr jr jr ?_;try simp only[Act.put,zD,zE,zF]
    refine fK 17 (some false) true rfl jr jr jr ?_;try simp only[Act.put,zD,zE,zF]
    refine fK 18 (some false) true rfl jr jr jr ?_;try simp only[Act.put,zD,zE,zF]
    refine fG 19 ?_ rfl jr jr (fun b c O=>?_) ?_;rotate_left
    ·have B:=a.out b c;go_simp;all_goals with_reducible rfl
    try simp only[Act.put,zD,zE,zF]
    refine fW (fun w4 c M=>?_);have Hf:=zt Hbr c;have ae:=zh (Hnp.out _ c);clear M c;go_wp2;go_roundw
    case rel=>exact⟨j+1,jo,ju,Hnx.out,ae.out,Hf.out⟩
    simp[intOf];omega
   obtain rfl:j=fn:=jo;have Fin:Hid (L=false):=zh (by have:=Hal.out;rw[zR (by rw[Hfn.out];exact zG _)]at this;exact HL.out ▸ this);go_wp2;go_ret;exact⟨by rw[Fin.out];rfl,Hbr.out⟩
 by_cases k5:k=5
 ·subst k5;have Fin:Hid (fC fs (.mk 5 nm ws l)=l.all (fC fs)):=zh (by rw[lG];simp);rw[Fin.out];have Hln:=zh E;have Ih:=zh ih;clear I J Fin hl2 ih E Z A;go_enter func118,ntmps118;go_wp2_with fail;go_loopw [6] (fun i wr=>∃j:Nat,j≤n∧i=.int .i64 j∧(l.take j).all (fC fs)=true∧Below (World.heap ((w.alloc (.cells #[.int .i64 5,.string nm,.slice WA m wc,.slice CA n c2] 60)).alloc (.cells #[.int .i64 t,.slice F fn fc] 46))).size ((w.alloc (.cells #[.int .i64 5,.string nm,.slice WA m wc,.slice CA n c2] 60)).alloc (.cells #[.int .i64 t,.slice F fn fc] 46)) wr) (fun i _=>n-(intOf i).toNat)
  case atStart=>exact⟨0,zS _,rfl,rfl,zy _ _⟩
  obtain⟨j,hj,rfl,H,S⟩:=hrel;have o:=zh (HM.out.grow S);have Hal:=zh H;have Hbr:=zt N S;have Hb:=zh S;have af:=o.out.q.cell 3;simp at af;clear H S;by_cases R:j<n
  ·have D:j<l.length:=by rw[Hln.out];exact R
   obtain⟨u,s,A',n',c',C',m',d',e1,v,G,g0,X,Y,g3⟩:=o.out.is.at_ (i:=j) D;subst e1;have C:=EF l (fC fs) j D;rw[Hal.out,Bool.true_and]at C;have z:l[j]∈l:=za D;have Hmem:Hid (fC fs l[j]=false→l.all (fC fs)=false):=zh (fun e=>List.all_eq_false.2 ⟨_,z,by rw[e];decide⟩);have V:=fun b (c:zWW wr b)=>Ih.out l[j] z b _ _ _ _ t F fn fc (G.grow c) (o.out.grow c).ev
   have d:∀b,zWW wr b→b.cell? ⟨w.heap.size,3,none⟩=some (.slice (some ⟨u,s,none⟩) n c2)∧b.cell? ⟨w.heap.size+1,0,none⟩=some (.int .i64 t)∧b.cell? ⟨w.heap.size+1,1,none⟩=some (.slice F fn fc) ∧
     b.cell? ⟨u,s+j*4,none⟩=some (.int .i64 l[j].kind)∧b.cell? ⟨u,s+j*4+1,none⟩=some (.string l[j].name)∧b.cell? ⟨u,s+j*4+2,none⟩=some (.slice A' n' c')∧b.cell? ⟨u,s+j*4+3,none⟩=some (.slice C' m' d'):=fun b c=>
    ⟨(o.out.grow c).q.cell 3,(o.out.grow c).e.cell 0,(o.out.grow c).e.cell 1,(c.cell (p:=⟨u,s+j*4,none⟩) v).trans g0,(c.cell (p:=⟨u,s+j*4+1,none⟩) v).trans X,(c.cell (p:=⟨u,s+j*4+2,none⟩) v).trans Y,(c.cell (p:=⟨u,s+j*4+3,none⟩) v).trans g3⟩
   have aj:(0:Int)≤(j:Int):=jo;have an:(j:Int)<(n:Int):=jo;have C1:=zh V;have a:=zh d;have Hat:=zh C;clear V d C z g0 X Y g3 G;generalize fC fs l[j]=r at *;generalize l[j].kind=x0 at *;generalize l[j].name=x1 at *;go_wp2_with fail;refine iF (fF [(6,⟨Unit,fun _=>(.bool r),fun _ _=>True⟩)]) (fun b=>Below (World.heap wr).size wr b) (fun T U=>zWW T U) jk jk (fN (fun _ _ _ _ h=>h) (fQ)) (zy _ _).drew ?_
   iterate 6
    refine fG _ ?_ rfl jr jr (fun b c O=>?_) ?_;rotate_left
    ·have B:=a.out b c;go_simp;all_goals with_reducible rfl
    try simp only[Act.put,zD,zE,zF]
   refine fo 7 _ rfl jr jr (fun b c O=>?_) (fun x=>?_)
   ·refine fZ (f:=?_) (args:=?_) ?_ ?_;rotate_left 2
    ·have B:=a.out b c;go_simp;all_goals first|with_reducible rfl|(refine⟨?_,?_⟩<;>with_reducible rfl)
    exact ia c (C1.out b c)
   obtain⟨⟩:=x;try simp only[Act.put,zD,zE,zF]
   refine fG 8 ?_ rfl jr jr (fun b c O=>?_) ?_;rotate_left
   ·have B:=a.out b c;go_simp;all_goals with_reducible rfl
   try simp only[Act.put,zD,zE,zF]
   refine fW (fun w4 c M=>?_);have Hf:=zt Hbr c;have Hg:=zt Hb c;clear M c
   cases r with
   | false=>
    have Fin:=zh (Hmem.out rfl);go_wp2;go_ret;exact⟨by rw[Fin.out];rfl,Hf.out⟩
   | true=>
    have Hnx:=Hat;go_wp2;go_roundw
    case rel=>exact⟨j+1,jo,ju,Hnx.out,Hg.out⟩
    simp[intOf];omega
  obtain rfl:j=n:=jo;have Fin:Hid (l.all (fC fs)=true):=zh (by have:=Hal.out;rwa[zR (by rw[Hln.out];exact zG _)]at this);go_wp2;go_ret;exact⟨by rw[Fin.out];rfl,Hbr.out⟩
 by_cases k6:k=6
 ·subst k6;have Fin:Hid (fC fs (.mk 6 nm ws l)=l.any (fC fs)):=zh (by rw[lG];simp);rw[Fin.out];have Hln:=zh E;have Ih:=zh ih;clear I J Fin hl2 ih E Z A;go_enter func118,ntmps118;go_wp2_with fail;go_loopw [7] (fun i wr=>∃j:Nat,j≤n∧i=.int .i64 j∧(l.take j).any (fC fs)=false∧Below (World.heap ((w.alloc (.cells #[.int .i64 6,.string nm,.slice WA m wc,.slice CA n c2] 60)).alloc (.cells #[.int .i64 t,.slice F fn fc] 46))).size ((w.alloc (.cells #[.int .i64 6,.string nm,.slice WA m wc,.slice CA n c2] 60)).alloc (.cells #[.int .i64 t,.slice F fn fc] 46)) wr) (fun i _=>n-(intOf i).toNat)
  case atStart=>exact⟨0,zS _,rfl,rfl,zy _ _⟩
  obtain⟨j,hj,rfl,H,S⟩:=hrel;have o:=zh (HM.out.grow S);have Hal:=zh H;have Hbr:=zt N S;have Hb:=zh S;have af:=o.out.q.cell 3;simp at af;clear H S;by_cases R:j<n
  ·have D:j<l.length:=by rw[Hln.out];exact R
   obtain⟨u,s,A',n',c',C',m',d',e1,v,G,g0,X,Y,g3⟩:=o.out.is.at_ (i:=j) D;subst e1;have C:=xU l (fC fs) j D;rw[Hal.out,Bool.false_or]at C;have z:l[j]∈l:=za D;have Hmem:Hid (fC fs l[j]=true→l.any (fC fs)=true):=zh (fun e=>List.any_eq_true.2 ⟨_,z,e⟩);have V:=fun b (c:zWW wr b)=>Ih.out l[j] z b _ _ _ _ t F fn fc (G.grow c) (o.out.grow c).ev
   have d:∀b,zWW wr b→b.cell? ⟨w.heap.size,3,none⟩=some (.slice (some ⟨u,s,none⟩) n c2)∧b.cell? ⟨w.heap.size+1,0,none⟩=some (.int .i64 t)∧b.cell? ⟨w.heap.size+1,1,none⟩=some (.slice F fn fc) ∧
     b.cell? ⟨u,s+j*4,none⟩=some (.int .i64 l[j].kind)∧b.cell? ⟨u,s+j*4+1,none⟩=some (.string l[j].name)∧b.cell? ⟨u,s+j*4+2,none⟩=some (.slice A' n' c')∧b.cell? ⟨u,s+j*4+3,none⟩=some (.slice C' m' d'):=fun b c=>
    ⟨(o.out.grow c).q.cell 3,(o.out.grow c).e.cell 0,(o.out.grow c).e.cell 1,(c.cell (p:=⟨u,s+j*4,none⟩) v).trans g0,(c.cell (p:=⟨u,s+j*4+1,none⟩) v).trans X,(c.cell (p:=⟨u,s+j*4+2,none⟩) v).trans Y,(c.cell (p:=⟨u,s+j*4+3,none⟩) v).trans g3⟩
   have aj:(0:Int)≤(j:Int):=jo;have an:(j:Int)<(n:Int):=jo;have C1:=zh V;have a:=zh d;have Hat:=zh C;clear V d C z g0 X Y g3 G;generalize fC fs l[j]=r at *;generalize l[j].kind=x0 at *;generalize l[j].name=x1 at *;go_wp2_with fail;refine iF (fF [(6,⟨Unit,fun _=>(.bool r),fun _ _=>True⟩)]) (fun b=>Below (World.heap wr).size wr b) (fun T U=>zWW T U) jk jk (fN (fun _ _ _ _ h=>h) (fQ)) (zy _ _).drew ?_
   iterate 6
    refine fG _ ?_ rfl jr jr (fun b c O=>?_) ?_;rotate_left
    ·have B:=a.out b c;go_simp;all_goals with_reducible rfl
    try simp only[Act.put,zD,zE,zF]
   refine fo 7 _ rfl jr jr (fun b c O=>?_) (fun x=>?_)
   ·refine fZ (f:=?_) (args:=?_) ?_ ?_;rotate_left 2
    ·have B:=a.out b c;go_simp;all_goals first|with_reducible rfl|(refine⟨?_,?_⟩<;>with_reducible rfl)
    exact ia c (C1.out b c)
   obtain⟨⟩:=x;try simp only[Act.put,zD,zE,zF]
   refine fW (fun w4 c M=>?_);have Hf:=zt Hbr c;have Hg:=zt Hb c;clear M c
   cases r with
   | true=>
    have Fin:=zh (Hmem.out rfl);go_wp2;go_ret;exact⟨by rw[Fin.out];rfl,Hf.out⟩
   | false=>
    have Hnx:=Hat;go_wp2;go_roundw
    case rel=>exact⟨j+1,jo,ju,Hnx.out,Hg.out⟩
    simp[intOf];omega
  obtain rfl:j=n:=jo;have Fin:Hid (l.any (fC fs)=false):=zh (by have:=Hal.out;rwa[zR (by rw[Hln.out];exact zG _)]at this);go_wp2;go_ret;exact⟨by rw[Fin.out];rfl,Hbr.out⟩
 by_cases k7:k=7
 ·subst k7;have Fin:Hid (fC fs (.mk 7 nm ws l)=lF fs l):=zh (by rw[lG];simp);rw[Fin.out];by_cases ah:n=1
  ·obtain⟨x,rfl⟩:∃x,l=[x]:=List.length_eq_one_iff.1 jo;obtain⟨u,s,A',n',c',C',m',d',e1,v,G,g0,X,Y,g3⟩:=HM.out.is.at_ (i:=0) jz;subst e1;obtain rfl:n=1:=ah;have hx:=ih x jz;simp only[List.getElem_cons_zero,Nat.zero_mul,Nat.add_zero]at G g0 X Y g3
   have d:∀b,Below (World.heap ((w.alloc (.cells #[.int .i64 7,.string nm,.slice WA m wc,.slice (some ⟨u,s,none⟩) 1 c2] 60)).alloc (.cells #[.int .i64 t,.slice F fn fc] 46))).size ((w.alloc (.cells #[.int .i64 7,.string nm,.slice WA m wc,.slice (some ⟨u,s,none⟩) 1 c2] 60)).alloc (.cells #[.int .i64 t,.slice F fn fc] 46)) b→b.cell? ⟨w.heap.size,3,none⟩=some (.slice (some ⟨u,s,none⟩) 1 c2)∧b.cell? ⟨w.heap.size+1,0,none⟩=some (.int .i64 t)∧b.cell? ⟨w.heap.size+1,1,none⟩=some (.slice F fn fc) ∧
     b.cell? ⟨u,s,none⟩=some (.int .i64 x.kind)∧b.cell? ⟨u,s+1,none⟩=some (.string x.name)∧b.cell? ⟨u,s+2,none⟩=some (.slice A' n' c')∧b.cell? ⟨u,s+3,none⟩=some (.slice C' m' d'):=fun b c=>
    ⟨(HM.out.grow c).q.cell 3,(HM.out.grow c).e.cell 0,(HM.out.grow c).e.cell 1,(c.cell (p:=⟨u,s,none⟩) v).trans g0,(c.cell (p:=⟨u,s+1,none⟩) v).trans X,(c.cell (p:=⟨u,s+2,none⟩) v).trans Y,(c.cell (p:=⟨u,s+3,none⟩) v).trans g3⟩
   have V:=fun b (c:Below (World.heap ((w.alloc (.cells #[.int .i64 7,.string nm,.slice WA m wc,.slice (some ⟨u,s,none⟩) 1 c2] 60)).alloc (.cells #[.int .i64 t,.slice F fn fc] 46))).size ((w.alloc (.cells #[.int .i64 7,.string nm,.slice WA m wc,.slice (some ⟨u,s,none⟩) 1 c2] 60)).alloc (.cells #[.int .i64 t,.slice F fn fc] 46)) b)=>hx b _ _ _ _ t F fn fc (G.grow c) (HM.out.grow c).ev
   have hN:lF fs [x]=!fC fs x:=by rw[lF]
   rw[hN];have C1:=zh V;have a:=zh d;clear ih V Fin Z A k5 k6 d hN G g0 X Y g3 hx I J E;generalize fC fs x=r at *;generalize x.kind=x0 at *;generalize x.name=x1 at *;go_enter func118,ntmps118;go_wp2_with fail;refine iF (fF [(10,⟨Unit,fun _=>(.bool r),fun _ _=>True⟩)]) (fun b=>Below (World.heap ((w.alloc (.cells #[.int .i64 7,.string nm,.slice WA m wc,.slice (some ⟨u,s,none⟩) 1 c2] 60)).alloc (.cells #[.int .i64 t,.slice F fn fc] 46))).size ((w.alloc (.cells #[.int .i64 7,.string nm,.slice WA m wc,.slice (some ⟨u,s,none⟩) 1 c2] 60)).alloc (.cells #[.int .i64 t,.slice F fn fc] 46)) b) (fun T U=>zWW T U) jk jk (fN (fun _ _ _ _ h=>h) (fQ)) (zy _ _).drew ?_
   iterate 10
    refine fG _ ?_ rfl jr jr (fun b c O=>?_) ?_;rotate_left
    ·have B:=a.out b c;go_simp;all_goals with_reducible rfl
    try simp only[Act.put,zD,zE,zF]
   refine fo 11 _ rfl jr jr (fun b c O=>?_) (fun x=>?_)
   ·refine fZ (f:=?_) (args:=?_) ?_ ?_;rotate_left 2
    ·have B:=a.out b c;go_simp;all_goals first|with_reducible rfl|(refine⟨?_,?_⟩<;>with_reducible rfl)
    exact ia c (C1.out b c)
   obtain⟨⟩:=x;try simp only[Act.put,zD,zE,zF]
   iterate 3
    refine fG _ ?_ rfl jr jr (fun b c O=>?_) ?_;rotate_left
    ·have B:=a.out b c;go_simp;all_goals with_reducible rfl
    try simp only[Act.put,zD,zE,zF]
   refine fW (fun w4 c M=>?_);have Hb:=zt N c;clear M c;go_wp2;go_ret;exact⟨rfl,Hb.out⟩
  have au:((n:Int)==1)=false:=by rw[zM];omega
  have hN:lF fs l=false:=by
   unfold lF
   split
   ·exact absurd E jm
   rfl
  rw[hN];have d:∀b,Below (World.heap ((w.alloc (.cells #[.int .i64 7,.string nm,.slice WA m wc,.slice CA n c2] 60)).alloc (.cells #[.int .i64 t,.slice F fn fc] 46))).size ((w.alloc (.cells #[.int .i64 7,.string nm,.slice WA m wc,.slice CA n c2] 60)).alloc (.cells #[.int .i64 t,.slice F fn fc] 46)) b→b.cell? ⟨w.heap.size,3,none⟩=some (.slice CA n c2):=fun b c=>(HM.out.grow c).q.cell 3
  have a:=zh d;clear ih Fin Z A k5 k6 d hN I J E ah;go_enter func118,ntmps118;go_wp2_with fail;refine iF (fF []) (fun b=>Below (World.heap ((w.alloc (.cells #[.int .i64 7,.string nm,.slice WA m wc,.slice CA n c2] 60)).alloc (.cells #[.int .i64 t,.slice F fn fc] 46))).size ((w.alloc (.cells #[.int .i64 7,.string nm,.slice WA m wc,.slice CA n c2] 60)).alloc (.cells #[.int .i64 t,.slice F fn fc] 46)) b) (fun T U=>zWW T U) jk jk (fQ) (zy _ _).drew ?_
  iterate 5
   refine fG _ ?_ rfl jr jr (fun b c O=>?_) ?_;rotate_left
   ·have B:=a.out b c;go_simp;all_goals with_reducible rfl
   try simp only[Act.put,zD,zE,zF]
  refine fK 6 (some false) true rfl jr jr jr ?_;try simp only[Act.put,zD,zE,zF]
  refine fK 7 (some false) true rfl jr jr jr ?_;try simp only[Act.put,zD,zE,zF]
  refine fK 8 (some false) true rfl jr jr jr ?_;try simp only[Act.put,zD,zE,zF]
  refine fK 9 (some false) true rfl jr jr jr ?_;try simp only[Act.put,zD,zE,zF]
  refine fK 10 (some false) true rfl jr jr jr ?_;try simp only[Act.put,zD,zE,zF]
  refine fK 11 (some false) true rfl jr jr jr ?_;try simp only[Act.put,zD,zE,zF]
  refine fK 12 (some false) true rfl jr jr jr ?_;try simp only[Act.put,zD,zE,zF]
  iterate 2
   refine fG _ ?_ rfl jr jr (fun b c O=>?_) ?_;rotate_left
   ·have B:=a.out b c;go_simp;all_goals with_reducible rfl
   try simp only[Act.put,zD,zE,zF]
  refine fW (fun w4 c M=>?_);have Hb:=zt N c;clear M c;go_wp2;go_ret;exact⟨rfl,Hb.out⟩
 have Fin:Hid (fC fs (.mk k nm ws l)=false):=zh (by rw[lG,zH Z,zH A,zH k5,zH k6,zH k7]);rw[Fin.out];have j1:(k==1)=false:=by rw[zM];omega
 have j2:(k==2)=false:=by rw[zM];omega
 have j3:(k==3)=false:=by rw[zM];omega
 have j4:(k==4)=false:=by rw[zM];omega
 have j5:(k==5)=false:=by rw[zM];omega
 have j6:(k==6)=false:=by rw[zM];omega
 have j7:(k==7)=false:=by rw[zM];omega
 clear ih Fin Z A k5 k6 k7 I J E;go_enter func118,ntmps118;go_wp2;go_ret;exact⟨rfl,N.out⟩
theorem ym(fs:List (ByteArray × ByteArray)):∀q,QSz q→oh fs q:=by
 intro q;refine Q.ind (p:=fun q=>QSz q→oh fs q) ?_ q;intro k nm ws l ih b
 cases b with
 | mk h1 h2 h3=>exact Ex fs k nm ws l h1 h2 (fun x a=>ih x a (h3 x a))
end Qy

namespace Cu
open Go.RowKit Cr Qp Qy Ph
def zs(l:List UInt8):Int:=l.foldl (fun z c=>wrap64 (wrap64 (z*256)+(c.toNat:Int))) 0
theorem Cc(l:List UInt8)(c:UInt8):zs (l ++ [c])=wrap64 (wrap64 (zs l*256)+(c.toNat:Int)):=by unfold zs;rw[List.foldl_append];rfl
theorem NM:∀(n:Nat) (l:List UInt8),l.length=n→num l<9223372036854775808→zs l=(num l:Int):=by
 intro n
 induction n with
 | zero=>
  intro l a _;obtain rfl:=List.eq_nil_of_length_eq_zero a;rfl
 | succ n ih=>
  intro l a b;obtain⟨m,c,rfl⟩:∃m c,l=m ++ [c]:=⟨l.dropLast,l.getLast (by intro h;rw[h]at a;simp at a),(List.dropLast_concat_getLast _).symm⟩;rw[BO]at b ⊢;have d:=c.toNat_lt;rw[Cc,ih m (by simpa using a) jo,IntWalk.wrap64_in ((num m:Int)*256) jo,IntWalk.wrap64_in _ jo];omega
structure Rdc (w0 w:World) (a:Int):Prop where
 cur:Blk w (w0.heap.size+1) 122 #[.int .i64 a,.string ⟨#[]⟩]
 res:Blk w w0.heap.size 122 #[.int .i64 0,.string ⟨#[]⟩]
 bel:zWW w0 w
theorem Rdc.put{w0 w:World}{a:Int}(h:Rdc w0 w a)(b:Int):Rdc w0 (w.drew.setCell ⟨w0.heap.size+1,0,none⟩ (.int .i64 b)) b:=
 ⟨by have:=h.cur.drew.set_ 0 (.int .i64 b);simpa using this,h.res.drew.far jz _,h.bel.drew.setCell (p:=⟨w0.heap.size+1,0,none⟩) (zZ _) _⟩
structure Rdd (w0 w:World) (a:Int) (q:ByteArray):Prop where
 cur:Blk w (w0.heap.size+1) 122 #[.int .i64 a,.string q]
 res:Blk w w0.heap.size 122 #[.int .i64 0,.string ⟨#[]⟩]
 bel:zWW w0 w
theorem Rdc.query{w0 w:World}{a:Int}(h:Rdc w0 w a)(q:ByteArray):Rdd w0 (w.setCell ⟨w0.heap.size+1,1,none⟩ (.string q)) a q:=
 ⟨by have:=h.cur.set_ 1 (.string q);simpa using this,h.res.far jz _,h.bel.setCell (p:=⟨w0.heap.size+1,1,none⟩) (zZ _) _⟩
theorem Rdd.below{w0 w w':World}{a:Int}{q:ByteArray}(h:Rdd w0 w a q)(hb:zWW w w'):Rdd w0 w' a q:=
 ⟨h.cur.below hb h.cur.lt,h.res.below hb h.res.lt,h.bel.trans (hb.mono h.bel.size)⟩
theorem Ez(A:Option Addr)(m c:Nat)(L:List UInt8)(w:World)(hR:Reads w w.heap.size 1 A m (bv L))(hm:m≤140737488351232)(hc:m≤c):Calls prog 87 #[.slice A m c] w (sJ w L):=by
 have I:L.length=m:=by have:=hR.1;rw[ij]at this;omega
 have a:=Blk.new w 122 #[.int .i64 0,.string ⟨#[]⟩];have E:=(zy w.heap.size w).alloc (zG _) (.cells #[.int .i64 0,.string ⟨#[]⟩] 122);by_cases ai:m<17
 ·have t:=a.cell 0;have y:=a.cell 1;have ab:=a.frozen 0;have aa:=a.frozen 1;have ac:(m:Int)<17:=jo;simp at t y;have r:=zh a;have q:=zh E
  have Hno:Hid (∀(n:Nat) (C:ByteArray),IsC n C→L≠enc n C.data.toList):=zh (fun n C _ e=>by
   have:=nI n C.data.toList;rw[←e]at this
   omega)
  clear a E hR I ai;go_enter func87,ntmps87;go_wp2;exact zw (nV rfl rfl rfl r.out) rfl ⟨0,⟨#[]⟩,250,.inr ⟨Hno.out,rfl,rfl,rfl⟩,rfl,q.out⟩
 have ac:¬(m:Int)<17:=jo;have M:=Blk.new (w.alloc (.cells #[.int .i64 0,.string ⟨#[]⟩] 122)) 122 #[.int .i64 0,.string ⟨#[]⟩];have hz:(w.alloc (.cells #[.int .i64 0,.string ⟨#[]⟩] 122)).heap.size=w.heap.size+1:=jz;rw[hz]at M
 have ao:Hid (Rdc w ((w.alloc (.cells #[.int .i64 0,.string ⟨#[]⟩] 122)).alloc (.cells #[.int .i64 0,.string ⟨#[]⟩] 122)) 0):=zh
  ⟨M,a.alloc _,E.alloc jz _⟩
 obtain⟨b,o,rfl,H,U⟩:=hR.2 jo;have HR:=zh hR;have HL:=zh I;have Hcl:=zh U;clear E a M I hz hR U;go_enter func87,ntmps87;go_wp2_with fail;generalize ah:(w.alloc (.cells #[.int .i64 0,.string ⟨#[]⟩] 122)).alloc (.cells #[.int .i64 0,.string ⟨#[]⟩] 122)=w2 at *;clear ah;go_loopw [5] (fun i wr=>∃k:Nat,k≤8∧i=.int .i64 ((k:Int)+3)∧Rdc w wr (zs ((L.drop 3).take k))) (fun i _=>(11-intOf i).toNat)
 case atStart=>exact⟨0,jo,rfl,by simpa[zs]using ao.out⟩
 obtain⟨k,hk,rfl,l⟩:=hrel;have ae:=l.cur.cell 0;have aj:=l.cur.frozen 0;simp at ae;have aw:=l.cur.lt;by_cases aB:k<8
 ·have ap:(k:Int)+3<11:=jo;have ak:k+3<L.length:=by have:=HL.out;omega
  have ax:wr.cell? ⟨b,o+(k+3),none⟩=some (.int .u8 ((L[k+3]'ak).toNat:Int)):=(l.bel.cell (p:=⟨b,o+(k+3),none⟩) H).trans (Hcl.out (k+3) _ (by rw[qM,zU ak];rfl))
  have af:zs ((L.drop 3).take (k+1))=wrap64 (wrap64 (zs ((L.drop 3).take k)*256)+((L[k+3]'ak).toNat:Int)):=by
   rw[zL (by rw[zP];omega),Cc,List.getElem_drop];congr 5;omega
  have Hts:=zh af;have HE:=zh l;clear l af;generalize zs ((L.drop 3).take k)=z at *;generalize (L[k+3]'ak)=x at *;have hx:=x.toNat_lt;have J:0≤(k:Int)+3∧(k:Int)+3<(m:Int):=by have:=HL.out;omega
  have aC:=J.1;have aA:=J.2;have ay:((k:Int)+3).toNat=k+3:=jo;clear J
  go_upto_region 7 with(fail);refine kK 9 (fF []) (fun wx=>wx=wr.drew) (fun _=>True) jk jk (kN jk) rfl trivial ?_
  iterate 9
   refine ik _ ?_ rfl jr jr (fun wx hC=>?_) ?_;rotate_left
   ·subst hC;go_simp;all_goals with_reducible rfl
   try simp only[Act.put,zD,zE,zF]
  refine kT (fun w6 hC D=>?_);subst hC;have Fin:=zh (HE.out.put (wrap64 (wrap64 (z*256)+(x.toNat:Int))));clear D;go_wp2;go_roundw
  case rel=>exact⟨k+1,jo,by congr 1,by rw[Hts.out];exact Fin.out⟩
  simp[intOf];omega
 obtain rfl:k=8:=jo;have Hz:Hid (aOf L<9223372036854775808→zs ((L.drop 3).take 8)=(aOf L:Int)):=zh (fun h=>NM _ _ rfl h);generalize zs ((L.drop 3).take 8)=z at *;have s:=l.cur.cell 1;have al:=l.cur.frozen 1;simp at s;have HE:=zh l;have HS:Hid ((⟨(mq L).toArray⟩:ByteArray).data.toList=mq L):=zh jz
 have an:(convert 30 9 (.slice (some ⟨b,o+13,none⟩) (m-17) (c-13))).run prog wr=.ok (.string ⟨(mq L).toArray⟩) wr:=by
  refine nG (B:=w.heap.size) (c-13) ⟨by rw[ij];unfold mq;rw[zK,zP];have:=HL.out;omega,fun _=>⟨b,o+13,rfl,H,fun j u N=>?_⟩⟩;refine(HE.out.bel.cell (p:=⟨b,o+13+j,none⟩) H).trans ?_;rw[Nat.add_assoc];refine Hcl.out (13+j) u ?_;rw[qM]at N ⊢;unfold mq at N;rw[List.getElem?_take]at N
  split at N
  ·rw[List.getElem?_drop]at N;exact N
  cases N
 have W:(13:Int)≤(m:Int)-4:=jo;have P:(m:Int)-4≤(c:Int):=jo;have Z:((m:Int)-4).toNat=m-4:=jo;have T:m-4-13=m-17:=jo;have V:¬c=13:=jo;clear l ae aj;generalize (⟨(mq L).toArray⟩:ByteArray)=S at *
 go_upto_region 9 with(fail);have f:=zh (HE.out.query S);clear HE s al an W P Z T V;generalize ag:wr.setCell ⟨w.heap.size+1,1,none⟩ (.string S)=w7 at *;clear ag;have s:=f.out.cur.cell 0;have G:=f.out.cur.cell 1;simp at s G;have ar:=f.out.cur.lt;have Hdec:=zh (CH Hz.out (.inr HS.out));by_cases D:IsC z S
 ·obtain⟨n,rfl⟩:∃n:Nat,z=n:=⟨z.toNat,by have:=D.1;omega⟩;have R:=yA n S w7 D;have HI:=zh D;clear D;go_wp2_with fail;refine R.mono ?_;rintro e w8 ⟨⟨v8,rfl,d⟩,v⟩;have g:=zh (f.out.below v);have q:Hid (zWW w w8):=zh g.out.bel;obtain⟨av,am,rfl,F⟩:=fT d;have au:=nG am F;have aq:=nG c (HR.out.below q.out);have s:=g.out.cur.cell 0;have G:=g.out.cur.cell 1;simp at s G;have a:=g.out.res;have t:=a.cell 0;have y:=a.cell 1;have ab:=a.frozen 0;have aa:=a.frozen 1;simp at t y;have r:=zh a;clear R v d F a f;generalize ad:enc n S.data.toList=O at *;have Hen:=zh ad;clear ad;by_cases l:O=L
  ·subst l;generalize (⟨O.toArray⟩:ByteArray)=X at *;go_wp2;exact zw (nV rfl rfl rfl (nH r.out)) rfl ⟨n,S,0,.inl ⟨n,rfl,HI.out,Hen.out.symm,rfl⟩,rfl,(q.out.setCell (p:=⟨w.heap.size,0,none⟩) (zG _) _).setCell (p:=⟨w.heap.size,1,none⟩) (zG _) _⟩
  have hX:((⟨O.toArray⟩:ByteArray).toList==(⟨L.toArray⟩:ByteArray).toList)=false:=by
   rw[Tk.tl,Tk.tl,zM];intro h;exact l (by simpa using h)
  have az:((⟨O.toArray⟩:ByteArray).toList != (⟨L.toArray⟩:ByteArray).toList)=true:=by rw[bne,hX];rfl
  have Hno:Hid (∀(n:Nat) (C:ByteArray),IsC n C→L≠enc n C.data.toList):=zh (by
   rcases Hdec.out with⟨n',e1,_,h2⟩|h
   ·exact absurd (by rw[←Hen.out,←h2];congr 1;omega) l
   exact h)
  clear l Hdec;generalize (⟨O.toArray⟩:ByteArray)=X at *;generalize (⟨L.toArray⟩:ByteArray)=Y at *;go_wp2;exact zw (nV rfl rfl rfl (nH r.out)) rfl ⟨0,⟨#[]⟩,250,.inr ⟨Hno.out,rfl,rfl,rfl⟩,rfl,(q.out.setCell (p:=⟨w.heap.size,0,none⟩) (zG _) _).setCell (p:=⟨w.heap.size,1,none⟩) (zG _) _⟩
 have R:=yZ z S w7 D
 have Hno:Hid (∀(n:Nat) (C:ByteArray),IsC n C→L≠enc n C.data.toList):=zh (by
  rcases Hdec.out with⟨n',e1,h1,h2⟩|h
  ·exact absurd h1 D
  exact h)
 clear D Hdec;go_wp2_with fail;refine R.mono ?_;rintro e w8 ⟨⟨v8,rfl,d⟩,v⟩;have g:=zh (f.out.below v);have q:Hid (zWW w w8):=zh g.out.bel;have a:=g.out.res;have t:=a.cell 0;have y:=a.cell 1;have ab:=a.frozen 0;have aa:=a.frozen 1;simp at t y;have r:=zh a;clear R v d a f;go_wp2;exact zw (nV rfl rfl rfl (nH r.out)) rfl ⟨0,⟨#[]⟩,250,.inr ⟨Hno.out,rfl,rfl,rfl⟩,rfl,(q.out.setCell (p:=⟨w.heap.size,0,none⟩) (zG _) _).setCell (p:=⟨w.heap.size,1,none⟩) (zG _) _⟩
end Cu
end Go.Proofs.YtmomjpolkkbhnaaGreat
