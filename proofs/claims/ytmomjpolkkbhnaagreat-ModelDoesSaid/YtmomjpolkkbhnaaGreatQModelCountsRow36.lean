/- Answers, each row of them somebody's own. (No walk.) -/
import Derived.Deep.Strs
import Derived.Test.YtmomjpolkkbhnaaGreatQModelCountsRow35
set_option linter.unusedSimpArgs false
set_option linter.unusedVariables false
set_option maxRecDepth 20000
set_option maxHeartbeats 100000000
open Go.Proofs.Tryz
namespace Go.Proofs.YtmomjpolkkbhnaaGreat
namespace Md
open Go.RowKit Ut Tk Qy Qp Ev Cu
open Hi (Bk bkC ofF OwnB)
theorem I0{w:World}{base k n j c:Nat}{T:TypeId}{A:Option Addr}{xs:List Value}(h:w.ownsRow base T k (.slice A n c) n xs)(hj:j≤n):w.ownsRow base T k (.slice A j c) j (xs.take (j*k)):=by
 have hl:=h.1;have hjk:j*k≤n*k:=Nat.mul_le_mul_right k hj;refine⟨by rw[zK,hl];exact Nat.min_eq_left hjk,?_⟩;rcases h.2 with⟨e,h0⟩|⟨g,cap,cur,e,h1,h2,h3,h4,h5,h6⟩
 ·injection e with e1 e2 e3;subst e1 e3;obtain rfl:j=0:=jo;exact .inl ⟨rfl,rfl⟩
 injection e with e1 e2 e3;subst e1 e3;exact .inr ⟨g,c,cur,rfl,h1,h2,jo,h4,h5,by rw[←h6,List.take_take,Nat.min_eq_left hjk]⟩
theorem DW.ofS{w:World}{base:Nat}{S:Nat→Prop}{v:Value}{ds:List Dc}(h:DOwnS w base S v ds)(hS:∀b,S b→b<w.heap.size):DW w v ds:=by
 obtain⟨vss,h1,h2,h3⟩:=h.ex;exact⟨base,vss,h1,h2,fun i a b=>qy (h3 i a b) hS⟩
theorem DW.pre{w:World}{A:Option Addr}{n j c:Nat}{ds:List Dc}(h:DW w (.slice A n c) ds)(hn:ds.length=n)(hj:j≤n):DW w (.slice A j c) (ds.take j):=by
 obtain⟨base,vss,h1,h2,h3⟩:=h.ex
 have h4:∀v∈vss,v.length=3:=fun v hv=>by
  obtain⟨i,hi,rfl⟩:=zp.1 hv;exact(h3 i jo hi).len
 have hl:(ds.take j).length=j:=jw;refine⟨base,vss.take j,by rw[zK,hl];omega,?_,fun i a b=>?_⟩
 ·rw[hl,l7 h4];rw[hn]at h2;exact I0 h2 hj
 rw[List.getElem_take,List.getElem_take];exact h3 i (by rw[hl]at a;omega) (by rw[zK]at b;omega)
theorem rA(m:M)(y:Rz):NoS (rmC m y):=fun o s t h1 h2=>by
 rcases zg o 12 with ho|ho
 ·rcases(by omega:o=0∨o=1∨o=2∨o=3∨o=4∨o=5∨o=6∨o=7∨o=8∨o=9∨o=10∨o=11)with rfl|rfl|rfl|rfl|rfl|rfl|rfl|rfl|rfl|rfl|rfl|rfl<;>cases h1
 rw[zn (by simpa[rmC]using ho)]at h1
 cases h1
structure AnsO (w:World) (cs:Array Value) (a:Ans):Prop where
 ex:∃v1 v2 v3,cs=rsC a.E a.seq a.fl v1 v2 v3 a.ev a.nx a.nw a.ak∧DW w v1 a.docs∧(∃base,w.ownsRow base 91 2 v2 a.bk.length (bkC a.bk))∧∃base,w.ownsRow base 5 1 v3 a.cur.length (bv a.cur)
 few:a.docs.length≤1048576∧a.bk.length≤1048576∧a.cur.length≤1048576
theorem lU(w:World):DW w nil []:=⟨0,[],rfl,vM _ _ _ _,fun i h=>absurd h (by simp)⟩
section
variable {w w':World} {cs:Array Value} {a:Ans}
theorem aT(w:World)(e s f v n u k:Int):AnsO w (rsC e s f nil nil nil v n u k) ⟨e,s,f,[],[],[],v,n,u,k⟩:=
 ⟨⟨nil,nil,nil,rfl,lU w,⟨0,vM _ _ _ _⟩,0,vM _ _ _ _⟩,zS _,zS _,zS _⟩
theorem AnsO.below(h:AnsO w cs a)(hb:zWW w w'):AnsO w' cs a:=by
 obtain⟨⟨v1,v2,v3,e,h1,⟨b2,h2⟩,b3,h3⟩,hf⟩:=h;exact⟨⟨v1,v2,v3,e,h1.below hb,⟨b2,h2.kept (aJ hb none) (by cases hv:v2.ownBlock<;>simp)⟩,b3,h3.kept (aJ hb none) (by cases hv:v3.ownBlock<;>simp)⟩,hf⟩
theorem AnsO.at_(h:AnsO w cs a):AnsAt w cs a:=by
 obtain⟨⟨v1,v2,v3,e,h1,⟨b2,h2⟩,b3,h3⟩,hf⟩:=h;obtain⟨A,c,rfl,hD⟩:=h1.at_;obtain⟨B,d,rfl,hB,_⟩:=Ev.aP h2;obtain⟨C,f,rfl,hC,_⟩:=Ev.aP h3;exact⟨A,_,c,B,_,d,C,_,f,e,hD,hf.1,hB,rfl,hf.2.1,hC,rfl,hf.2.2⟩
theorem AnsO.row{g:Nat}{T:TypeId}{old:Array Value}(h:AnsO w cs a)(hg:Blk w g T old)(hT:48≠T∧91≠T∧5≠T)(hn:NoS old)(cs':Array Value):AnsO (w.setRow g cs') cs a:=by
 obtain⟨⟨v1,v2,v3,e,h1,⟨b2,h2⟩,b3,h3⟩,hf⟩:=h
 exact⟨⟨v1,v2,v3,e,h1.keep hg hT.1 hn jz (fun b hb=>vJ w g b cs' hb),⟨b2,cT h2 (fun b hb=>vJ w g b cs' (fun e=>by subst e;exact hT.2.1 ((aY h2 hb).one ⟨_,_,hg⟩)))⟩,
  b3,cT h3 (fun b hb=>vJ w g b cs' (fun e=>by subst e;exact hT.2.2 ((aY h3 hb).one ⟨_,_,hg⟩)))⟩,hf⟩
theorem AnsO.ten(h:AnsO w cs a):Ten cs:=by
 obtain⟨⟨v1,v2,v3,rfl,h1,⟨b2,h2⟩,b3,h3⟩,hf⟩:=h;obtain⟨A,c,rfl,hD⟩:=h1.at_;obtain⟨B,d,rfl,hB,_⟩:=Ev.aP h2;obtain⟨C,f,rfl,hC,_⟩:=Ev.aP h3;exact Md.ten ..
end
end Md

namespace Md
open Go.RowKit Ut Tk Qy Qp Ev Cu
section
variable {base:Nat} {w':World} {m m':M} {r:Rq} {cs:Array Value}
theorem DoR.k1(h:DoR base w' m r m' cs)(e:r.op=1):m'=(ing m r).1∧cs=(ing m r).2:=by
 rcases h with⟨_,h⟩|⟨h,_⟩|⟨h,_⟩|⟨h,_⟩|⟨h,_⟩|⟨h,_⟩|⟨h,_⟩|⟨h,_⟩|⟨h,_⟩|⟨h,_⟩|⟨h,_⟩<;>first|exact h|omega
theorem DoR.k9(h:DoR base w' m r m' cs)(e:r.op=9):m'=m∧OpR base w' r cs:=by
 rcases h with⟨h,_⟩|⟨h,_⟩|⟨h,_⟩|⟨h,_⟩|⟨h,_⟩|⟨h,_⟩|⟨h,_⟩|⟨_,h⟩|⟨h,_⟩|⟨h,_⟩|⟨h,_⟩<;>first|exact h|omega
theorem DoR.k10(h:DoR base w' m r m' cs)(e:r.op=10):m'=m∧TlR w' m r base cs:=by
 rcases h with⟨h,_⟩|⟨h,_⟩|⟨h,_⟩|⟨h,_⟩|⟨h,_⟩|⟨h,_⟩|⟨h,_⟩|⟨h,_⟩|⟨_,h⟩|⟨h,_⟩|⟨h,_⟩<;>first|exact h|omega
theorem DoR.k11(h:DoR base w' m r m' cs)(e:r.op=11):m'=m∧cs=fH m:=by
 rcases h with⟨h,_⟩|⟨h,_⟩|⟨h,_⟩|⟨h,_⟩|⟨h,_⟩|⟨h,_⟩|⟨h,_⟩|⟨h,_⟩|⟨h,_⟩|⟨_,h⟩|⟨h,_⟩<;>first|exact h|omega
theorem DoR.k0(h:DoR base w' m r m' cs)(e:r.op=0):m'=m∧cs=rsC 272 0 0 nil nil nil 0 0 0 0:=by
 rcases h with⟨h,_⟩|⟨h,_⟩|⟨h,_⟩|⟨h,_⟩|⟨h,_⟩|⟨h,_⟩|⟨h,_⟩|⟨h,_⟩|⟨h,_⟩|⟨h,_⟩|⟨_,h⟩<;>first|exact h|omega
end
def conf:Cf:=⟨1000,100,50,8,20,false,false⟩
theorem mg:okC conf:=by unfold okC conf;decide
theorem mP(w:World):Calls prog 13 #[] w fun e w'=>e=.returned conf.v∧zWW w w':=by
 have H:=zh (And.intro (Blk.new w 25 #[.int .i64 1000,.int .i64 100,.int .i64 50,.int .i64 8,.int .i64 20,.bool false,.bool false]) ((zw w.heap.size w).alloc (zG _) (.cells #[.int .i64 1000,.int .i64 100,.int .i64 50,.int .i64 8,.int .i64 20,.bool false,.bool false] 25)));go_enter func13,ntmps13;go_wp2_with fail;refine zu (aA rfl rfl (zr _ w.heap.size 25 25 _ (0,0) _ H.out.1 underlying25 rfl jk)) rfl ⟨rfl,H.out.2⟩
theorem mQ{n0 X:Nat}{v:Value}{w w':World}{ds:List Dc}(h:Chg (fun b=>b=X∨v.ownBlock=some b) w w')(ho:DOwn w n0 v ds)(hX:n0≤X)(hn:n0≤w.heap.size):Below n0 w w':=h.below hn (fun k hk=>by
 rcases hk with rfl|hk
 ·exact hX
 obtain⟨vss,_,g2,_⟩:=ho.ex
 exact(g2.lt k hk).1)
theorem jh{n0 X K g:Nat}{v:Value}{m:M}{w w':World}{T:TypeId}{cs:Array Value}(h:Chg (fun b=>b=X∨v.ownBlock=some b) w w')(hA:At w n0 X K v m)(hb:Blk w g T cs)(h1:T≠81)(h2:T≠48):Blk w' g T cs:=ib h hb (fun hk=>by
 rcases hk with rfl|hk
 ·exact h1 ((qh hb).one ⟨_,_,hA.blk⟩)
 obtain⟨vss,_,g2,_⟩:=hA.own.ex
 exact h2 ((qh hb).one (aY g2 hk)))
def rq0:Rq:=⟨0,[],false,0,⟨#[]⟩,0,0,0,0,0,[]⟩
theorem nI{w:World}(r:Rq)(h1:r.evs=[])(h2:r.cur=[])(h3:I64 r.now)(h4:r.width≤9223372036854775807):RqAt w r ⟨none,0,0,none,0,0⟩:=
 ⟨⟨by rw[h1];rfl,jd,zG _,[],rfl,Reads.none_,fun i h=>absurd h (by rw[h1];simp)⟩,by rw[h2];exact Reads.none_,⟨jd,zG _,fun _=>rfl⟩,fun e he=>absurd (h1 ▸ he) jz,h3,h4⟩
def exE:List Evn:=[(1,[]),(2,[])]
def rq1:Rq:={ rq0 with op:=1,evs:=exE }
def kT:Rq:={ rq0 with op:=11 }
abbrev exM:M:=⟨conf,[],-9223372036854775808,-9223372036854775808,0⟩
def rK:M:=⟨conf,[⟨1,1,[]⟩,⟨2,2,[]⟩],-9223372036854775808,-9223372036854775808,0⟩
theorem J1:bI 1 exE=0:=by decide +kernel
theorem J2:ing exM rq1=(rK,rsC 0 1 0 nil nil nil 0 0 0 0):=by
 have h:bI ((exM.ds.length:Nat)+1) exE=0:=J1;unfold ing;rw[zH jd,zH jd];show (if bI ((exM.ds.length:Nat)+1) exE≠0 then _ else _)=_;rw[zH (by rw[h];decide)];rfl
theorem I4:fH rK=rsC 0 0 (-9223372036854775808) nil nil nil 2 3 (-9223372036854775808) 0:=by
 have h:(upL rK (fun _=>true)).length=2:=jq;unfold fH;rw[h];rfl
theorem I5(w:World):(Instr.field 42 (.agg #[.int .i64 272,.int .i64 0,.int .i64 0,.slice none 0 0,.slice none 0 0,.slice none 0 0,.int .i64 0,.int .i64 0,.int .i64 0,.int .i64 0]) 0).run prog w=.ok (.int .i64 272) w:=by kernel_rfl
theorem l8(w:World):Calls prog 9 #[] w fun e w'=>e=.returned (.bool true)∧zWW w w':=by
 go_enter func9,ntmps9;go_wp2_with fail;refine(mP w).mono ?_;rintro e w1 ⟨rfl,hb1⟩;have HB1:=zh hb1;clear hb1;go_wp2_with fail;refine(qc conf jd w1).mono ?_;rintro e w2 hN;rcases hN with⟨_,X,rfl,hX,hA,hb2⟩|⟨h,_⟩
 case inr=>exact absurd mg h
 have HB2:=zt HB1 hb2;have HA2:=zh hA;have hs1:=HB1.out.size;clear hA hb2;have hb3:zWW w2 (w2.alloc (.cells #[.int .i64 1,.slice none 0 0,.int .i64 2,.slice none 0 0] 46)):=zRR _;have hE3:=Rg.I3 (k:=2) w2 46 [.int .i64 1,.slice none 0 0,.int .i64 2,.slice none 0 0] 2 rfl jo
 have hR3:RqAt (w2.alloc (.cells #[.int .i64 1,.slice none 0 0,.int .i64 2,.slice none 0 0] 46)) rq1 ⟨some ⟨w2.heap.size,0,none⟩,2,2,none,0,0⟩:=
  ⟨⟨rfl,by show (2:Nat)≤4398046511104;decide,zG _,[[.int .i64 1,.slice none 0 0],[.int .i64 2,.slice none 0 0]],rfl,hE3,fun i h1 h2=>by
   have hi:i=0∨i=1:=by have:i<2:=h1;omega
   rcases hi with rfl|rfl
   ·exact⟨none,0,0,rfl,⟨Reads.none_,rfl,jd,zG _,fun f hf=>(nomatch hf),fun _=>rfl⟩⟩
   ·exact⟨none,0,0,rfl,⟨Reads.none_,rfl,jd,zG _,fun f hf=>(nomatch hf),fun _=>rfl⟩⟩⟩,Reads.none_,⟨by show (0:Nat)≤140737488351232;decide,zG _,fun _=>rfl⟩,fun e he=>by
   have:e=(1,[])∨e=(2,[]):=by simpa[rq1,exE]using he
   rcases this with rfl|rfl<;>exact⟨jd,jd⟩,⟨jd,jd⟩,jd⟩
 have CD1:=zh (gY (HA2.out.below hb3) (by decide:0≤59000) hX _ _ hR3);have HA3:=zh (HA2.out.below hb3);have HB3:=zt HB2 hb3;clear hb3 hE3 hR3;go_wp2_with fail;refine CD1.out.mono ?_;rintro e w4 ⟨v4,m4,cs,rfl,hR,hA4,hc4,_⟩;obtain⟨rfl,rfl⟩:=hR.k1 rfl;rw[show ing (⟨conf,[],-9223372036854775808,-9223372036854775808,0⟩:M) rq1=_ from J2]at hA4 ⊢;have HB4:=zh (HB3.out.trans ((mQ hc4 HA3.out.own hX HA3.out.n0).mono hs1));have HA4:=zh hA4;have hb5:zWW w4 (w4.alloc (.cells (rsC 0 1 0 nil nil nil 0 0 0 0) 42)):=zRR _;have HBa:=zh (Blk.new w4 42 (rsC 0 1 0 nil nil nil 0 0 0 0));have HA5:=zh (hA4.below hb5);have HB5:=zt HB4 hb5;have CD2:=zh (gY HA5.out (by decide:0+64≤59000) hX kT _ (nI kT rfl rfl ⟨jd,jd⟩ jd));clear hR hA4 hc4 CD1 hb5
 go_upto_region 5 with(fail);generalize w4.alloc (.cells (rsC 0 1 0 nil nil nil 0 0 0 0) 42)=w5 at *;go_wp2_with fail;refine CD2.out.mono ?_;rintro e w6 ⟨v6,m6,cs,rfl,hR,hA6,hc6,hbl⟩;obtain⟨rfl,rfl⟩:=hR.k11 rfl;obtain⟨hb6,_⟩:=hbl.1 jd;rw[I4];have hb7:zWW w6 (w6.alloc (.cells (rsC 0 0 (-9223372036854775808) nil nil nil 2 3 (-9223372036854775808) 0) 42)):=zRR _;have hb57:=hb6.trans (hb7.mono hb6.size);have HBb:=zh (Blk.new w6 42 (rsC 0 0 (-9223372036854775808) nil nil nil 2 3 (-9223372036854775808) 0));have HBa7:=zb HBa hb57;have HB7:=zt HB5 hb57;have HA7:=zh (hA6.below hb7);have CD3:=zh (gY HA7.out (by decide:0+64+64≤59000) hX rq0 _ (nI rq0 rfl rfl ⟨jd,jd⟩ jd));clear hR hA6 hc6 hbl hb6 hb7 hb57 CD2 HBa
 go_upto_region 6 with(fail);generalize w6.alloc (.cells (rsC 0 0 (-9223372036854775808) nil nil nil 2 3 (-9223372036854775808) 0) 42)=w7 at *;have a0:=HBa7.out.cell 0;have a1:=HBa7.out.cell 1;have b6:=HBb.out.cell 6;have b7:=HBb.out.cell 7;have b9:=HBb.out.cell 9;simp only[rsC,zA,zB,zC]at a0 a1 b6 b7 b9;go_wp2_with fail;refine CD3.out.mono ?_;rintro e w8 ⟨v8,m8,cs,rfl,hR,hA8,hc8,_⟩;obtain⟨_,hcs⟩:=hR.k0 rfl;have hcs2:cs=#[.int .i64 272,.int .i64 0,.int .i64 0,.slice none 0 0,.slice none 0 0,.slice none 0 0,.int .i64 0,.int .i64 0,.int .i64 0,.int .i64 0]:=hcs;subst hcs2;have HB8:=zh (HB7.out.trans ((mQ hc8 HA7.out.own hX HA7.out.n0).mono hs1));have hfe:=I5 w8;clear hcs hR hA8 hc8 CD3 a0 a1 b6 b7 b9;go_wp2;go_ret;exact⟨rfl,HB8.out⟩
end Md

namespace Mx
open Go.RowKit Go.ChangeShapes Go.WideShapes Go.ChangeAt Go.Deep Go.Joins Ut Tk Qy Ev Qp
section
variable {H:Type} {enc:TypeId × Value→H} {W:World} {base:Nat}
theorem BP:prog.cellsOf 85=2:=by kernel_rfl
theorem BQ:prog.bytesOf 85=32:=by kernel_rfl
theorem sS:prog.cellsOf 46=2:=by kernel_rfl
theorem BR:prog.bytesOf 46=32:=by kernel_rfl
theorem rV:prog.cellsOf 9=1:=by kernel_rfl
theorem pG:prog.cellsOf 3=1:=by kernel_rfl
theorem Ag:prog.cellsOf 44=1:=by kernel_rfl
theorem Ah:prog.cellsOf 35=1:=by kernel_rfl
theorem JC{α:Type}{l:List α}(h:l.length=2):∃a b,l=[a,b]:=by
 match l,h with
 | [a,b],_=>exact⟨a,b,rfl⟩
theorem GL{t e:TypeId}{fuel:Nat}{P:Program}{A:Option Addr}{len cap:Nat}{x:DataW H × List MemPlace}(ht:P.underlying t=some (.slice e))(h:DataW.trod enc P W 0 (fun _=>true) true fuel t [.slice A len cap]=some x):A=none→cap=0:=by
 rcases open_slice ht h with⟨hcs,_⟩|⟨a,len,cap,m,n,D,Pl,hcs,_⟩
 ·simp only[zQ,and_true,Value.slice.injEq]at hcs;exact fun _=>hcs.2.2
 simp only[zQ,and_true,Value.slice.injEq]at hcs;intro h;rw[h]at hcs
 cases hcs.1
theorem EU{fuel:Nat}{v:Value}{x:DataW H × List MemPlace}(h:DataW.trod enc prog W 0 (fun _=>true) true fuel 44 [v]=some x)(hw:∀n∈x.1.weights prog 44,n≤140737488351232) :
  ∃(F:Option Addr) (n c:Nat) (fs:List (ByteArray × ByteArray)),v=.slice F n c∧FlAt W W.heap.size F n c fs:=by
 obtain⟨A,len,cap,vss,ds,spare,rfl,hl,hv,h2,hR,hd,hx,hall⟩:=qB underlying44 BP jo h;have hnil:=GL underlying44 h
 have each:∀i:Nat,∃f:ByteArray × ByteArray,∀(h1:i<vss.length) (h2:i<ds.length),vss[i]=[.string f.1,.string f.2]∧ds[i]=.agg [.lit (.string f.1.data.toList),.lit (.string f.2.data.toList)]:=fun i=>by
  by_cases hi:i<vss.length∧i<ds.length
  ·obtain⟨n,y,g1,g2⟩:=hall i hi.1 hi.2;obtain⟨y0,y1,n',rfl,hlen,t0,t1⟩:=trod_struct2 underlying85 g1;have hvl:=h2 _ (za hi.1);obtain⟨u0,u1,hu⟩:=JC hvl;rw[hu]at t0 t1;simp only[rV,List.drop_zero,zm,zX,List.take_zero]at t0 t1;obtain⟨s0,e0,rfl,_⟩:=DataW.trod_string underlying9 t0;obtain⟨s1,e1,rfl,_⟩:=DataW.trod_string underlying9 t1;simp only[zQ,and_true]at e0 e1;subst e0 e1;exact⟨(s0,s1),fun _ _=>⟨hu,g2.symm⟩⟩
  exact⟨(ByteArray.empty,ByteArray.empty),fun h1 h2=>absurd ⟨h1,h2⟩ hi⟩
 obtain⟨f,hf⟩:=Classical.skolem.1 each;have hlen:((List.range len).map f).length=len:=jz
 have e:vss.flatten=aO ((List.range len).map f):=by
  apply List.ext_getElem?;intro j;by_cases hj:j<len*2
  ·have hi:j/2<vss.length:=jo;have hg:=pI ((List.range len).map f) (j/2) (by rw[hlen];omega);have hfi:=(hf (j/2) hi jo).1;have hget:((List.range len).map f)[j/2]'(by rw[hlen];omega)=f (j/2):=jz;rw[hget]at hg;rcases Nat.mod_two_eq_zero_or_one j with e0|e1
   ·have h0:=cQ h2 (j/2) 0 hi jo;have e:j=j/2*2:=jo;rw[hfi,Nat.add_zero]at h0;rw[e,h0,hg.1];rfl
   have h0:=cQ h2 (j/2) 1 hi jo;have e:j=j/2*2+1:=jo;rw[hfi]at h0;rw[e,h0,hg.2];rfl
  rw[List.getElem?_eq_none (by rw[qA h2];omega),List.getElem?_eq_none (by rw[mD,hlen];omega)]
 rw[e]at hR
 have hbd:len≤8796093021952∧∀i,i<len→(f i).1.size≤140737488351232∧(f i).2.size≤140737488351232:=by
  rcases hx with hx|⟨h0,_⟩
  ·rw[hx]at hw;have h3:=oI underlying44 hw;rw[BQ]at h3;refine⟨jo,fun i hi=>?_⟩;have hm:ds[i]'jo∈ds:=za _;have h4:=oF underlying44 hw hm;rw[(hf i jo jo).2]at h4;have g0:=jB (j:=0) underlying85 h4 rfl rfl (f i).1.data.toList.length (by simp[DataW.weights]);have g1:=jB (j:=1) underlying85 h4 rfl rfl (f i).2.data.toList.length (by simp[DataW.weights]);rw[aB]at g0 g1;exact⟨g0,g1⟩
  exact⟨jo,fun i hi=>jo⟩
 exact⟨A,len,cap,_,rfl,hR,hlen,hbd.1,hl,fun s hs=>by
  obtain⟨i,hi,rfl⟩:=List.mem_map.1 hs
  exact hbd.2 i (by simpa using hi),hnil⟩
end
end Mx

namespace Md
open Go.RowKit Ut Tk Qy Ev Qp
theorem Ai(t:Int)(F1 F2:Option Addr)(n c1 c2:Nat)(fs:List (ByteArray × ByteArray))(w:World)(h1:Reads w w.heap.size 2 F1 n (aO fs))(h2:Reads w w.heap.size 2 F2 n (aO fs))(hl:fs.length=n)(hn:n≤8796093021952) :
  Calls prog 90 #[.agg #[.int .i64 t,.slice F1 n c1],.agg #[.int .i64 t,.slice F2 n c2]] w fun e w'=>e=.returned (.bool true)∧zWW w w':=by
 have hb1:zWW w (w.alloc (.cells #[.int .i64 t,.slice F1 n c1] 46)):=zRR _;have hb2:zWW w ((w.alloc (.cells #[.int .i64 t,.slice F1 n c1] 46)).alloc (.cells #[.int .i64 t,.slice F2 n c2] 46)):=hb1.alloc hb1.size _;have hB1:=(Blk.new w 46 #[.int .i64 t,.slice F1 n c1]).alloc (.cells #[.int .i64 t,.slice F2 n c2] 46);have hB2:=Blk.new (w.alloc (.cells #[.int .i64 t,.slice F1 n c1] 46)) 46 #[.int .i64 t,.slice F2 n c2];have z1:(w.alloc (.cells #[.int .i64 t,.slice F1 n c1] 46)).heap.size=w.heap.size+1:=jz;rw[z1]at hB2;have z2:w.heap.size+1<(World.heap ((w.alloc (.cells #[.int .i64 t,.slice F1 n c1] 46)).alloc (.cells #[.int .i64 t,.slice F2 n c2] 46))).size:=jz;have H1:=zh (bD hb2 h1);have H2:=zh (bD hb2 h2);have HB1:=zh hB1;have HB2:=zh hB2;have Hb2:=zh hb2;have Hl:=zh hl;have htt:(t==t)=true:=jz;have htn:(t != t)=false:=jz;clear h1 h2 hl hb1 hb2 hB1 hB2 z1;go_enter func90,ntmps90;go_wp2_with fail;generalize hw2:((w.alloc (.cells #[.int .i64 t,.slice F1 n c1] 46)).alloc (.cells #[.int .i64 t,.slice F2 n c2] 46))=w2 at *;clear hw2;go_loopw [5] (fun i wr=>∃k:Nat,k≤n∧i=.int .i64 k∧zWW w2 wr) (fun i _=>n-(intOf i).toNat)
 case atStart=>exact⟨0,zS _,rfl,zw _ _⟩
 obtain⟨k,hk,rfl,hb⟩:=hrel;have hq1:=(HB1.out.below hb jo).cell 1;have hq2:=(HB2.out.below hb jo).cell 1;simp at hq1 hq2;by_cases hlt:k<n
 ·obtain⟨b1,o1,rfl,hl1,g1,g2⟩:=iB (bD hb H1.out) (k:=k) (by rw[Hl.out];exact hlt);obtain⟨b2,o2,rfl,hl2,g3,g4⟩:=iB (bD hb H2.out) (k:=k) (by rw[Hl.out];exact hlt);have hi0:(0:Int)≤(k:Int):=jo;have hi1:(k:Int)<(n:Int):=jo;have Hb:=zh hb;generalize (fs[k]'(by rw[Hl.out];exact hlt))=f at *;obtain⟨x,y⟩:=f;clear hb;go_wp2_with fail;go_quiet (fail);go_wp2;go_roundw
  case rel=>exact⟨k+1,jo,ju,jW Hb.out nq⟩
  simp[intOf];omega
 obtain rfl:k=n:=jo;have Hb:=zt Hb2 hb;clear hb;go_wp2;go_ret;exact⟨rfl,Hb.out⟩
theorem BV(A1 A2:Option Addr)(n c1 c2:Nat)(ds:List Dc)(w:World)(h1:DocsAt w w.heap.size A1 n ds)(h2:DocsAt w w.heap.size A2 n ds)(hn:n≤8796093021952) :
    Calls prog 55 #[.slice A1 n c1,.slice A2 n c2] w fun e w'=>e=.returned (.bool true)∧zWW w w':=by
  have H1:=zh h1;have H2:=zh h2;have Hl:=zh h1.ln;clear h1 h2;go_enter func55,ntmps55;go_wp2;go_loopw [5] (fun i wr=>∃k:Nat,k≤n∧i=.int .i64 k∧zWW w wr) (fun i _=>n-(intOf i).toNat)
  case atStart=>exact⟨0,zS _,rfl,zw _ _⟩
  obtain⟨k,hk,rfl,hb⟩:=hrel;by_cases hlt:k<n
  · obtain⟨b1,o1,F1,n1,f1,rfl,hl1,g0,g1,g2,hR1,hln,hfn,_,_⟩:=(H1.out.grow hb).at_ (i:=k) (by rw[Hl.out];exact hlt);obtain⟨b2,o2,F2,n2,f2,rfl,hl2,g3,g4,g5,hR2,hln2,_,_,_⟩:=(H2.out.grow hb).at_ (i:=k) (by rw[Hl.out];exact hlt);rw[hln]at hln2;subst hln2;have hi0:(0:Int)≤(k:Int):=jo;have hi1:(k:Int)<(n:Int):=jo;have C1:Hid (∀wx,zWW wr wx→Calls prog 90 #[.agg #[.int .i64 (ds[k]'(by rw[Hl.out];exact hlt)).at_,.slice F1 n1 f1],.agg #[.int .i64 (ds[k]'(by rw[Hl.out];exact hlt)).at_,.slice F2 n1 f2]] wx fun e w'=>e=.returned (.bool true)∧zWW wx w'):=zh (fun wx hC=>Ai _ F1 F2 n1 f1 f2 _ wx (bD hC hR1) (bD hC hR2) hln hfn);have Hb:=zh hb;clear hR1 hR2 hln hb;generalize (ds[k]'(by rw[Hl.out];exact hlt)).seq=s at *;generalize (ds[k]'(by rw[Hl.out];exact hlt)).at_=a at *;have hss:(s != s)=false:=jz
    have hcells:∀wx,zWW wr wx→wx.cell? ⟨b1,o1+k*3,none⟩=some (.int .i64 s)∧wx.cell? ⟨b1,o1+k*3+1,none⟩=some (.int .i64 a)∧wx.cell? ⟨b1,o1+k*3+2,none⟩=some (.slice F1 n1 f1) ∧
        wx.cell? ⟨b2,o2+k*3,none⟩=some (.int .i64 s)∧wx.cell? ⟨b2,o2+k*3+1,none⟩=some (.int .i64 a)∧wx.cell? ⟨b2,o2+k*3+2,none⟩=some (.slice F2 n1 f2):=fun wx hC=>
      ⟨(hC.cell (p:=⟨b1,o1+k*3,none⟩) hl1).trans g0,(hC.cell (p:=⟨b1,o1+k*3+1,none⟩) hl1).trans g1,(hC.cell (p:=⟨b1,o1+k*3+2,none⟩) hl1).trans g2,
       (hC.cell (p:=⟨b2,o2+k*3,none⟩) hl2).trans g3,(hC.cell (p:=⟨b2,o2+k*3+1,none⟩) hl2).trans g4,(hC.cell (p:=⟨b2,o2+k*3+2,none⟩) hl2).trans g5⟩
    have hcells':=zh hcells;clear hcells g0 g1 g2 g3 g4 g5;go_wp2_with fail;refine cH (aI [(22,⟨Unit,fun _=>(.bool true),fun _ _=>True⟩)]) (fun wx=>Below (World.heap wr).size wr wx) (fun w1 w2=>zWW w1 w2) jk jk (aN (fun _ _ _ _ h=>h) (aX)) (zw _ _).drew ?_
    iterate 22
      refine aH _ ?_ rfl jr jr (fun wx hC hD=>?_) ?_;rotate_left
      · have hSw:=hcells'.out wx hC;go_simp;all_goals with_reducible rfl
      try simp only[Act.put,zD,zE,zF]
    refine ae 23 _ rfl jr jr (fun wx hC hD=>?_) (fun x=>?_)
    · refine aZ (f:=?_) (args:=?_) ?_ ?_;rotate_left 2
      · have hSw:=hcells'.out wx hC;go_simp;all_goals first|with_reducible rfl|(refine⟨?_,?_⟩<;>with_reducible rfl)
      exact cz hC (C1.out wx hC)
    obtain⟨⟩:=x;try simp only[Act.put,zD,zE,zF]
    iterate 2
      refine aH _ ?_ rfl jr jr (fun wx hC hD=>?_) ?_;rotate_left
      · have hSw:=hcells'.out wx hC;go_simp;all_goals with_reducible rfl
      try simp only[Act.put,zD,zE,zF]
    refine ah (fun w2 hC hF=>?_);have Hb2:=zt Hb hC;clear hF hC;go_wp2;go_roundw
    case rel=>exact⟨k+1,jo,ju,Hb2.out⟩
    simp[intOf];omega
  obtain rfl:k=n:=jo;have Hb:=zh hb;clear hb;go_wp2;go_ret;exact⟨rfl,Hb.out⟩
theorem GU(t:Int)(F1 F2:Option Addr)(n c1 c2:Nat)(fs:List (ByteArray × ByteArray))(w:World)(h1:Reads w w.heap.size 2 F1 n (aO fs))(h2:Reads w w.heap.size 2 F2 n (aO fs))(hl:fs.length=n)(hn:n≤8796093021952) :
  Calls prog 56 #[.agg #[.int .i64 t,.slice F1 n c1],.agg #[.int .i64 t,.slice F2 n c2]] w fun e w'=>e=.returned (.bool true)∧zWW w w':=by
 have hb1:zWW w (w.alloc (.cells #[.int .i64 t,.slice F1 n c1] 46)):=zRR _;have hb2:zWW w ((w.alloc (.cells #[.int .i64 t,.slice F1 n c1] 46)).alloc (.cells #[.int .i64 t,.slice F2 n c2] 46)):=hb1.alloc hb1.size _;have hB1:=(Blk.new w 46 #[.int .i64 t,.slice F1 n c1]).alloc (.cells #[.int .i64 t,.slice F2 n c2] 46);have hB2:=Blk.new (w.alloc (.cells #[.int .i64 t,.slice F1 n c1] 46)) 46 #[.int .i64 t,.slice F2 n c2];have z1:(w.alloc (.cells #[.int .i64 t,.slice F1 n c1] 46)).heap.size=w.heap.size+1:=jz;rw[z1]at hB2;have z2:w.heap.size+1<(World.heap ((w.alloc (.cells #[.int .i64 t,.slice F1 n c1] 46)).alloc (.cells #[.int .i64 t,.slice F2 n c2] 46))).size:=jz;have H1:=zh (bD hb2 h1);have H2:=zh (bD hb2 h2);have HB1:=zh hB1;have HB2:=zh hB2;have Hb2:=zh hb2;have Hl:=zh hl;have htt:(t==t)=true:=jz;have htn:(t != t)=false:=jz;clear h1 h2 hl hb1 hb2 hB1 hB2 z1;go_enter func56,ntmps56;go_wp2_with fail;generalize hw2:((w.alloc (.cells #[.int .i64 t,.slice F1 n c1] 46)).alloc (.cells #[.int .i64 t,.slice F2 n c2] 46))=w2 at *;clear hw2;go_loopw [5] (fun i wr=>∃k:Nat,k≤n∧i=.int .i64 k∧zWW w2 wr) (fun i _=>n-(intOf i).toNat)
 case atStart=>exact⟨0,zS _,rfl,zw _ _⟩
 obtain⟨k,hk,rfl,hb⟩:=hrel;have hq1:=(HB1.out.below hb jo).cell 1;have hq2:=(HB2.out.below hb jo).cell 1;simp at hq1 hq2;by_cases hlt:k<n
 ·obtain⟨b1,o1,rfl,hl1,g1,g2⟩:=iB (bD hb H1.out) (k:=k) (by rw[Hl.out];exact hlt);obtain⟨b2,o2,rfl,hl2,g3,g4⟩:=iB (bD hb H2.out) (k:=k) (by rw[Hl.out];exact hlt);have hi0:(0:Int)≤(k:Int):=jo;have hi1:(k:Int)<(n:Int):=jo;have Hb:=zh hb;generalize (fs[k]'(by rw[Hl.out];exact hlt))=f at *;obtain⟨x,y⟩:=f;clear hb;go_wp2_with fail;go_quiet (fail);go_wp2;go_roundw
  case rel=>exact⟨k+1,jo,ju,jW Hb.out nq⟩
  simp[intOf];omega
 obtain rfl:k=n:=jo;have Hb:=zt Hb2 hb;clear hb;go_wp2;go_ret;exact⟨rfl,Hb.out⟩
theorem ul(A1 A2:Option Addr)(n c1 c2:Nat)(ds:List Dc)(w:World)(h1:DocsAt w w.heap.size A1 n ds)(h2:DocsAt w w.heap.size A2 n ds)(hn:n≤8796093021952) :
    Calls prog 21 #[.slice A1 n c1,.slice A2 n c2] w fun e w'=>e=.returned (.bool true)∧zWW w w':=by
  have H1:=zh h1;have H2:=zh h2;have Hl:=zh h1.ln;clear h1 h2;go_enter func21,ntmps21;go_wp2;go_loopw [5] (fun i wr=>∃k:Nat,k≤n∧i=.int .i64 k∧zWW w wr) (fun i _=>n-(intOf i).toNat)
  case atStart=>exact⟨0,zS _,rfl,zw _ _⟩
  obtain⟨k,hk,rfl,hb⟩:=hrel;by_cases hlt:k<n
  · obtain⟨b1,o1,F1,n1,f1,rfl,hl1,g0,g1,g2,hR1,hln,hfn,_,_⟩:=(H1.out.grow hb).at_ (i:=k) (by rw[Hl.out];exact hlt);obtain⟨b2,o2,F2,n2,f2,rfl,hl2,g3,g4,g5,hR2,hln2,_,_,_⟩:=(H2.out.grow hb).at_ (i:=k) (by rw[Hl.out];exact hlt);rw[hln]at hln2;subst hln2;have hi0:(0:Int)≤(k:Int):=jo;have hi1:(k:Int)<(n:Int):=jo;have C1:Hid (∀wx,zWW wr wx→Calls prog 56 #[.agg #[.int .i64 (ds[k]'(by rw[Hl.out];exact hlt)).at_,.slice F1 n1 f1],.agg #[.int .i64 (ds[k]'(by rw[Hl.out];exact hlt)).at_,.slice F2 n1 f2]] wx fun e w'=>e=.returned (.bool true)∧zWW wx w'):=zh (fun wx hC=>GU _ F1 F2 n1 f1 f2 _ wx (bD hC hR1) (bD hC hR2) hln hfn);have Hb:=zh hb;clear hR1 hR2 hln hb;generalize (ds[k]'(by rw[Hl.out];exact hlt)).seq=s at *;generalize (ds[k]'(by rw[Hl.out];exact hlt)).at_=a at *;have hss:(s != s)=false:=jz
    have hcells:∀wx,zWW wr wx→wx.cell? ⟨b1,o1+k*3,none⟩=some (.int .i64 s)∧wx.cell? ⟨b1,o1+k*3+1,none⟩=some (.int .i64 a)∧wx.cell? ⟨b1,o1+k*3+2,none⟩=some (.slice F1 n1 f1) ∧
        wx.cell? ⟨b2,o2+k*3,none⟩=some (.int .i64 s)∧wx.cell? ⟨b2,o2+k*3+1,none⟩=some (.int .i64 a)∧wx.cell? ⟨b2,o2+k*3+2,none⟩=some (.slice F2 n1 f2):=fun wx hC=>
      ⟨(hC.cell (p:=⟨b1,o1+k*3,none⟩) hl1).trans g0,(hC.cell (p:=⟨b1,o1+k*3+1,none⟩) hl1).trans g1,(hC.cell (p:=⟨b1,o1+k*3+2,none⟩) hl1).trans g2,
       (hC.cell (p:=⟨b2,o2+k*3,none⟩) hl2).trans g3,(hC.cell (p:=⟨b2,o2+k*3+1,none⟩) hl2).trans g4,(hC.cell (p:=⟨b2,o2+k*3+2,none⟩) hl2).trans g5⟩
    have hcells':=zh hcells;clear hcells g0 g1 g2 g3 g4 g5;go_wp2_with fail;refine cH (aI [(22,⟨Unit,fun _=>(.bool true),fun _ _=>True⟩)]) (fun wx=>Below (World.heap wr).size wr wx) (fun w1 w2=>zWW w1 w2) jk jk (aN (fun _ _ _ _ h=>h) (aX)) (zw _ _).drew ?_
    iterate 22
      refine aH _ ?_ rfl jr jr (fun wx hC hD=>?_) ?_;rotate_left
      · have hSw:=hcells'.out wx hC;go_simp;all_goals with_reducible rfl
      try simp only[Act.put,zD,zE,zF]
    refine ae 23 _ rfl jr jr (fun wx hC hD=>?_) (fun x=>?_)
    · refine aZ (f:=?_) (args:=?_) ?_ ?_;rotate_left 2
      · have hSw:=hcells'.out wx hC;go_simp;all_goals first|with_reducible rfl|(refine⟨?_,?_⟩<;>with_reducible rfl)
      exact cz hC (C1.out wx hC)
    obtain⟨⟩:=x;try simp only[Act.put,zD,zE,zF]
    iterate 2
      refine aH _ ?_ rfl jr jr (fun wx hC hD=>?_) ?_;rotate_left
      · have hSw:=hcells'.out wx hC;go_simp;all_goals with_reducible rfl
      try simp only[Act.put,zD,zE,zF]
    refine ah (fun w2 hC hF=>?_);have Hb2:=zt Hb hC;clear hF hC;go_wp2;go_roundw
    case rel=>exact⟨k+1,jo,ju,Hb2.out⟩
    simp[intOf];omega
  obtain rfl:k=n:=jo;have Hb:=zh hb;clear hb;go_wp2;go_ret;exact⟨rfl,Hb.out⟩
end Md
end Go.Proofs.YtmomjpolkkbhnaaGreat
