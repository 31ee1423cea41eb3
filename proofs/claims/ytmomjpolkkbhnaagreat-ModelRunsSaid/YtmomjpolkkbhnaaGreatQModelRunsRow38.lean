/- The document's model: New, Refused, Front, ahead (printed by gen_mec.py). -/
import Derived.Test.YtmomjpolkkbhnaaGreatQModelRunsRow34
import Derived.Test.YtmomjpolkkbhnaaGreatQModelRunsRow36
set_option linter.unusedSimpArgs false
set_option linter.unusedVariables false
set_option maxRecDepth 20000
set_option maxHeartbeats 100000000
open Go.Proofs.Tryz
namespace Go.Proofs.YtmomjpolkkbhnaaGreat
namespace Md
open Go.RowKit Ut Tk Qy Qp Ev Cu
theorem yl{fn:Func}{p u:Tmp}{ty:TypeId}(h:fn.results=#[.cell p ty,.tmp u]){tmps:Array Value}{P:Program}{w:World}{a:Addr}{v:Value}(ha:tmps.getD p undef=.pointer (some a))(hl:(loadVar ty a).run P w=.ok v w) :
  (results fn tmps).run P w=.ok (.tuple #[v,tmps.getD u undef]) w:=by
 rw[results_cell_tmp h,ha];have:(asAddr (.pointer (some a))).run P w=.ok a w:=rfl;rw[this];simp only[Result.andThen_ok];rw[hl];rfl
def xA(c:Cf)(w:World)(e:Ending)(w':World):Prop:=zWW w w'∧((okC c∧e=.returned (.tuple #[.agg (rmC (⟨c,[],-9223372036854775808,-9223372036854775808,0⟩:M) (⟨none,0,0,none,0,0⟩:Rz)),.int .i64 0]))∨(¬okC c∧e=.returned (.tuple #[.agg zmC,.int .i64 270])))
theorem F3(c:Cf)(w:World):Calls prog 17 #[c.v] w (xA c w):=by
 have H:=(Blk.new w 25 #[.int .i64 c.size,.int .i64 c.age,.int .i64 c.retain,.int .i64 c.batch,.int .i64 c.buckets,.bool c.bt,.bool c.bb]).alloc (.cells zmC 29);have C:=Blk.new (w.alloc (.cells #[.int .i64 c.size,.int .i64 c.age,.int .i64 c.retain,.int .i64 c.batch,.int .i64 c.buckets,.bool c.bt,.bool c.bb] 25)) 29 zmC;have J:(w.alloc (.cells #[.int .i64 c.size,.int .i64 c.age,.int .i64 c.retain,.int .i64 c.batch,.int .i64 c.buckets,.bool c.bt,.bool c.bb] 25)).heap.size=w.heap.size+1:=jz;rw[J]at C;have f:=zh H;have G:=zh C;have E:=zh (((zy w.heap.size w).alloc (zG _) (.cells #[.int .i64 c.size,.int .i64 c.age,.int .i64 c.retain,.int .i64 c.batch,.int .i64 c.buckets,.bool c.bt,.bool c.bb] 25)).alloc jz (.cells zmC 29));have F:Hid (∀d,Calls prog 45 #[.agg #[.int .i64 c.size,.int .i64 c.age,.int .i64 c.retain,.int .i64 c.batch,.int .i64 c.buckets,.bool c.bt,.bool c.bb]] d fun e j=>e=.returned (.bool (decide (okC c)))∧zWW d j):=zh (fun d=>MB c d);have D:Hid (∀d,Calls prog 46 #[.agg #[.int .i64 c.size,.int .i64 c.age,.int .i64 c.retain,.int .i64 c.batch,.int .i64 c.buckets,.bool c.bt,.bool c.bb]] d fun e j=>e=.returned (.agg (rmC (⟨c,[],-9223372036854775808,-9223372036854775808,0⟩:M) (⟨none,0,0,none,0,0⟩:Rz)))∧zWW d j):=zh (fun d=>Fz c d);have I:Hid (∀(e:Ending) (j:World),zWW w j∧((okC c∧e=.returned (.tuple #[.agg (rmC (⟨c,[],-9223372036854775808,-9223372036854775808,0⟩:M) (⟨none,0,0,none,0,0⟩:Rz)),.int .i64 0]))∨(¬okC c∧e=.returned (.tuple #[.agg zmC,.int .i64 270])))→xA c w e j):=zh (fun e j h=>h);show Calls prog 17 #[.agg #[.int .i64 c.size,.int .i64 c.age,.int .i64 c.retain,.int .i64 c.batch,.int .i64 c.buckets,.bool c.bt,.bool c.bb]] w (xA c w);clear H C J;go_enter func17,ntmps17
 go_upto_region 1 with(fail);generalize ((w.alloc (.cells #[.int .i64 c.size,.int .i64 c.age,.int .i64 c.retain,.int .i64 c.batch,.int .i64 c.buckets,.bool c.bt,.bool c.bb] 25)).alloc (.cells zmC 29))=L at *;have t:=f.out.cell 0;have n:=f.out.cell 1;have p:=f.out.cell 2;have s:=f.out.cell 3;have q:=f.out.cell 4;have r:=f.out.cell 5;have x:=f.out.cell 6;simp only[zA,zB,zC]at t n p s q r x;go_wp2_with fail;refine(F.out L).mono ?_;rintro e N ⟨rfl,g⟩;have l:=zt E g;have a:=zb f g;have b:=zb G g;clear g f G E F t n p s q r x;have t:=a.out.cell 0;have n:=a.out.cell 1;have p:=a.out.cell 2;have s:=a.out.cell 3;have q:=a.out.cell 4;have r:=a.out.cell 5;have x:=a.out.cell 6;simp only[zA,zB,zC]at t n p s q r x;by_cases u:okC c
 ·have A:=zh u;rw[zO u];clear u;go_wp2_with fail;refine(D.out N).mono ?_;rintro e O ⟨rfl,i⟩;have B:=zt l i;have y:=zb b i;have k:=zh (zz _ (w.heap.size+1) _ (rmC (⟨c,[],-9223372036854775808,-9223372036854775808,0⟩:M) (⟨none,0,0,none,0,0⟩:Rz)) _ _ y.out);clear i a b l D t n p s q r x;go_wp2_with (refine zx (o:=⟨none,.store 29 _ _,_,_,_,_⟩) rfl 29 _ _ rfl (w.heap.size+1) (rmC (⟨c,[],-9223372036854775808,-9223372036854775808,0⟩:M) (⟨none,0,0,none,0,0⟩:Rz)) rfl rfl 29 zmC y.out jk rfl (by simp[rmC,zmC,Value.oneCell']) ?_);refine zw (yl rfl rfl (zv _ (w.heap.size+1) 29 29 (rmC (⟨c,[],-9223372036854775808,-9223372036854775808,0⟩:M) (⟨none,0,0,none,0,0⟩:Rz)) (0,0) _ k.out underlying29 rfl jk)) rfl ?_;exact I.out _ _ ⟨vI B.out (zZ _) _,.inl ⟨A.out,rfl⟩⟩
 have A:=zh u;rw[zN u];have k:=zh (zz _ (w.heap.size+1) _ zmC _ _ b.out);clear u a D t n p s q r x;go_wp2_with (refine zx (o:=⟨none,.store 29 _ _,_,_,_,_⟩) rfl 29 _ _ rfl (w.heap.size+1) (zmC) rfl rfl 29 zmC b.out jk rfl (by simp[rmC,zmC,Value.oneCell']) ?_);refine zw (yl rfl rfl (zv _ (w.heap.size+1) 29 29 (zmC) (0,0) _ k.out underlying29 rfl jk)) rfl ?_;exact I.out _ _ ⟨vI l.out (zZ _) _,.inr ⟨A.out,rfl⟩⟩
def nA(m:M)(evs:List Evn):Int:=if evs.length=0 then 1 else if m.c.batch<(evs.length:Nat)then 3 else gQ ((m.ds.length:Nat)+1) evs
section
variable {w:World} {S:Nat→Prop} {K:Nat} {m:M} {z:Rz}
theorem Eu(h:RAt w S K m z)(hK:K≤60000)(A:Option Addr)(n c:Nat)(evs:List Evn)(hE:EvsAt w w.heap.size A n c evs) :
  Calls prog 82 #[.agg (rmC m z),.slice A n c] w fun e w'=>e=.returned (.int .i64 (nA m evs))∧zWW w w':=by
 have p:zWW w (w.alloc (.cells (rmC m z) 29)):=zRR _;have s:=zh (Blk.new w 29 (rmC m z));have k:=zh (hE.grow p);have a:=hE.ln;have F:=zh a;have d:=h.ds.ln.symm;have r:m.ds.length≤z.n:=jo;have v:z.n≤m.ds.length:=jo;have C:=hE.few;have t:=h.few;have g:=h.ok.c;unfold okC at g
 have u:Hid (∀(e:Ending) (w':World),(e=.returned (.int .i64 (if n=0 then 1 else if m.c.batch<(n:Nat)then 3 else gQ ((z.n:Nat)+1) evs))∧zWW w w')→(e=.returned (.int .i64 (nA m evs))∧zWW w w')):=zh (fun e w' h=>by
  unfold nA;rw[a,←d]
  exact h)
 have i:=zh p;have H:IntKind.i64.wrap ((z.n:Int)+1)=(z.n:Int)+1:=by rw[IntKind.wrap_i64];omega
 clear h hE p;refine Calls.mono ?_ u.out;clear u d;obtain⟨E,hE⟩:∃E,(if n=0 then(1:Int)else if m.c.batch<(n:Nat)then 3 else gQ ((z.n:Nat)+1) evs)=E:=⟨_,rfl⟩;rw[hE];have j:=zh hE;clear hE;go_enter func82,ntmps82
 go_upto_region 1 with(fail);generalize w.alloc (.cells (rmC m z) 29)=D at *;have B:=s.out.cell 3;have G:=s.out.cell 7;simp only[rmC,zA,zB,zC]at B G;by_cases q:n=0
 ·subst q;obtain rfl:E=1:=by rw[←j.out,zI rfl]
  go_wp2;go_ret;exact⟨rfl,i.out⟩
 have y:((n:Int)==0)=false:=by rw[zM];omega
 by_cases x:m.c.batch<(n:Int)
 ·obtain rfl:E=3:=by rw[←j.out,zH q,zI x]
  go_wp2;go_ret;exact⟨rfl,i.out⟩
 have b:gQ ((z.n:Int)+1) evs=E:=by rw[←j.out,zH q,zH x]
 have o:=zh (D5 ((z.n:Int)+1) A n c evs D k.out);rw[b]at o;clear b;go_wp2_with fail;refine o.out.mono ?_;rintro e I ⟨rfl,f⟩;have l:=zt i f;clear f o;go_wp2;go_ret;exact⟨rfl,l.out⟩
theorem F4(h:RAt w S K m z):Calls prog 49 #[.agg (rmC m z)] w fun e w'=>e=.returned (.int .i64 (lK m))∧zWW w w':=by
 have j:zWW w (w.alloc (.cells (rmC m z) 29)):=zRR _;have f:=zh (Blk.new w 29 (rmC m z));have d:=h.ok.c;unfold okC at d;have s:=h.ok.ret;have q:=h.ok.nw;have l:=h.ok.fl;unfold I64 at q l;have i:=zh j;clear h j;have r:IntKind.i64.wrap (-9223372036854775808+m.c.retain)=-9223372036854775808+m.c.retain:=by rw[IntKind.wrap_i64];omega
 obtain⟨E,a⟩:∃E,lK m=E:=⟨_,rfl⟩;rw[a];unfold lK at a;have b:=zh a;clear a;go_enter func49,ntmps49
 go_upto_region 1 with(fail);generalize w.alloc (.cells (rmC m z) 29)=t at *;have p:=f.out.cell 2;have k:=f.out.cell 8;have n:=f.out.cell 9;simp only[rmC,zA,zB,zC]at p k n;by_cases h1 : -9223372036854775808+m.c.retain≤m.now
 ·obtain rfl:E=max m.floor (m.now-m.c.retain):=by rw[←b.out,zI h1]
  clear b;have o:IntKind.i64.wrap (m.now-m.c.retain)=m.now-m.c.retain:=by rw[IntKind.wrap_i64];omega
  have g:¬(m.now < -9223372036854775808+m.c.retain):=jo;go_wp2;go_ret;exact⟨rfl,i.out⟩
 obtain rfl:E=m.floor:=by rw[←b.out,zH h1]
 clear b;have g:m.now < -9223372036854775808+m.c.retain:=jo;go_wp2;go_ret;exact⟨rfl,i.out⟩
end
abbrev dcC(d:Dc)(F:Option Addr)(n c:Nat):Array Value:=#[.int .i64 d.seq,.int .i64 d.at_,.slice F n c]
theorem IM(x y:Dc)(F G:Option Addr)(n1 c1 n2 c2:Nat)(w:World):Calls prog 119 #[.agg (dcC x F n1 c1),.agg (dcC y G n2 c2)] w fun e w'=>e=.returned (.bool (decide (ltD x y)))∧zWW w w':=by
 have n:=(Blk.new w 48 (dcC x F n1 c1)).alloc (.cells (dcC y G n2 c2) 48);have g:=Blk.new (w.alloc (.cells (dcC x F n1 c1) 48)) 48 (dcC y G n2 c2);have o:(w.alloc (.cells (dcC x F n1 c1) 48)).heap.size=w.heap.size+1:=jz;rw[o]at g;obtain⟨b,c⟩:∃b,decide (ltD x y)=b:=⟨_,rfl⟩;rw[c];have a:=zh c;clear c;have p:=zh n;have k:=zh g;have f:=zh (((zy w.heap.size w).alloc (zG _) (.cells (dcC x F n1 c1) 48)).alloc jz (.cells (dcC y G n2 c2) 48));clear n g o;go_enter func119,ntmps119
 go_upto_region 1 with(fail);generalize ((w.alloc (.cells (dcC x F n1 c1) 48)).alloc (.cells (dcC y G n2 c2) 48))=C at *;have u:=p.out.cell 0;have q:=p.out.cell 1;simp only[dcC,zA,zB,zC]at u q;have r:=k.out.cell 0;have v:=k.out.cell 1;simp only[dcC,zA,zB,zC]at r v;unfold ltD at a;obtain⟨A,d,B⟩:=x;obtain⟨t,h,D⟩:=y;simp only at *;by_cases j:d<h
 ·obtain rfl:b=true:=by rw[←a.out];simp[j]
  go_wp2;go_ret;exact⟨rfl,f.out⟩
 by_cases i:d=h
 ·subst i;have s:(d==d)=true:=jz;by_cases l:A<t
  ·obtain rfl:b=true:=by rw[←a.out];simp[l]
   go_wp2;go_ret;exact⟨rfl,f.out⟩
  obtain rfl:b=false:=by rw[←a.out];simp[j,l]
  go_wp2;go_ret;exact⟨rfl,f.out⟩
 have s:(d==h)=false:=by simpa using i
 obtain rfl:b=false:=by rw[←a.out];simp[j,i]
 go_wp2;go_ret;exact⟨rfl,f.out⟩
end Md

namespace Md
open Go.RowKit Ut Tk Qy Qp Ev Cu
theorem DOwnS.put{w w5:World}{base:Nat}{S:Nat→Prop}{v v':Value}{ds:List Dc}{d:Dc}{u xs:List Value}(hx:∃vss:List (List Value),vss.length=ds.length∧w.ownsRow base 48 3 v ds.length vss.flatten∧(∀i (h:i<ds.length) (h':i<vss.length),DcS w S ds[i] vss[i])∧xs=vss.flatten)
  (hp:w5.ownsRow base 48 3 v' (ds.length+1) (xs++u)) (hg:w.grownBy w5 v.ownBlock) (hd:DcS w S d u) (hS:∀b,S b→b<base) (hb:base≤w.heap.size):DOwnS w5 base S v' (ds ++ [d]):=by
 obtain⟨vss,f,g,c,rfl⟩:=hx;have:=uJ (w':=w5) (base:=base) (v':=v') f c hd (zG _) (by rw[zR jo,List.drop_eq_nil_of_le jo];simpa using hp) (fun b a=>hg.block b (zT (hS b a) hb) (fun e=>by have:=(g.lt _ e.symm).1;have:=hS b a;omega))
 simpa using this
theorem RAt.doc{w:World}{S:Nat→Prop}{K:Nat}{m:M}{z:Rz}(h:RAt w S K m z){i:Nat}(hi:i<m.ds.length):∃g o F fc,z.A=some ⟨g,o,none⟩∧g<w.heap.size∧w.cell? ⟨g,o+i*3,none⟩=some (.int .i64 m.ds[i].seq)∧w.cell? ⟨g,o+i*3+1,none⟩=some (.int .i64 m.ds[i].at_) ∧
  w.cell? ⟨g,o+i*3+2,none⟩=some (.slice F m.ds[i].fs.length fc)∧DcS w S m.ds[i] [.int .i64 m.ds[i].seq,.int .i64 m.ds[i].at_,.slice F m.ds[i].fs.length fc]∧EvAt w F m.ds[i].fs.length m.ds[i].fs:=by
 obtain⟨b,o,F,q,fc,e,p,j,n,k,r,rfl,c,l,a⟩:=h.ds.at_ hi;exact⟨b,o,F,fc,e,h.lt b p,j,n,k,⟨F,_,fc,rfl,r,rfl,c,l,a⟩,⟨r.reads h.lt,rfl,c,fun f d=>by have:=((mQ (h.ok.doc i hi).1).2 f d).2.2;omega⟩⟩
def Di(w:World)(S:Nat→Prop)(L:List Dc)(e:Ending)(w':World):Prop:=∃v,e=.returned v∧DOwnS w' w.heap.size S v L∧zWW w w'
section
variable {w:World} {S:Nat→Prop} {K:Nat} {m:M} {z:Rz}
theorem F5(h:RAt w S K m z)(hK:K≤60000)(q:Q)(hq:QSz q)(a0 a1 a2 a3:Value)(a t:Int)(hQ:∃A n c B k d,[a0,a1,a2,a3]=[.int .i64 q.kind,.string q.name,.slice A n c,.slice B k d])(hqa:QAt w w.heap.size q [a0,a1,a2,a3]) :
  Calls prog 89 #[.agg (rmC m z),.agg #[a0,a1,a2,a3],.int .i64 a,.int .i64 t] w (Di w S (lh m (fun d=>fC d.fs q) a t)):=by
 obtain⟨i0,aq,ar,aw,ak⟩:=info_parts Ev.lU;obtain⟨A1,n1,c1,A2,n2,c2,ab⟩:=hQ;simp only[zQ,and_true]at ab;obtain⟨rfl,rfl,rfl,rfl⟩:=ab;have f:zWW w ((w.alloc (.cells (rmC m z) 29)).alloc (.cells #[.int .i64 q.kind,.string q.name,.slice A1 n1 c1,.slice A2 n2 c2] 60)):=(zRR _).alloc jz _;have hm:=(Blk.new w 29 (rmC m z)).alloc (.cells #[.int .i64 q.kind,.string q.name,.slice A1 n1 c1,.slice A2 n2 c2] 60);have Y:=Blk.new (w.alloc (.cells (rmC m z) 29)) 60 #[.int .i64 q.kind,.string q.name,.slice A1 n1 c1,.slice A2 n2 c2];have z1:(w.alloc (.cells (rmC m z) 29)).heap.size=w.heap.size+1:=jz;rw[z1]at Y;have HM:=zh hm;have au:=zh Y;have HB:=zh f;have HA:=zh (h.below f);have aj:=zh (hqa.grow f);have ap:Hid (∀fs,oh fs q):=zh (fun fs=>ym fs q hq);have aB:m.ds.length≤z.n:=by rw[h.ds.ln];exact zG _
 have aC:z.n≤m.ds.length:=by rw[h.ds.ln];exact zG _
 have aI:w.heap.size+2=(World.heap ((w.alloc (.cells (rmC m z) 29)).alloc (.cells #[.int .i64 q.kind,.string q.name,.slice A1 n1 c1,.slice A2 n2 c2] 60))).size:=jz;have aA:=h.few;have o:Hid (∀b,S b→b<w.heap.size):=zh h.lt;clear h hqa f hm Y z1;have ao:Hid (lh m (fun d=>fC d.fs q) a t=m.ds.filter (fun d=>decide (m.floor≤d.at_)&&(decide (a<d.seq)&&(decide (d.seq≤t)&&fC d.fs q)))):=zh rfl;generalize hu:lh m (fun d=>fC d.fs q) a t=UU at *;clear hu;go_enter func89,ntmps89;go_wp2_with fail;generalize ((w.alloc (.cells (rmC m z) 29)).alloc (.cells #[.int .i64 q.kind,.string q.name,.slice A1 n1 c1,.slice A2 n2 c2] 60))=X at *;go_loopw [9,10] (fun v i wr=>∃k:Nat,k≤m.ds.length∧i=.int .i64 (k:Nat)∧Hid (DOwnS wr X.heap.size S v ((m.ds.take k).filter (fun d=>decide (m.floor≤d.at_)&&(decide (a<d.seq)&&(decide (d.seq≤t)&&fC d.fs q)))))∧Hid (zWW X wr)) (fun _ i _=>m.ds.length-(intOf i).toNat)
 case atStart=>exact⟨0,zS _,rfl,zh (DOwnS.start _ _ _),zh (zy _ _)⟩
 obtain⟨k,hk,rfl,hO,l⟩:=hrel;by_cases aa:k<m.ds.length
 ·have aD:(k:Int)<(z.n:Int):=jo;have aG:(0:Int)≤(k:Int):=jo;have ay:=l.out.size;have L:=HM.out.below l.out jo;have W:=au.out.below l.out jo;have ad:=HA.out.below l.out;obtain⟨gb,go,F,r,aL,aF,q0,q1,q2,af,ag⟩:=ad.doc aa
  have U:((m.ds.take k).filter (fun d=>decide (m.floor≤d.at_)&&(decide (a<d.seq)&&(decide (d.seq≤t)&&fC d.fs q)))).length≤k:=by
   refine zY (List.length_filter_le _ _) ?_;rw[zK];omega
  have g:Hid ((m.ds.take (k+1)).filter (fun d=>decide (m.floor≤d.at_)&&(decide (a<d.seq)&&(decide (d.seq≤t)&&fC d.fs q)))=(m.ds.take k).filter (fun d=>decide (m.floor≤d.at_)&&(decide (a<d.seq)&&(decide (d.seq≤t)&&fC d.fs q)))++if(decide (m.floor≤m.ds[k].at_)&&(decide (a<m.ds[k].seq)&&(decide (m.ds[k].seq≤t)&&fC m.ds[k].fs q)))=true then[m.ds[k]]else[]):=zh (by
   rw[zL aa,List.filter_append];congr 1
   by_cases hp:(decide (m.floor≤m.ds[k].at_)&&(decide (a<m.ds[k].seq)&&(decide (m.ds[k].seq≤t)&&fC m.ds[k].fs q)))=true<;>simp[List.filter_cons,hp])
  have az:=zh U;clear U;have CM:Hid (∀wx,zWW wr wx→Calls prog 118 #[.agg #[.int .i64 q.kind,.string q.name,.slice A1 n1 c1,.slice A2 n2 c2],.agg #[.int .i64 m.ds[k].at_,.slice F m.ds[k].fs.length r]] wx fun e w'=>e=.returned (.bool (fC m.ds[k].fs q))∧zWW wx w'):=zh (fun wx f=>ap.out _ wx _ _ _ _ _ F _ r ((aj.out.grow l.out).grow f) (ag.grow f));have ax:=zh af;clear ag af;generalize an:fC m.ds[k].fs q=pd at *;clear an;generalize av:(m.ds.take k).filter (fun d=>decide (m.floor≤d.at_)&&(decide (a<d.seq)&&(decide (d.seq≤t)&&fC d.fs q)))=D0 at *;clear av;generalize m.ds[k]=d at *;have J:zWW wr (wr.alloc (.cells #[.int .i64 d.seq,.int .i64 d.at_,.slice F d.fs.length r] 48)):=zRR _;have y:=zh J;have H:=zh (Blk.new wr 48 #[.int .i64 d.seq,.int .i64 d.at_,.slice F d.fs.length r]);have al:=zh (L.below J L.lt);have E:=zh (W.below J W.lt);have G:=L.cell 7;simp only[rmC,zA,zB,zC]at G;clear J L W ad
  go_upto_region 6 with(fail);generalize wr.alloc (.cells #[.int .i64 d.seq,.int .i64 d.at_,.slice F d.fs.length r] 48)=w2 at *;clear q0 q1 q2 G;have f0:=H.out.cell 0;have f1:=H.out.cell 1;have f2:=H.out.cell 2;simp only[zA,zB,zC]at f0 f1 f2;have g8:=al.out.cell 8;simp only[rmC,zA,zB,zC]at g8;have r0:=E.out.cell 0;have r1:=E.out.cell 1;have r2:=E.out.cell 2;have r3:=E.out.cell 3;simp only[zA,zB,zC]at r0 r1 r2 r3;have x:=zh (l.out.trans (y.out.mono ay));have C:=zh (hO.out.below y.out (fun b f=>by have:=o.out b f;omega));have P:=zh (ax.out.same (fun b f=>⟨f,y.out.block b (by have:=o.out b f;omega)⟩));have aE:=y.out.size;clear hO;by_cases e1:m.floor≤d.at_
  ·by_cases e2:a<d.seq
   ·by_cases e3:d.seq≤t
    ·rw[zO e1,zO e2,zO e3,Bool.true_and,Bool.true_and,Bool.true_and]at g;go_wp2_with fail;refine(CM.out w2 y.out).mono ?_;rintro e R ⟨rfl,p⟩;have Z:=zt x p;have ah:=zh (C.out.below p (fun b f=>by have:=o.out b f;omega));have N:=zh (P.out.same (fun b f=>⟨f,p.block b (by have:=o.out b f;omega)⟩));have I:=zb H p;have aJ:=p.size;clear p C P x CM f0 f1 f2 g8 r0 r1 r2 r3
     cases pd with
     | false=>
      rw[zH jd,List.append_nil]at g;clear I N;go_wp2;go_roundw
      case rel=>exact⟨k+1,jo,ju,by rw[g.out];exact ah,Z⟩
      simp[intOf];omega
     | true=>
      rw[zI rfl]at g;have f0:=I.out.cell 0;have f1:=I.out.cell 1;have f2:=I.out.cell 2;simp only[zA,zB,zC]at f0 f1 f2;have D:zWW R (R.alloc (.cells #[.int .i64 d.seq,.int .i64 d.at_,.slice F d.fs.length r] 48)):=zRR _;have ae:=ah.out.below D (fun b f=>by have:=o.out b f;omega);have O:=N.out.same (fun b f=>⟨f,D.block b (by have:=o.out b f;omega)⟩);obtain⟨ai,g1,g2,g3⟩:=ae.ex;have am:(World.heap (R.alloc (.cells #[.int .i64 d.seq,.int .i64 d.at_,.slice F d.fs.length r] 48))).size=R.heap.size+1:=jz
      have T:∀v' V,V.ownsRow X.heap.size 48 3 v' (D0.length+1) (ai.flatten ++ [.int .i64 d.seq,.int .i64 d.at_,.slice F d.fs.length r])→(R.alloc (.cells #[.int .i64 d.seq,.int .i64 d.at_,.slice F d.fs.length r] 48)).grownBy V u9.ownBlock→DOwnS V X.heap.size S v' (D0 ++ [d])∧zWW X V:=
       fun v' V h1 h2=>⟨DOwnS.put ⟨ai,g1,g2,g3,rfl⟩ h1 h2 O (fun b f=>by have:=o.out b f;omega) jo,(Z.out.trans (D.mono Z.out.size)).grown h2 jo (fun j hj=>(g2.lt j hj).1)⟩
      have Hput:=zh T;have aM:X.heap.size≤R.heap.size:=jo;have aH:=az.out;clear T g1 g3 ae D O am;go_wp2_with (at_builtin;refine vJ _ rfl _ _ 26 rfl X.heap.size 48 i0 _ 3 40 underlying26 aq ar aw ak rfl jd _ _ _ rfl g2 ⟨R.heap.size,0,none⟩ 1 1 [.int .i64 d.seq,.int .i64 d.at_,.slice F d.fs.length r] rfl rfl ?d1 ?d2 ?d3 ?d4 ?d5 ?_)
      case d1=>exact vH (cs:=#[.int .i64 d.seq,.int .i64 d.at_,.slice F d.fs.length r]) (t:=48) (fr:=(0,0)) (vK R _)
      case d2=>first|(intro u hu;simp at hu;rcases hu with rfl|rfl|rfl<;>rfl)|rfl|simp[Value.oneCell']
      case d3=>unfold maxLen;omega
      case d4=>omega
      case d5=>first|omega|(simp;omega)
      intro v' V s ac _;have Fin:=zh (Hput.out v' V s ac);clear s ac;go_wp2;go_roundw
      case rel=>exact⟨k+1,jo,ju,by rw[g.out];exact zh Fin.out.1,zh Fin.out.2⟩
      simp[intOf];omega
    rw[zO e1,zO e2,zN e3,Bool.true_and,Bool.true_and,Bool.false_and,zH jd,List.append_nil]at g;clear CM;go_wp2;go_roundw
    case rel=>exact⟨k+1,jo,ju,by rw[g.out];exact C,x⟩
    simp[intOf];omega
   rw[zO e1,zN e2,Bool.true_and,Bool.false_and,zH jd,List.append_nil]at g;clear CM;go_wp2;go_roundw
   case rel=>exact⟨k+1,jo,ju,by rw[g.out];exact C,x⟩
   simp[intOf];omega
  rw[zN e1,Bool.false_and,zH jd,List.append_nil]at g;clear CM;go_wp2;go_roundw
  case rel=>exact⟨k+1,jo,ju,by rw[g.out];exact C,x⟩
  simp[intOf];omega
 obtain rfl:k=m.ds.length:=jo;rw[zR (zG _),←ao.out]at hO;have G:=(HM.out.below l.out jo).cell 7;simp only[rmC,zA,zB,zC]at G;have aK:¬(m.ds.length:Int)<(z.n:Int):=jo;go_wp2;go_ret;exact⟨_,rfl,hO.out.mono jo,HB.out.trans (l.out.mono HB.out.size)⟩
end
end Md

namespace Md
open Go.RowKit Ut Tk Qy Qp Ev Cu
def wV(w:World)(S:Nat→Prop)(L:List Dc)(e:Ending)(w':World):Prop:=∃v D,e=.returned v∧DOwnS w' w.heap.size S v D∧ByT L D∧zWW w w'
section
variable {w:World} {S:Nat→Prop} {K:Nat} {m:M} {z:Rz}
theorem Ag(h:RAt w S K m z)(hK:K≤60000)(q:Q)(hq:QSz q)(a0 a1 a2 a3:Value)(fr ti:Int)(hQ:∃A n c B k d,[a0,a1,a2,a3]=[.int .i64 q.kind,.string q.name,.slice A n c,.slice B k d])(hqa:QAt w w.heap.size q [a0,a1,a2,a3]) :
  Calls prog 85 #[.agg (rmC m z),.agg #[a0,a1,a2,a3],.int .i64 fr,.int .i64 ti] w (wV w S (upL m (inB fr ti q))):=by
 obtain⟨i0,aF,aG,aI,az⟩:=info_parts Ev.lU;obtain⟨A1,n1,c1,A2,n2,c2,a4⟩:=hQ;simp only[zQ,and_true]at a4;obtain⟨rfl,rfl,rfl,rfl⟩:=a4;have s:zWW w ((w.alloc (.cells (rmC m z) 29)).alloc (.cells #[.int .i64 q.kind,.string q.name,.slice A1 n1 c1,.slice A2 n2 c2] 60)):=(zRR _).alloc jz _;have hm:=(Blk.new w 29 (rmC m z)).alloc (.cells #[.int .i64 q.kind,.string q.name,.slice A1 n1 c1,.slice A2 n2 c2] 60);have aJ:=Blk.new (w.alloc (.cells (rmC m z) 29)) 60 #[.int .i64 q.kind,.string q.name,.slice A1 n1 c1,.slice A2 n2 c2];have z1:(w.alloc (.cells (rmC m z) 29)).heap.size=w.heap.size+1:=jz;rw[z1]at aJ;have HM:=zh hm;have bB:=zh aJ;have HB:=zh s;have HA:=zh (h.below s);have bq:=zh (hqa.grow s);have bw:Hid (∀fs,oh fs q):=zh (fun fs=>ym fs q hq);have bH:m.ds.length≤z.n:=by rw[h.ds.ln];exact zG _
 have bJ:z.n≤m.ds.length:=by rw[h.ds.ln];exact zG _
 have bT:w.heap.size+2=(World.heap ((w.alloc (.cells (rmC m z) 29)).alloc (.cells #[.int .i64 q.kind,.string q.name,.slice A1 n1 c1,.slice A2 n2 c2] 60))).size:=jz;have bF:=h.few;have J:Hid (∀b,S b→b<w.heap.size):=zh h.lt;have bn:=zh (wm h.ok);clear h hqa s hm aJ z1;have bv:Hid (upL m (inB fr ti q)=m.ds.filter (fun d=>decide (m.floor≤d.at_)&&inB fr ti q d)):=zh rfl;generalize hu:upL m (inB fr ti q)=UU at *;clear hu;go_enter func85,ntmps85;go_wp2_with fail;generalize ((w.alloc (.cells (rmC m z) 29)).alloc (.cells #[.int .i64 q.kind,.string q.name,.slice A1 n1 c1,.slice A2 n2 c2] 60))=w1 at *;go_loopw [9,10] (fun v i wr=>∃(k:Nat) (D:List Dc),k≤m.ds.length∧i=.int .i64 (k:Nat)∧Hid (ByT ((m.ds.take k).filter (fun d=>decide (m.floor≤d.at_)&&inB fr ti q d)) D)∧Hid (DOwnS wr w1.heap.size S v D)∧Hid (zWW w1 wr)) (fun _ i _=>m.ds.length-(intOf i).toNat)
 case atStart=>exact⟨0,[],zS _,rfl,zh Lt,zh (DOwnS.start _ _ _),zh (zy _ _)⟩
 obtain⟨k,t,hk,rfl,HT,hO,I⟩:=hrel;by_cases aB:k<m.ds.length
 ·have bM:(k:Int)<(z.n:Int):=jo;have bS:(0:Int)≤(k:Int):=jo;have bZ:=I.out.size;have an:=HM.out.below I.out jo;have aA:=bB.out.below I.out jo;have a9:=HA.out.below I.out;obtain⟨gb,go,F,P,b0,bR,q0,q1,q2,be,bk⟩:=a9.doc aB
  have av:t.length≤k:=by
   rw[HT.out.perm.length_eq];refine zY (List.length_filter_le _ _) ?_;rw[zK];omega
  have E:Hid ((m.ds.take (k+1)).filter (fun d=>decide (m.floor≤d.at_)&&inB fr ti q d)=(m.ds.take k).filter (fun d=>decide (m.floor≤d.at_)&&inB fr ti q d)++if(decide (m.floor≤m.ds[k].at_)&&(decide (fr≤m.ds[k].at_)&&decide (m.ds[k].at_≤ti)&&fC m.ds[k].fs q))=true then[m.ds[k]]else[]):=zh (by
   rw[zL aB,List.filter_append];congr 1
   by_cases hp:(decide (m.floor≤m.ds[k].at_)&&(decide (fr≤m.ds[k].at_)&&decide (m.ds[k].at_≤ti)&&fC m.ds[k].fs q))=true<;>simp[List.filter_cons,inB,hp])
  have bl:Hid (∀x∈(m.ds.take k).filter (fun d=>decide (m.floor≤d.at_)&&inB fr ti q d),x.seq<m.ds[k].seq):=zh (fun x hx=>by
   obtain⟨i,hi,rfl⟩:=zu.1 (List.mem_filter.1 hx).1;rw[zK]at hi;rw[List.getElem_take]
   exact List.pairwise_iff_getElem.1 bn.out i k jo aB jo)
  have bi:=zh av;have CM:Hid (∀l,zWW wr l→Calls prog 118 #[.agg #[.int .i64 q.kind,.string q.name,.slice A1 n1 c1,.slice A2 n2 c2],.agg #[.int .i64 m.ds[k].at_,.slice F m.ds[k].fs.length P]] l fun e w'=>e=.returned (.bool (fC m.ds[k].fs q))∧zWW l w'):=zh (fun l s=>bw.out _ l _ _ _ _ _ F _ P ((bq.out.grow I.out).grow s) (bk.grow s));have bD:=zh be;clear bk be av;generalize bu:fC m.ds[k].fs q=pd at *;clear bu;generalize bC:(m.ds.take k).filter (fun d=>decide (m.floor≤d.at_)&&inB fr ti q d)=L0 at *;clear bC;generalize m.ds[k]=d at *;have al:zWW wr (wr.alloc (.cells #[.int .i64 d.seq,.int .i64 d.at_,.slice F d.fs.length P] 48)):=zRR _;have X:=zh al;have U:=zh (Blk.new wr 48 #[.int .i64 d.seq,.int .i64 d.at_,.slice F d.fs.length P]);have aY:=zh (an.below al an.lt);have ab:=zh (aA.below al aA.lt);have aj:=an.cell 7;simp only[rmC,zA,zB,zC]at aj;clear al an aA a9
  go_upto_region 6 with(fail);generalize wr.alloc (.cells #[.int .i64 d.seq,.int .i64 d.at_,.slice F d.fs.length P] 48)=w2 at *;generalize bX:wr.heap.size=bx at *;clear q0 q1 q2 aj;have f0:=U.out.cell 0;have f1:=U.out.cell 1;have f2:=U.out.cell 2;simp only[zA,zB,zC]at f0 f1 f2;have g8:=aY.out.cell 8;simp only[rmC,zA,zB,zC]at g8;have r0:=ab.out.cell 0;have r1:=ab.out.cell 1;have r2:=ab.out.cell 2;have r3:=ab.out.cell 3;simp only[zA,zB,zC]at r0 r1 r2 r3;have ac:Hid (zWW w1 w2):=zh (I.out.trans (X.out.mono (by have:=I.out.size;omega)));have ah:=zh (hO.out.below (X.out.mono jo) (fun b s=>by have:=J.out b s;omega));have au:=zh (bD.out.same (fun b s=>⟨s,X.out.block b (by have:=J.out b s;omega)⟩));have bQ:=X.out.size;have b1:=U.out.lt;have a5:Hid (Calls prog 118 #[.agg #[.int .i64 q.kind,.string q.name,.slice A1 n1 c1,.slice A2 n2 c2],.agg #[.int .i64 d.at_,.slice F d.fs.length P]] w2 fun e w'=>e=.returned (.bool pd)∧zWW w2 w'):=zh (CM.out w2 X.out);clear hO CM;have CM:=a5;clear a5;by_cases e1:m.floor≤d.at_
  ·by_cases e2:fr≤d.at_
   ·by_cases e3:d.at_≤ti
    ·rw[zO e1,zO e2,zO e3,Bool.true_and,Bool.true_and,Bool.true_and]at E;go_wp2_with fail;refine CM.out.mono ?_;rintro e w3 ⟨rfl,W⟩;have bh:=zt ac W;have aK:=zh (ah.out.below W (fun b s=>by have:=J.out b s;omega));have ar:=zh (au.out.same (fun b s=>⟨s,W.block b (by have:=J.out b s;omega)⟩));have N:=zb U W;have bV:=W.size;have bL:=N.out.lt;clear W ah au ac CM f0 f1 f2 g8 r0 r1 r2 r3 U aY ab X
     cases pd with
     | false=>
      rw[zH jd,List.append_nil]at E;clear N ar;go_wp2;go_roundw
      case rel=>exact⟨k+1,t,jo,ju,by rw[E.out];exact HT,aK,bh⟩
      simp[intOf];omega
     | true=>
      rw[zI rfl]at E;obtain⟨A9,c9,bp,ao,aQ,aR⟩:=aK.out.read;have bj:=BV ao (fun b s=>s.2) (fun b s=>by have:=J.out b s;omega);have aN:=zh bj;have bz:=bi.out;subst bp;have bG:=zh N.out;clear ao bj;obtain⟨Z,aa⟩:∃Z,t.length=Z:=⟨_,rfl⟩;rw[aa]at aN aQ bz ⊢;have H:=zh aa;clear aa bi
      go_upto_region 8 with(fail);go_loopw [12] (fun kv wy=>∃(p:Nat) (pi:Int),kv=.int .i64 pi∧Hid (pi=(p:Int))∧p≤Z∧Hid (∀x∈t.drop p,ltD d x)∧Hid (zWW w3 wy)) (fun kv _=>(intOf kv).toNat)
      case atStart=>exact⟨Z,_,rfl,zh rfl,zG _,zh (fun x hx=>by rw[←H.out,List.drop_length]at hx;cases hx),zh (zy _ _)⟩
      obtain⟨p,pi,rfl,ai,am,ap,T⟩:=hrel;have ba:pi≤(p:Int):=by rw[ai.out];exact Int.le_refl _
      have aM:(p:Int)≤pi:=by rw[ai.out];exact Int.le_refl _
      have bb:=T.out.size;have ax:=zh (N.out.below T.out N.out.lt)
      go_upto_region 8 with(fail);go_cut [64]from 54 to 64 (fun v l=>∃b:Bool,v=.bool b∧Hid (b=true→0<p∧∀x,t[p-1]?=some x→ltD d x)∧Hid (b=false→∀x,t[p-1]?=some x→0<p→¬ltD d x)∧zWW wr l)
      case first=>
       by_cases a7:p=0
       ·have bE:¬(0:Int)<pi:=jo;refine iF (fF []) (fun l=>Below (World.heap wr).size wr l) (fun w1 w2=>zWW w1 w2) jk jk (fQ) (zy _ _).drew ?_
        iterate 3
         refine fG _ ?_ rfl jr jr (fun l o L=>?_) ?_;rotate_left
         ·go_simp;all_goals with_reducible rfl
         try simp only[Act.put,zD,zE,zF]
        refine fK 4 (some false) true rfl jr jr jr ?_;try simp only[Act.put,zD,zE,zF]
        refine fK 5 (some false) true rfl jr jr jr ?_;try simp only[Act.put,zD,zE,zF]
        refine fK 6 (some false) true rfl jr jr jr ?_;try simp only[Act.put,zD,zE,zF]
        refine fK 7 (some false) true rfl jr jr jr ?_;try simp only[Act.put,zD,zE,zF]
        refine fK 8 (some false) true rfl jr jr jr ?_;try simp only[Act.put,zD,zE,zF]
        refine fK 9 (some false) true rfl jr jr jr ?_;try simp only[Act.put,zD,zE,zF]
        refine fK 10 (some false) true rfl jr jr jr ?_;try simp only[Act.put,zD,zE,zF]
        refine fG 11 ?_ rfl jr jr (fun l o L=>?_) ?_;rotate_left
        ·go_simp;all_goals with_reducible rfl
        try simp only[Act.put,zD,zE,zF]
        refine fW (fun wq o hF=>?_);clear hF;go_wp2;go_meet;exact⟨false,rfl,zh (fun h=>by cases h),zh (fun _ x _ h0=>absurd h0 jo),o⟩
       have bE:(0:Int)<pi:=jo;have Y:p-1<t.length:=by rw[H.out];omega
       obtain⟨yb,yo,G,yn,yc,bt,aE,y0,y1,y2,_,bo,_⟩:=(aN.out.grow T.out).at_ Y;have CA:Hid (∀l,Calls prog 119 #[.agg #[.int .i64 d.seq,.int .i64 d.at_,.slice F d.fs.length P],.agg #[.int .i64 t[p-1].seq,.int .i64 t[p-1].at_,.slice G yn yc]] l fun e w'=>e=.returned (.bool (decide (ltD d t[p-1])))∧zWW l w'):=zh (fun l=>IM d t[p-1] F G d.fs.length P yn yc l);have bg:t[p-1]?=some t[p-1]:=zU Y;have aC:=zh bg;have aW:Hid (∀b:Bool,decide (ltD d t[p-1])=b→(b=true→0<p∧∀x,t[p-1]?=some x→ltD d x)∧(b=false→∀x,t[p-1]?=some x→0<p→¬ltD d x)):=zh (fun b s=>⟨fun e=>⟨jo,fun x hx=>by rw[aC.out]at hx;injection hx with hx;subst hx;exact of_decide_eq_true (s.trans e)⟩,fun e x hx _=>by rw[aC.out]at hx;injection hx with hx;subst hx;exact of_decide_eq_false (s.trans e)⟩);clear bg bo;generalize bs:decide (ltD d t[p-1])=bd at *;have aD:=zh (aW.out bd rfl);clear aW bs aC;generalize t[p-1].seq=ys at *;generalize t[p-1].at_=ya at *;have aX:IntKind.i64.wrap (pi-1)=((p-1:Nat):Int):=by rw[IntKind.wrap_i64];omega
       obtain⟨p1,aV⟩:∃p1,p-1=p1:=⟨_,rfl⟩;have bK:(0:Int)≤(p1:Int):=jo;have bI:(p1:Int)<(Z:Int):=jo;rw[aV]at aX y0 y1 y2
       have Hcy:Hid (∀l,zWW wr l→l.cell? ⟨bx,0,none⟩=some (.int .i64 d.seq)∧l.cell? ⟨bx,1,none⟩=some (.int .i64 d.at_)∧l.cell? ⟨bx,2,none⟩=some (.slice F d.fs.length P)∧l.cell? ⟨yb,yo+p1*3,none⟩=some (.int .i64 ys)∧l.cell? ⟨yb,yo+p1*3+1,none⟩=some (.int .i64 ya)∧l.cell? ⟨yb,yo+p1*3+2,none⟩=some (.slice G yn yc)):=zh (fun l s=>by
        have r:=ax.out.below s ax.out.lt;have r0:=r.cell 0;have r1:=r.cell 1;have r2:=r.cell 2;simp only[zA,zB,zC]at r0 r1 r2
        exact⟨r0,r1,r2,(s.cell aE).trans y0,(s.cell aE).trans y1,(s.cell aE).trans y2⟩)
       clear y0 y1 y2 aV;subst bt;refine iF (fF [(9,⟨Unit,fun _=>(.bool bd),fun _ _=>True⟩)]) (fun l=>Below (World.heap wr).size wr l) (fun w1 w2=>zWW w1 w2) jk jk (fN (fun _ _ _ _ h=>h) (fQ)) (zy _ _).drew ?_
       iterate 9
        refine fG _ ?_ rfl jr jr (fun l o L=>?_) ?_;rotate_left
        ·have O:=Hcy.out l o;go_simp;all_goals with_reducible rfl
        try simp only[Act.put,zD,zE,zF]
       refine fo 10 _ rfl jr jr (fun l o L=>?_) (fun x=>?_)
       ·refine fZ (f:=?_) (args:=?_) ?_ ?_;rotate_left 2
        ·have O:=Hcy.out l o;go_simp;all_goals first|with_reducible rfl|(refine⟨?_,?_⟩<;>with_reducible rfl)
        exact ia o (CA.out l)
       obtain⟨⟩:=x;try simp only[Act.put,zD,zE,zF]
       refine fG 11 ?_ rfl jr jr (fun l o L=>?_) ?_;rotate_left
       ·have O:=Hcy.out l o;go_simp;all_goals with_reducible rfl
       try simp only[Act.put,zD,zE,zF]
       refine fW (fun wq o hF=>?_);clear hF;go_wp2;go_meet;exact⟨bd,rfl,zh aD.out.1,zh aD.out.2,o⟩
      case rest=>
      obtain⟨b,rfl,ay,aL,ak⟩:=hcut
      cases b with
      | true=>
       obtain⟨a7,aZ⟩:=ay.out rfl;have aX:IntKind.i64.wrap (pi-1)=pi-1:=by rw[IntKind.wrap_i64];omega
       have Y:p-1<t.length:=by rw[H.out];omega
       have a6:Hid (∀x∈t.drop (p-1),ltD d x):=zh (fun x hx=>by
        rw[zf Y,show p-1+1=p by omega]at hx;rcases List.mem_cons.1 hx with rfl|hx
        ·exact aZ _ (zU Y)
        exact ap.out x hx)
       have C:=zh (T.out.trans (ak.mono bb));clear ak aZ Y ay aL ap;go_wp2;go_roundw
       case rel=>exact⟨p-1,pi-1,rfl,zh jo,jo,a6,C⟩
       simp[intOf];omega
      | false=>
       have a8:=aL.out rfl;have aT:Hid (ByT (L0 ++ [d]) (t.take p ++ [d]++t.drop p)):=zh (Ls HT.out (by rw[H.out];exact am) ap.out a8 bl.out);have C:=zh (T.out.trans (ak.mono bb));clear ak a8 ay aL ap T ax
       go_upto_region 10 with(fail);rename World=>w5
       have bU:=C.out.size;have br:=zh (aK.out.below C.out (fun b s=>by have:=J.out b s;omega));have bf:=zh (ar.out.same (fun b s=>⟨s,C.out.block b (by have:=J.out b s;omega)⟩));have bm:=zh (N.out.below C.out N.out.lt);obtain⟨y,g1,g2,g3⟩:=br.out.ex;obtain⟨A',c',e9,aw,_⟩:=Ev.fP g2;injection e9 with e9a e9b e9c;subst e9a e9c;rw[H.out]at aw g1
       have h4:∀v∈y,v.length=3:=fun v hv=>by
        obtain⟨j,hj,rfl⟩:=zu.1 hv;exact(g3 j (by rw[H.out];omega) hj).len
       have af:∀u∈y.flatten,u.oneCell'=true:=ui (by rw[H.out];exact g1) g3
       have aH:Hid (∀l,zWW w5 l→Reads l l.heap.size 3 A9 p (y.flatten.take (p*3))∧Reads l l.heap.size 3 (if c9=p then A9 else A9.map (·.add (p*3))) (Z-p) (y.flatten.drop (p*3))):=zh (fun l s=>by
        have hr:=(aw.below s).more s.size
        exact⟨Ae hr am,NG hr am aQ⟩)
       have ae:Hid ((∀u∈y.flatten.take (p*3),u.oneCell'=true)∧(∀u∈y.flatten.drop (p*3),u.oneCell'=true)):=zh ⟨fun u hu=>af u (List.mem_of_mem_take hu),fun u hu=>af u (List.mem_of_mem_drop hu)⟩;have ad:Hid (y.flatten.take (p*3)=(y.take p).flatten∧y.flatten.drop (p*3)=(y.drop p).flatten):=zh ⟨(oU h4 p).symm,(IK h4 p).symm⟩
       have aq:Hid ((A9=none→c9=0)∧((if c9=p then A9 else A9.map (·.add (p*3)))=none→c9-p=0)):=zh ⟨aR,fun e=>by
        split at e
        ·omega
        cases A9 with
        | none=>have:=aR rfl;omega
        | some a=>cases e⟩
       obtain⟨T1,bc⟩:∃T1,y.flatten.take (p*3)=T1:=⟨_,rfl⟩;obtain⟨T2,aO⟩:∃T2,y.flatten.drop (p*3)=T2:=⟨_,rfl⟩;rw[bc,aO]at aH ae ad;have G1:=zh g1;have G3:=zh g3;clear bc aO g1 g2 g3 aw h4 af;have aU:pi=(p:Int):=ai.out;clear ai ba aM;subst aU;have a7:(0:Int)≤(p:Int):=jo;have bP:(p:Int)≤(Z:Int):=jo;have bO:(p:Int)≤(c9:Int):=jo;have bW:(Z:Int)≤(c9:Int):=jo
       have ag:Hid (∀l,zWW w5 l→l.cell? ⟨bx,0,none⟩=some (.int .i64 d.seq)∧l.cell? ⟨bx,1,none⟩=some (.int .i64 d.at_)∧l.cell? ⟨bx,2,none⟩=some (.slice F d.fs.length P)):=zh (fun l s=>by
        have r:=bm.out.below s bm.out.lt;have r0:=r.cell 0;have r1:=r.cell 1;have r2:=r.cell 2;simp only[zA,zB,zC]at r0 r1 r2
        exact⟨r0,r1,r2⟩)
       refine Gx.si 12 (fF [(0,⟨Nat,fun g=>.slice (some ⟨g,0,none⟩) 0 0,fun g l=>l.ownsRow w5.heap.size 48 3 (.slice (some ⟨g,0,none⟩) 0 0) 0 []⟩),(4,⟨Value,fun v=>v,fun v l=>l.ownsRow w5.heap.size 48 3 v p T1⟩),(6,⟨Nat,fun g=>.slice (some ⟨g,0,none⟩) 1 1,fun g l=>Blk l g 48 #[.int .i64 d.seq,.int .i64 d.at_,.slice F d.fs.length P]⟩),(7,⟨Value,fun v=>v,fun v l=>l.ownsRow w5.heap.size 48 3 v (p+1) (T1 ++ [.int .i64 d.seq,.int .i64 d.at_,.slice F d.fs.length P])⟩),(11,⟨Value,fun v=>v,fun v l=>l.ownsRow w5.heap.size 48 3 v (Z+1) (T1 ++ [.int .i64 d.seq,.int .i64 d.at_,.slice F d.fs.length P]++T2)⟩)]) (fun i=>i==7 || i==11) (fun l=>Below (World.heap w5).size w5 l) (fun w1 w2=>zWW w1 w2) jk jk (Gx.uK jk) (fN (fun g wa wb V h=>h.kept (fH V none) (by simp[Value.ownBlock])) (fN (fun g wa wb V h=>h.kept (fH V none) (by cases hv:g.ownBlock<;>simp)) (fN (fun g wa wb V h=>h.below V h.lt) (fN (fun g wa wb V h=>h.kept (fH V none) (by cases hv:g.ownBlock<;>simp)) (fN (fun g wa wb V h=>h.kept (fH V none) (by cases hv:g.ownBlock<;>simp)) (fQ)))))) ((zy _ _).drew) ?_;simp only[zX,List.take_zero,zo,List.drop_zero];refine Gx.mZ 1 _ rfl jr jr jr (fun l o L=>?_) (fun x=>?_)
       ·refine kr (u:=?_) (w':=?_) ?_ ?_ ?_;rotate_left 2
        ·have O:=ag.out l o;go_simp;all_goals first|with_reducible rfl|(refine⟨?_,?_⟩<;>with_reducible rfl)
        ·exact(zRR _)
        exact⟨o.alloc o.size _,l.heap.size,rfl,World.ownsRow_made (base:=w5.heap.size) (e:=48) (size:=3) l #[] 0 o.size jx rfl⟩
       rename Nat=>x0
       try simp only[Act.put,zD,zE,zF]
       iterate 3
        refine Gx.nR _ ?_ rfl jr jr (fun l o L=>?_) ?_;rotate_left
        ·have O:=ag.out l o;go_simp;all_goals with_reducible rfl
        try simp only[Act.put,zD,zE,zF]
       refine Gx.mZ 5 _ rfl jr jr jr (fun l o L=>?_) (fun x=>?_)
       ·have R:=gZ (kM L 0 jk) jd;obtain⟨hr,_⟩:=aH.out l o;refine xL _ _ 26 rfl w5.heap.size 48 i0 _ 3 40 underlying26 aF aG aI az rfl jd x0 rfl R A9 p c9 T1 rfl hr aq.out.1 ae.out.1 jx jo o.size (fun v' w' ho s=>⟨o.trans (s.mono o.size),v',rfl,ho⟩)
       rename Value=>x4
       try simp only[Act.put,zD,zE,zF]
       refine Gx.nR 6 ?_ rfl jr jr (fun l o L=>?_) ?_;rotate_left
       ·have O:=ag.out l o;go_simp;all_goals with_reducible rfl
       try simp only[Act.put,zD,zE,zF]
       refine Gx.mZ 7 _ rfl jr jr jr (fun l o L=>?_) (fun x=>?_)
       ·refine kr (u:=?_) (w':=?_) ?_ ?_ ?_;rotate_left 2
        ·have O:=ag.out l o;go_simp;all_goals first|with_reducible rfl|(refine⟨?_,?_⟩<;>with_reducible rfl)
        ·exact(zRR _)
        exact⟨o.alloc o.size _,l.heap.size,rfl,Blk.new _ _ _⟩
       rename Nat=>x6
       try simp only[Act.put,zD,zE,zF]
       refine Gx.wG 8 _ rfl jr jr jr (fun l o hI L=>?_) (fun x=>?_)
       ·have R:=gZ (nk (kM L 4 jk) jd) jd;have aS:=gZ (kM L 6 jk) jd;refine pM _ _ 26 rfl w5.heap.size 48 i0 _ 3 40 underlying26 aF aG aI az rfl jd x4 p T1 rfl R (Bd:=l.heap.size) (some ⟨x6,0,none⟩) 1 1 [.int .i64 d.seq,.int .i64 d.at_,.slice F d.fs.length P] rfl ⟨rfl,fun _=>⟨x6,0,rfl,aS.lt,fun j u hj=>by rw[zi];exact(aS.cell j).trans (by simpa using hj)⟩⟩ (fun e=>nomatch e) (fun u hu=>by simp at hu;rcases hu with rfl|rfl|rfl<;>rfl) jx jo o.size (fun v' w' ho V _=>⟨o.grown V o.size (fun j hj=>(R.lt j hj).1),v',rfl,ho⟩)
       rename Value=>x7
       try simp only[Act.put,zD,zE,zF]
       iterate 3
        refine Gx.nR _ ?_ rfl jr jr (fun l o L=>?_) ?_;rotate_left
        ·have O:=ag.out l o;go_simp;all_goals with_reducible rfl
        try simp only[Act.put,zD,zE,zF]
       refine Gx.wG 12 _ rfl jr jr jr (fun l o hI L=>?_) (fun x=>?_)
       ·obtain⟨_,hr⟩:=aH.out l o;refine pM _ _ 26 rfl w5.heap.size 48 i0 _ 3 40 underlying26 aF aG aI az rfl jd x7 (p+1) _ rfl hI (Bd:=l.heap.size) _ (Z-p) (c9-p) T2 rfl hr aq.out.2 ae.out.2 jx jo o.size (fun v' w' ho V _=>⟨o.grown V o.size (fun j hj=>(hI.lt j hj).1),v',rfl,by rw[show Z+1=p+1+(Z-p) by omega];exact ho⟩)
       rename Value=>x11
       try simp only[Act.put,zD,zE,zF]
       refine Gx.ww (fun w6 o hF hI=>?_);have aD:Hid (zWW w5 w6):=zh o;have bN:=o.size
       have aP:Hid (DOwnS w6 w1.heap.size S x11 (t.take p ++ [d]++t.drop p)):=zh (by
        have ao:=(bf.out.same (fun b s=>⟨s,o.block b (by have:=J.out b s;omega)⟩));refine(uJ (w:=w6) (base:=w5.heap.size) (by rw[H.out];exact G1.out) (fun i a b=>(G3.out i a b).same (fun b s=>⟨s,o.block b (by have:=J.out b s;omega)⟩)) ao (by rw[H.out];exact am) ?_ (fun b s=>rfl)).mono jo;rw[H.out,←ad.out.1,←ad.out.2]
        exact hI)
       have bA:=zh ((bh.out.trans (C.out.mono jo)).trans (o.mono jo));clear hF o hI;go_wp2;go_roundw
       case rel=>exact⟨k+1,_,jo,ju,by rw[E.out];exact aT,aP,bA⟩
       simp[intOf];omega
    have e0:(decide (m.floor≤d.at_)&&(decide (fr≤d.at_)&&decide (d.at_≤ti)&&pd))=false:=by rw[zO e1,zO e2,zN e3];cases pd<;>rfl
    rw[e0,zH jd,List.append_nil]at E;clear CM e0;go_wp2;go_roundw
    case rel=>exact⟨k+1,t,jo,ju,by rw[E.out];exact HT,ah,ac⟩
    simp[intOf];omega
   have e0:(decide (m.floor≤d.at_)&&(decide (fr≤d.at_)&&decide (d.at_≤ti)&&pd))=false:=by rw[zO e1,zN e2];simp
   rw[e0,zH jd,List.append_nil]at E;clear CM e0;go_wp2;go_roundw
   case rel=>exact⟨k+1,t,jo,ju,by rw[E.out];exact HT,ah,ac⟩
   simp[intOf];omega
  have e0:(decide (m.floor≤d.at_)&&(decide (fr≤d.at_)&&decide (d.at_≤ti)&&pd))=false:=by rw[zN e1];simp
  rw[e0,zH jd,List.append_nil]at E;clear CM e0;go_wp2;go_roundw
  case rel=>exact⟨k+1,t,jo,ju,by rw[E.out];exact HT,ah,ac⟩
  simp[intOf];omega
 obtain rfl:k=m.ds.length:=jo;rw[zR (zG _),←bv.out]at HT;have aj:=(HM.out.below I.out jo).cell 7;simp only[rmC,zA,zB,zC]at aj;have bY:¬(m.ds.length:Int)<(z.n:Int):=jo;go_wp2;go_ret;exact⟨_,_,rfl,hO.out.mono jo,HT.out,HB.out.trans (I.out.mono HB.out.size)⟩
end
end Md
end Go.Proofs.YtmomjpolkkbhnaaGreat
