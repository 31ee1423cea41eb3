/- The document's Phrase, Begins, Prefixed; token.Prefixed: the walks. -/
import Derived.Laws.EntriesVeiled
import Derived.Test.YtmomjpolkkbhnaaGreatQModelRunsRow12
set_option linter.unusedSimpArgs false
set_option maxRecDepth 20000
set_option maxHeartbeats 100000000
open Go.Proofs.Tryz
namespace Go.Proofs.YtmomjpolkkbhnaaGreat
namespace Qy
open Go.RowKit Ut Tk
theorem yR(TA:Option Addr)(n tc:Nat)(T:List (List UInt8))(WA:Option Addr)(m wc:Nat)(ws:List ByteArray)(w:World)(hT:Reads w w.heap.size 2 TA n (iN (gm T)))(hn:T.length=n)(hn2:n≤1048576)
  (hW:Reads w w.heap.size 1 WA m (ws.map Value.string)) (hm:ws.length=m) (hm2:m≤8796093021952) :
  Calls prog 172 #[.slice TA n tc,.slice WA m wc] w (Bm w (phr T ws)):=by
 obtain⟨Y,F,G,L,C⟩:=info_parts uB;have R:=zh hT;have Z:=zh hW;clear hT hW;by_cases N:m=0
 ·have c:ws=[]:=List.length_eq_zero_iff.1 jo;have Fin:Hid (phr T ws=[]):=zh (by unfold phr;rw[zI c]);have J:¬(0:Int)<(m:Int):=jo;have r:¬0<m:=jo;clear N c hm;go_enter func172,ntmps172;go_wp2;go_loopw [5,6] (fun v i wr=>v=.slice none 0 0∧i=.int .i64 0∧wr=w) (fun _ i _=>n-(intOf i).toNat)
  case atStart=>exact⟨rfl,rfl,rfl⟩
  obtain⟨rfl,rfl,rfl⟩:=hrel;by_cases V:(0:Int)<(n:Int)
  all_goals
   go_wp2;go_ret;exact⟨_,rfl,by rw[Fin.out];exact Ints.start _⟩
 have c:ws≠[]:=fun e=>N (by rw[←hm,e];rfl)
 have Fin:Hid (phr T ws=iI T ws n):=zh (by unfold phr;rw[zH c,hn]);have J:(0:Int)<(m:Int):=jo;have r:0<m:=jo;have E:=zh hn;have W:=zh hm;clear N c hm hn;go_enter func172,ntmps172;go_wp2;go_loopw [5,6] (fun v i wr=>∃k:Nat,k≤n∧i=.int .i64 k∧Ints w wr v (iI T ws k)) (fun _ i _=>n-(intOf i).toNat)
 case atStart=>exact⟨0,zS _,rfl,Ints.start w⟩
 obtain⟨k,hk,rfl,d⟩:=hrel;by_cases q:k<n
 ·obtain⟨z,B,rfl,I,H,o⟩:=mR R.out E.out (k:=k) (by rw[E.out];exact q);have l:=Gs (some ⟨z,B,none⟩) n tc T WA m wc ws k wr ((R.out.below d.bel).more d.bel.size) E.out hn2 ((Z.out.below d.bel).more d.bel.size) W.out hm2 q;have O:=(d.bel.cell (p:=⟨z,B+k*2+1,none⟩) I).trans o;have s:z<wr.heap.size:=by have:=d.bel.size;omega
  have A:=zh d;have aa:=AP T ws k;have Hph:=zh (qf T ws k);clear d H o;by_cases x:kR T ws k=true
  ·rw[x]at l;have Hph2:Hid (iI T ws (k+1)=iI T ws k ++ [k]):=zh (by rw[Hph.out,x];rfl);clear x;generalize iI T ws k=P at *;go_wp2_with fail;refine l.mono ?_;rintro e M ⟨rfl,a⟩;have f:=A.out.below a;have g:=f.own;have U:=f.bel.size;have X:=(a.cell (p:=⟨z,B+k*2+1,none⟩) s).trans O;have j:=zh f;clear f l a;go_wp2_with (at_builtin;refine vJ _ rfl _ _ 27 rfl w.heap.size 3 Y _ 1 8 underlying27 F G L C rfl jd _ _ _ rfl (g.alloc _) ⟨M.heap.size,0,none⟩ 1 1 [.int .i64 (k:Int)] rfl rfl ?d1 ?d2 ?d3 ?d4 ?d5 ?_)
   case d1=>exact vH (cs:=#[.int .i64 (k:Int)]) (t:=3) (fr:=(0,0)) (vK M _)
   case d2=>first|rfl|(intro u S;simp at S;subst S;rfl)
   case d3=>unfold maxLen;omega
   case d4=>omega
   case d5=>first|omega|(simp;omega)
   intro v' w5 b y _;have D:=zh ((j.out.below (zRR _)).put b y);clear b y g;go_wp2;go_roundw
   case rel=>exact⟨k+1,jo,ju,by rw[Hph2.out];exact D.out⟩
   simp[intOf];omega
  have h:kR T ws k=false:=Bool.eq_false_iff.2 x;rw[h]at l;have Hph2:Hid (iI T ws (k+1)=iI T ws k):=zh (by rw[Hph.out,h];simp);clear x h;go_wp2_with fail;refine l.mono ?_;rintro e M ⟨rfl,a⟩;have j:=zh (A.out.below a);clear l a;go_wp2;go_roundw
  case rel=>exact⟨k+1,jo,ju,by rw[Hph2.out];exact j.out⟩
  simp[intOf];omega
 obtain rfl:k=n:=jo;have A:=zh d;clear d;go_wp2;go_ret;exact⟨_,rfl,by rw[Fin.out];exact A.out⟩
theorem sw(p t:List UInt8):p.isPrefixOf t=(decide (p.length≤t.length)&&(t.take p.length==p)):=by
 rw[Bool.eq_iff_iff];simp only[List.isPrefixOf_iff_prefix,zr,zg,beq_iff_eq];constructor
 ·rintro⟨r,rfl⟩;simp
 rintro⟨_,h⟩;exact⟨t.drop p.length,by have:=List.take_append_drop p.length t;rw[h]at this;exact this⟩
theorem FZ(x:List UInt8)(p:ByteArray)(w:World)(hx:x.length≤1048576) :
  Calls prog 192 #[.string (str x),.string p] w fun e w'=>e=.returned (.bool (gp x p))∧w=w':=by
 have d:gp x p=(decide (p.size≤(str x).size)&&((str x).extract 0 p.size).toList==p.toList):=by
  unfold gp;rw[sw,tl,tl,Lib.extract_data,fB,ni,gM];simp
 have c:=zh d;have g:(str x).size≤1048576:=by rw[ni];exact hx
 clear d;generalize str x=s at *;generalize gp x p=r at *;by_cases f:p.size≤s.size
 ·have b:(p.size:Int)≤(s.size:Int):=jo;have a:Hid (r=((s.extract 0 p.size).toList==p.toList)):=zh (by rw[c.out,zO f,Bool.true_and]);go_enter func192,ntmps192;go_wp2;go_ret;exact⟨by rw[a.out];rfl,rfl⟩
 have b:¬(p.size:Int)≤(s.size:Int):=jo;have a:Hid (r=false):=zh (by rw[c.out,zN f,Bool.false_and]);go_enter func192,ntmps192;go_wp2;go_ret;exact⟨by rw[a.out];rfl,rfl⟩
theorem EL(TA:Option Addr)(n tc:Nat)(T:List (List UInt8))(p:ByteArray)(w:World)(hT:Reads w w.heap.size 2 TA n (iN (gm T)))(hn:T.length=n)(hn2:n≤1048576)(h32:∀x∈T,x.length≤1048576) :
  Calls prog 173 #[.slice TA n tc,.string p] w fun e w'=>e=.returned (.bool (T.any (gp · p)))∧w=w':=by
 have q:=zh hT;have l:=zh hn;clear hT hn;go_enter func173,ntmps173;go_wp2
 go_loop [5] (fun i=>∃k:Nat,k≤n∧i=.int .i64 k∧(T.take k).any (gp · p)=false) (fun i=>n-(intOf i).toNat)
 case atStart=>exact⟨0,zS _,rfl,rfl⟩
 obtain⟨k,v,rfl,f⟩:=hrel;have Hal:=zh f;clear f;by_cases g:k<n
 ·obtain⟨u,t,rfl,o,s,m⟩:=mR q.out l.out (k:=k) (by rw[l.out];exact g);have d:k<T.length:=by rw[l.out];exact g
  have b:T.take (k+1)=T.take k ++ [T[k]]:=by rw[zL d]
  have j:=FZ T[k] p w (h32 _ (za d));have a:T[k]∈T:=za d;clear m;by_cases h:gp T[k] p=true
  ·have Fin:Hid (T.any (gp · p)=true):=zh (List.any_eq_true.2 ⟨_,a,h⟩);rw[h]at j;clear h b a;generalize str T[k]=x at *;go_wp2_with fail;refine j.mono ?_;rintro e r ⟨rfl,rfl⟩;go_wp2;go_ret;exact⟨by rw[Fin.out];rfl,rfl⟩
  have c:gp T[k] p=false:=Bool.eq_false_iff.2 h;have Hnx:Hid ((T.take (k+1)).any (gp · p)=false):=zh (by rw[b,List.any_append,Hal.out];simp[c]);rw[c]at j;clear h c b a;generalize str T[k]=x at *;go_wp2_with fail;refine j.mono ?_;rintro e r ⟨rfl,rfl⟩;go_wp2
  go_round
  case rel=>exact⟨k+1,jo,ju,Hnx.out⟩
  simp[intOf];omega
 obtain rfl:k=n:=jo;have Fin:Hid (T.any (gp · p)=false):=zh (by have:=Hal.out;rwa[zR (by rw[l.out];exact zG _)]at this);go_wp2;go_ret;exact⟨by rw[Fin.out];rfl,rfl⟩
def kI(p:Nat→Bool)(n:Nat):Int:=match (List.range n).find? p with|some i=>(i:Int)|none=>-1
theorem uU(p:Nat→Bool)(n k:Nat)(hk:k<n)(h:∀j,j<k→p j=false)(hp:p k=true):kI p n=(k:Int):=by
 unfold kI
 have:(List.range n).find? p=some k:=by
  rw[List.find?_range_eq_some];exact⟨hp,by simpa using hk,fun j a=>by simp[h j a]⟩
 rw[this]
theorem vA(p:Nat→Bool)(n:Nat)(h:∀j,j<n→p j=false):kI p n=-1:=by
 unfold kI
 have:(List.range n).find? p=none:=by
  rw[List.find?_eq_none];intro j a;rw[h j (by simpa using a)];decide
 rw[this]
theorem uV(p:Nat→Bool)(n:Nat):decide (0≤kI p n)=(List.range n).any p:=by
 unfold kI
 cases h:(List.range n).find? p with
 | none=>
  rw[List.find?_eq_none]at h;symm;simp only[Int.reduceNeg,Int.reduceLE,decide_false];rw[List.any_eq_false];exact h
 | some i=>
  have a:=List.find?_some h;have b:=List.mem_of_find?_eq_some h;have e:(List.range n).any p=true:=List.any_eq_true.2 ⟨i,b,a⟩;rw[e];simp
theorem JN(TA:Option Addr)(n tc:Nat)(T:List (List UInt8))(f:Nat)(lb:Array Value)(p:Nat→Bool)(w:World)(hcf:∀args wx,(callFunc f args).run prog wx=.ok (.enter f args) wx)(hT:Reads w w.heap.size 2 TA n (iN (gm T)))(hn:T.length=n)(hn2:n≤1048576)
  (hf:∀i (h:i<T.length) wx,zWW w wx→Calls prog f (#[.agg #[.string (str T[i]),.int .i64 (i:Int)]]++lb) wx fun e w'=>e=.returned (.bool (p i))∧zWW wx w') :
  Calls prog 179 #[.slice TA n tc,.func (.func f) #[] lb] w fun e w'=>e=.returned (.int .i64 (kI p n))∧zWW w w':=by
 have B:=zh hT;have t:=zh hn;have D:=zh hf;clear hT hn hf;go_enter func179,ntmps179;go_wp2;go_loopw [8] (fun i wr=>∃k:Nat,k≤n∧i=.int .i64 k∧(∀j,j<k→p j=false)∧zWW w wr) (fun i _=>n-(intOf i).toNat)
 case atStart=>exact⟨0,zS _,rfl,fun j C=>jo,zy _ _⟩
 obtain⟨k,H,rfl,q,s⟩:=hrel;have Hal:=zh q;have l:=zh s;clear q s;by_cases c:k<n
 ·obtain⟨A,z,rfl,r,o,m⟩:=mR B.out t.out (k:=k) (by rw[t.out];exact c);have E:=(l.out.cell (p:=⟨A,z+k*2,none⟩) r).trans o;have G:=(l.out.cell (p:=⟨A,z+k*2+1,none⟩) r).trans m;have g:=D.out k (by rw[t.out];exact c) wr l.out
  have u:Hid (∀b,p k=b→(b=true→kI p n=(k:Int))∧(b=false→∀j,j<k+1→p j=false)):=zh (fun b s=>⟨fun e=>uU p n k c Hal.out (by rw[s,e]),fun e j C=>by
   by_cases v:j=k
   ·rw[v,s,e]
   exact Hal.out j jo⟩)
  clear o m;generalize (str (T[k]'(by rw[t.out];exact c)))=x at *
  cases hp:p k with
  | true=>
   have Fin:=zh ((u.out _ hp).1 rfl);rw[hp]at g;clear hp u;go_wp2_with fail;refine g.mono ?_;rintro e F ⟨rfl,a⟩;have d:=zt l a;clear a g;go_wp2;go_ret;exact⟨by rw[Fin.out];rfl,d.out⟩
  | false=>
   have y:=zh ((u.out _ hp).2 rfl);rw[hp]at g;clear hp u;go_wp2_with fail;refine g.mono ?_;rintro e F ⟨rfl,a⟩;have d:=zt l a;clear a g;go_wp2;go_roundw
   case rel=>exact⟨k+1,jo,ju,y.out,d.out⟩
   simp[intOf];omega
 obtain rfl:k=n:=jo;have Fin:=zh (vA p k Hal.out);go_wp2;go_ret;exact⟨by rw[Fin.out];rfl,l.out⟩
end Qy

namespace Qy
open Go.RowKit Ut Tk
theorem nC {P : Program} {f : FuncId} {fn : Func} {c : Code} (hf : P.funcs[f]? = some fn) (hname : (fn.name == "runtime.NumGoroutine") = false) (hb : fn.body = some c) (args : Array Value) (w : World) :
  (callFunc f args).run P w=.ok (.enter f args) w:=by
 have h1 : fn.name ≠ "runtime.NumGoroutine" := by simpa using hname
 simp[callFunc,hf,h1,hb]
theorem Ei(TA:Option Addr)(n tc:Nat)(T:List (List UInt8))(f:Nat)(lb:Array Value)(p:Nat→Bool)(w:World)(hcf:∀args wx,(callFunc f args).run prog wx=.ok (.enter f args) wx)(hT:Reads w w.heap.size 2 TA n (iN (gm T)))(hn:T.length=n)(hn2:n≤1048576)
  (hf:∀i (h:i<T.length) wx,zWW w wx→Calls prog f (#[.agg #[.string (str T[i]),.int .i64 (i:Int)]]++lb) wx fun e w'=>e=.returned (.bool (p i))∧zWW wx w') :
  Calls prog 160 #[.slice TA n tc,.func (.func f) #[] lb] w fun e w'=>e=.returned (.bool ((List.range n).any p))∧zWW w w':=by
 have c:=JN TA n tc T f lb p w hcf hT hn hn2 hf;have Fin:=zh (uV p n);clear hT hn hn2 hf hcf;generalize kI p n=z at *;go_enter func160,ntmps160;go_wp2_with fail;refine c.mono ?_;rintro e d ⟨rfl,a⟩;have b:=zh a;clear a c;go_wp2;go_ret;exact⟨by rw[←Fin.out];simp,b.out⟩
theorem JO(TA:Option Addr)(n tc:Nat)(T:List (ByteArray × ByteArray))(f:Nat)(lb:Array Value)(p:Nat→Bool)(w:World)(hcf:∀args wx,(callFunc f args).run prog wx=.ok (.enter f args) wx)(hT:Reads w w.heap.size 2 TA n (fJ T))(hn:T.length=n)(hn2:n≤8796093021952)
  (hf:∀i (h:i<T.length) wx,zWW w wx→Calls prog f (#[.agg #[.string T[i].1,.string T[i].2]]++lb) wx fun e w'=>e=.returned (.bool (p i))∧zWW wx w') :
  Calls prog 163 #[.slice TA n tc,.func (.func f) #[] lb] w fun e w'=>e=.returned (.int .i64 (kI p n))∧zWW w w':=by
 have B:=zh hT;have v:=zh hn;have D:=zh hf;clear hT hn hf;go_enter func163,ntmps163;go_wp2;go_loopw [8] (fun i wr=>∃k:Nat,k≤n∧i=.int .i64 k∧(∀j,j<k→p j=false)∧zWW w wr) (fun i _=>n-(intOf i).toNat)
 case atStart=>exact⟨0,zS _,rfl,fun j C=>jo,zy _ _⟩
 obtain⟨k,H,rfl,q,s⟩:=hrel;have Hal:=zh q;have l:=zh s;clear q s;by_cases c:k<n
 ·obtain⟨A,z,rfl,r,o,m⟩:=lq B.out (k:=k) (by rw[v.out];exact c);have E:=(l.out.cell (p:=⟨A,z+k*2,none⟩) r).trans o;have G:=(l.out.cell (p:=⟨A,z+k*2+1,none⟩) r).trans m;have g:=D.out k (by rw[v.out];exact c) wr l.out;clear o m
  have t:Hid (∀b,p k=b→(b=true→kI p n=(k:Int))∧(b=false→∀j,j<k+1→p j=false)):=zh (fun b s=>⟨fun e=>uU p n k c Hal.out (by rw[s,e]),fun e j C=>by
   by_cases u:j=k
   ·rw[u,s,e]
   exact Hal.out j jo⟩)
  generalize (T[k]'(by rw[v.out];exact c))=x at *
  cases hp:p k with
  | true=>
   have Fin:=zh ((t.out _ hp).1 rfl);rw[hp]at g;clear hp t;go_wp2_with fail;refine g.mono ?_;rintro e F ⟨rfl,a⟩;have d:=zt l a;clear a g;go_wp2;go_ret;exact⟨by rw[Fin.out];rfl,d.out⟩
  | false=>
   have y:=zh ((t.out _ hp).2 rfl);rw[hp]at g;clear hp t;go_wp2_with fail;refine g.mono ?_;rintro e F ⟨rfl,a⟩;have d:=zt l a;clear a g;go_wp2;go_roundw
   case rel=>exact⟨k+1,jo,ju,y.out,d.out⟩
   simp[intOf];omega
 obtain rfl:k=n:=jo;have Fin:=zh (vA p k Hal.out);go_wp2;go_ret;exact⟨by rw[Fin.out];rfl,l.out⟩
theorem Ej(TA:Option Addr)(n tc:Nat)(T:List (ByteArray × ByteArray))(f:Nat)(lb:Array Value)(p:Nat→Bool)(w:World)(hcf:∀args wx,(callFunc f args).run prog wx=.ok (.enter f args) wx)(hT:Reads w w.heap.size 2 TA n (fJ T))(hn:T.length=n)(hn2:n≤8796093021952)
  (hf:∀i (h:i<T.length) wx,zWW w wx→Calls prog f (#[.agg #[.string T[i].1,.string T[i].2]]++lb) wx fun e w'=>e=.returned (.bool (p i))∧zWW wx w') :
  Calls prog 140 #[.slice TA n tc,.func (.func f) #[] lb] w fun e w'=>e=.returned (.bool ((List.range n).any p))∧zWW w w':=by
 have c:=JO TA n tc T f lb p w hcf hT hn hn2 hf;have Fin:=zh (uV p n);clear hT hn hn2 hf hcf;generalize kI p n=z at *;go_enter func140,ntmps140;go_wp2_with fail;refine c.mono ?_;rintro e d ⟨rfl,a⟩;have b:=zh a;clear a c;go_wp2;go_ret;exact⟨by rw[←Fin.out];simp,b.out⟩
theorem JP(TA:Option Addr)(n tc:Nat)(k0:Int)(nm0:ByteArray)(ws0:List ByteArray)(A0:Option Addr)(n0:Nat)(T:List Q)(f:Nat)(lb:Array Value)(p:Nat→Bool)(w:World)(hcf:∀args wx,(callFunc f args).run prog wx=.ok (.enter f args) wx)(hT:QIs w w.heap.size k0 nm0 ws0 T A0 n0 TA n)(hn:T.length=n)(hn2:n≤8796093021952)
  (hf:∀i (h:i<T.length) a0 a1 a2 a3 wx,QAt w w.heap.size T[i] [a0,a1,a2,a3]→zWW w wx→Calls prog f (#[.agg #[a0,a1,a2,a3]]++lb) wx fun e w'=>e=.returned (.bool (p i))∧zWW wx w') :
  Calls prog 143 #[.slice TA n tc,.func (.func f) #[] lb] w fun e w'=>e=.returned (.int .i64 (kI p n))∧zWW w w':=by
 have D:=zh hT;have y:=zh hn;have F:=zh hf;clear hT hn hf;go_enter func143,ntmps143;go_wp2;go_loopw [8] (fun i wr=>∃k:Nat,k≤n∧i=.int .i64 k∧(∀j,j<k→p j=false)∧zWW w wr) (fun i _=>n-(intOf i).toNat)
 case atStart=>exact⟨0,zS _,rfl,fun j E=>jo,zy _ _⟩
 obtain⟨k,S,rfl,s,t⟩:=hrel;have Hal:=zh s;have g:=zh t;clear s t;by_cases a:k<n
 ·obtain⟨x,v,P,M,R,O,N,U,rfl,d,C,q,o,u,r⟩:=D.out.at_ (i:=k) (by rw[y.out];exact a);have H:=(g.out.cell (p:=⟨x,v+k*4,none⟩) d).trans q;have I:=(g.out.cell (p:=⟨x,v+k*4+1,none⟩) d).trans o;have L:=(g.out.cell (p:=⟨x,v+k*4+2,none⟩) d).trans u;have G:=(g.out.cell (p:=⟨x,v+k*4+3,none⟩) d).trans r;have m:=F.out k (by rw[y.out];exact a) _ _ _ _ wr C g.out;clear q o u r C
  have z:Hid (∀b,p k=b→(b=true→kI p n=(k:Int))∧(b=false→∀j,j<k+1→p j=false)):=zh (fun b t=>⟨fun e=>uU p n k a Hal.out (by rw[t,e]),fun e j E=>by
   by_cases A:j=k
   ·rw[A,t,e]
   exact Hal.out j jo⟩)
  generalize (T[k]'(by rw[y.out];exact a)).kind=x0 at *;generalize (T[k]'(by rw[y.out];exact a)).name=x1 at *
  cases hp:p k with
  | true=>
   have Fin:=zh ((z.out _ hp).1 rfl);rw[hp]at m;clear hp z;go_wp2_with fail;refine m.mono ?_;rintro e J ⟨rfl,c⟩;have l:=zt g c;clear c m;go_wp2;go_ret;exact⟨by rw[Fin.out];rfl,l.out⟩
  | false=>
   have B:=zh ((z.out _ hp).2 rfl);rw[hp]at m;clear hp z;go_wp2_with fail;refine m.mono ?_;rintro e J ⟨rfl,c⟩;have l:=zt g c;clear c m;go_wp2;go_roundw
   case rel=>exact⟨k+1,jo,ju,B.out,l.out⟩
   simp[intOf];omega
 obtain rfl:k=n:=jo;have Fin:=zh (vA p k Hal.out);go_wp2;go_ret;exact⟨by rw[Fin.out];rfl,g.out⟩
theorem xn(TA:Option Addr)(n tc:Nat)(k0:Int)(nm0:ByteArray)(ws0:List ByteArray)(A0:Option Addr)(n0:Nat)(T:List Q)(f:Nat)(lb:Array Value)(p:Nat→Bool)(w:World)(hcf:∀args wx,(callFunc f args).run prog wx=.ok (.enter f args) wx)(hT:QIs w w.heap.size k0 nm0 ws0 T A0 n0 TA n)(hn:T.length=n)(hn2:n≤8796093021952)
  (hf:∀i (h:i<T.length) a0 a1 a2 a3 wx,QAt w w.heap.size T[i] [a0,a1,a2,a3]→zWW w wx→Calls prog f (#[.agg #[a0,a1,a2,a3]]++lb) wx fun e w'=>e=.returned (.bool (p i))∧zWW wx w') :
  Calls prog 114 #[.slice TA n tc,.func (.func f) #[] lb] w fun e w'=>e=.returned (.bool ((List.range n).any p))∧zWW w w':=by
 have c:=JP TA n tc k0 nm0 ws0 A0 n0 T f lb p w hcf hT hn hn2 hf;have Fin:=zh (uV p n);clear hT hn hn2 hf hcf;generalize kI p n=z at *;go_enter func114,ntmps114;go_wp2_with fail;refine c.mono ?_;rintro e d ⟨rfl,a⟩;have b:=zh a;clear a c;go_wp2;go_ret;exact⟨by rw[←Fin.out];simp,b.out⟩
end Qy

namespace Qy
open Go.RowKit Ut Tk
theorem fS{w1 w2:World}{A:Option Addr}{k n:Nat}{xs:List Value}(hb:zWW w1 w2)(h:Reads w1 w1.heap.size k A n xs):Reads w2 w2.heap.size k A n xs:=(h.below hb).more hb.size
theorem Dy(x:List UInt8)(p:ByteArray):Lib.hasPrefix (str x).data.toList p.data.toList=gp x p:=by
 rw[gM];unfold gp;rw[sw];unfold Lib.hasPrefix
 first
  | rfl
  | (rw[Bool.eq_iff_iff];simp[List.isPrefixOf_iff_prefix,List.prefix_iff_eq_take];done)
  | (rw[←sw])
theorem rI{α:Type}(l:List α)(g:α→Bool):(List.range l.length).any (fun i=>(l[i]?).any g)=l.any g:=by
 rw[Bool.eq_iff_iff];simp only[List.any_eq_true,List.mem_range];constructor
 ·rintro⟨i,a,h⟩;rw[zU a]at h;exact⟨l[i],za a,by simpa using h⟩
 rintro⟨x,b,h⟩;obtain⟨i,a,rfl⟩:=zu.1 b;exact⟨i,a,by rw[zU a];simpa using h⟩
theorem EE(x:List UInt8)(i:Int)(pb:Nat)(p:ByteArray)(w:World)(hp:w.cell? ⟨pb,0,none⟩=some (.string p)) :
  Calls prog 161 #[.agg #[.string (str x),.int .i64 i],.pointer (some ⟨pb,0,none⟩)] w fun e w'=>e=.returned (.bool (gp x p))∧zWW w w':=by
 have a:=fun d=>Tryz.strings_HasPrefix (str x) p d
 simp only[Dy]at a;have f:=zh a;have b:zWW w (w.alloc (.cells #[.string (str x),.int .i64 i] 206)):=zRR _;have g:=zh b;have c:=World.block_lt_of_cell? w _ hp;clear a b;generalize str x=s at *;generalize gp x p=r at *;go_enter func161,ntmps161;go_wp2_with (go_at_call 162;refine(f.out _).mono ?_;rintro e w' ⟨rfl,rfl⟩);go_ret;exact⟨rfl,g.out⟩
theorem EM(TA:Option Addr)(n tc:Nat)(T:List (List UInt8))(p:ByteArray)(w:World)(hT:Reads w w.heap.size 2 TA n (iN (gm T)))(hn:T.length=n)(hn2:n≤1048576) :
  Calls prog 139 #[.slice TA n tc,.string p] w fun e w'=>e=.returned (.bool (T.any (gp · p)))∧zWW w w':=by
 have g:zWW w (w.alloc (.cells #[.string p] 9)):=zRR _;have j:=Blk.new w 9 #[.string p]
 have k:=Ei TA n tc T 161 #[.pointer (some ⟨w.heap.size,0,none⟩)] (fun i=>(T[i]?).any (gp · p)) (w.alloc (.cells #[.string p] 9))
  (fun a b=>nC func161 jk rfl a b) (fS g hT) hn hn2 (fun i h b d=>by
   have c:=EE T[i] (i:Int) w.heap.size p b ((d.cell (p:=⟨w.heap.size,0,none⟩) jz).trans (j.cell 0));rw[zU h]
   simpa using c)
 have e:=rI T (gp · p);rw[hn]at e;rw[e]at k;have l:=zh g;clear e g j hT;generalize T.any (gp · p)=r at *;go_enter func139,ntmps139;go_wp2_with (go_at_call 160;refine k.mono ?_;rintro e m ⟨rfl,f⟩);go_ret;exact⟨rfl,l.out.trans (f.mono l.out.size)⟩
structure QBox (w:World) (qb:Nat) (nm:ByteArray) (ws:List ByteArray):Prop where
 nm_:w.cell? ⟨qb,1,none⟩=some (.string nm)
 ws_:∃WA m wc,w.cell? ⟨qb,2,none⟩=some (.slice WA m wc)∧Reads w w.heap.size 1 WA m (ws.map Value.string)∧ws.length=m∧m≤8796093021952
theorem QBox.grow{w w':World}{qb:Nat}{nm:ByteArray}{ws:List ByteArray}(h:QBox w qb nm ws)(hb:zWW w w'):QBox w' qb nm ws:=by
 obtain⟨f,m,wc,e,d,b,c⟩:=h.ws_;have a:=World.block_lt_of_cell? w _ h.nm_;exact⟨(hb.cell (p:=⟨qb,1,none⟩) a).trans h.nm_,f,m,wc,(hb.cell (p:=⟨qb,2,none⟩) a).trans e,fS hb d,b,c⟩
theorem AQ(TA:Option Addr)(n tc:Nat)(T:List (List UInt8))(qb:Nat)(nm:ByteArray)(ws:List ByteArray)(w:World)(hT:Reads w w.heap.size 2 TA n (iN (gm T)))(hn:T.length=n)(hn2:n≤1048576)(hq:QBox w qb nm ws) :
  Calls prog 136 #[.slice TA n tc,.pointer (some ⟨qb,0,none⟩)] w fun e w'=>e=.returned (.bool (decide (0<(phr T ws).length)))∧zWW w w':=by
 obtain⟨i,m,wc,j,d,b,g⟩:=hq.ws_;have f:=FY TA n tc T i m wc ws w hT hn hn2 d b g;clear hq d hT hn b;generalize phr T ws=P at *;go_enter func136,ntmps136;go_wp2_with fail;refine f.mono ?_;rintro e k ⟨v,rfl,a⟩;obtain⟨A,c,rfl,_⟩:=fT a.own;have h:=zh a.bel;clear a f;go_wp2;go_ret;exact⟨jz,h.out⟩
theorem Gt(TA:Option Addr)(n tc:Nat)(T:List (List UInt8))(qb:Nat)(nm:ByteArray)(p:ByteArray)(w:World)(hT:Reads w w.heap.size 2 TA n (iN (gm T)))(hn:T.length=n)(hn2:n≤1048576)(hq:QBox w qb nm [p]) :
  Calls prog 138 #[.slice TA n tc,.pointer (some ⟨qb,0,none⟩)] w fun e w'=>e=.returned (.bool (T.any (gp · p)))∧zWW w w':=by
 obtain⟨t,m,wc,j,d,c,i⟩:=hq.ws_;obtain⟨b,o,q,rfl,l,g⟩:=d.at_map (k:=0) (by simp at c;omega);simp at g;obtain rfl:m=1:=by simpa using c.symm
 have f:=EM TA n tc T p w hT hn hn2;clear hq d hT hn c;generalize T.any (gp · p)=r at *;go_enter func138,ntmps138;go_wp2_with fail;refine f.mono ?_;rintro e s ⟨rfl,a⟩;have h:=zh a;clear a f;go_wp2;go_ret;exact⟨rfl,h.out⟩
theorem Gu(x y:ByteArray)(qb ab:Nat)(g:Nat)(nm:ByteArray)(ws:List ByteArray)(r:Bool)(w:World)(hy:y.size≤1048576)(hq:QBox w qb nm ws)(hab:w.cell? ⟨ab,0,none⟩=some (.func (.func g) #[] #[.pointer (some ⟨qb,0,none⟩)]))
  (hcf:∀args wx,(callFunc g args).run prog wx=.ok (.enter g args) wx)
  (hg:∀TA tc wx,Reads wx wx.heap.size 2 TA (words y.data.toList).length (iN (gm (words y.data.toList)))→zWW w wx→Calls prog g #[.slice TA (words y.data.toList).length tc,.pointer (some ⟨qb,0,none⟩)] wx fun e w'=>e=.returned (.bool r)∧zWW wx w') :
  Calls prog 141 #[.agg #[.string x,.string y],.pointer (some ⟨qb,0,none⟩),.pointer (some ⟨ab,0,none⟩)] w fun e w'=>e=.returned (.bool (x.toList==nm.toList&&r))∧zWW w w':=by
 have F:=fun wx=>FI y wx hy
 generalize words y.data.toList=T at *;have o:zWW w (w.alloc (.cells #[.string x,.string y] 85)):=zRR _;have t:∀wx,Below (w.alloc (.cells #[.string x,.string y] 85)).heap.size (w.alloc (.cells #[.string x,.string y] 85)) wx→zWW w wx:=fun wx J=>o.trans (J.mono jz)
 have B:=Blk.new w 85 #[.string x,.string y];have i:=hq.nm_;have z:=World.block_lt_of_cell? w _ i;have D:=World.block_lt_of_cell? w _ hab
 have c:∀wx,Below (w.alloc (.cells #[.string x,.string y] 85)).heap.size (w.alloc (.cells #[.string x,.string y] 85)) wx→wx.cell? ⟨w.heap.size,0,none⟩=some (.string x)∧wx.cell? ⟨w.heap.size,1,none⟩=some (.string y)∧wx.cell? ⟨qb,1,none⟩=some (.string nm)∧wx.cell? ⟨ab,0,none⟩=some (.func (.func g) #[] #[.pointer (some ⟨qb,0,none⟩)]):=fun wx b=>
  ⟨(b.cell (p:=⟨w.heap.size,0,none⟩) jz).trans (B.cell 0),(b.cell (p:=⟨w.heap.size,1,none⟩) jz).trans (B.cell 1),((t wx b).cell (p:=⟨qb,1,none⟩) z).trans i,((t wx b).cell (p:=⟨ab,0,none⟩) D).trans hab⟩
 have a:=zh c;have A:=zh t;have I:=zh hg;have H:=zh F;clear c t hg F o B hq i hab;by_cases j:(x.toList==nm.toList)=true
 ·have Fin:Hid ((x.toList==nm.toList&&r)=r):=zh (by rw[j,Bool.true_and]);rw[Fin.out];go_enter func141,ntmps141;go_wp2_with fail;refine iF (fF [(9,⟨Option Addr × Nat,fun x=>.slice x.1 T.length x.2,fun x w'=>Reads w' w'.heap.size 2 x.1 T.length (iN (gm T))⟩),(10,⟨Unit,fun _=>(.bool r),fun _ _=>True⟩)]) (fun wx=>Below (World.heap (w.alloc (.cells #[.string x,.string y] 85))).size (w.alloc (.cells #[.string x,.string y] 85)) wx) (fun s m=>zWW s m) jk jk (fN (fun x s m hg h=>fS hg h) (fN (fun _ _ _ _ h=>h) (fQ))) (zy _ _).drew ?_
  iterate 9
   refine fG _ ?_ rfl jr jr (fun wx b l=>?_) ?_;rotate_left
   ·have d:=a.out wx b;go_simp;all_goals with_reducible rfl
   try simp only[Act.put,zD,zE,zF]
  refine fo 10 _ rfl jr jr (fun wx b l=>?_) (fun x=>?_)
  ·refine fZ (f:=?_) (args:=?_) ?_ ?_;rotate_left 2
   ·have d:=a.out wx b;go_simp;all_goals first|with_reducible rfl|(refine⟨?_,?_⟩<;>with_reducible rfl)
   refine(H.out wx).mono ?_;rintro e s ⟨L,rfl,k,q⟩;obtain⟨E,G,rfl,u⟩:=fT k;exact⟨_,rfl,q,b.trans (q.mono b.size),(E,G),rfl,u⟩
  obtain⟨E,G⟩:=x;try simp only[Act.put,zD,zE,zF]
  refine fo 11 _ rfl jr jr (fun wx b l=>?_) (fun x=>?_)
  ·refine fZ (f:=?_) (args:=?_) ?_ ?_;rotate_left 2
   ·have d:=a.out wx b;go_simp;all_goals first|with_reducible rfl|(refine⟨?_,?_⟩<;>with_reducible rfl)
   exact ia b (I.out _ _ wx (gZ (kM l 9 jk) jd) (A.out wx b))
  obtain⟨⟩:=x;try simp only[Act.put,zD,zE,zF]
  iterate 2
   refine fG _ ?_ rfl jr jr (fun wx b l=>?_) ?_;rotate_left
   ·have d:=a.out wx b;go_simp;all_goals with_reducible rfl
   try simp only[Act.put,zD,zE,zF]
  refine fW (fun m b v=>?_);have C:=zh (A.out _ b);clear v b;go_wp2;go_ret;exact⟨rfl,C.out⟩
 have n:(x.toList==nm.toList)=false:=Bool.eq_false_iff.2 j;have Fin:Hid ((x.toList==nm.toList&&r)=false):=zh (by rw[n,Bool.false_and]);rw[Fin.out];clear j;go_enter func141,ntmps141;go_wp2_with fail;refine iF (fF []) (fun wx=>Below (World.heap (w.alloc (.cells #[.string x,.string y] 85))).size (w.alloc (.cells #[.string x,.string y] 85)) wx) (fun s m=>zWW s m) jk jk (fQ) (zy _ _).drew ?_
 iterate 6
  refine fG _ ?_ rfl jr jr (fun wx b l=>?_) ?_;rotate_left
  ·have d:=a.out wx b;go_simp;all_goals with_reducible rfl
  try simp only[Act.put,zD,zE,zF]
 refine fK 7 (some false) true rfl jr jr jr ?_;try simp only[Act.put,zD,zE,zF]
 refine fK 8 (some false) true rfl jr jr jr ?_;try simp only[Act.put,zD,zE,zF]
 refine fK 9 (some false) true rfl jr jr jr ?_;try simp only[Act.put,zD,zE,zF]
 refine fK 10 (some false) true rfl jr jr jr ?_;try simp only[Act.put,zD,zE,zF]
 refine fK 11 (some false) true rfl jr jr jr ?_;try simp only[Act.put,zD,zE,zF]
 iterate 2
  refine fG _ ?_ rfl jr jr (fun wx b l=>?_) ?_;rotate_left
  ·have d:=a.out wx b;go_simp;all_goals with_reducible rfl
  try simp only[Act.put,zD,zE,zF]
 refine fW (fun m b v=>?_);have C:=zh (A.out _ b);clear v b;go_wp2;go_ret;exact⟨rfl,C.out⟩
end Qy

namespace Qy
open Go.RowKit Ut Tk
theorem Nl(F:Option Addr)(fn fc:Nat)(fs:List (ByteArray × ByteArray))(qb ab g:Nat)(k:Int)(nm:ByteArray)(ws:List ByteArray)(W:World)(hF:Reads W W.heap.size 2 F fn (fJ fs))(hn:fs.length=fn)(hn2:fn≤8796093021952)(hs:∀f∈fs,f.2.size≤1048576)
  (hq:QBox W qb nm ws) (hab:W.cell? ⟨ab,0,none⟩=some (.func (.func g) #[] #[.pointer (some ⟨qb,0,none⟩)])) (hcf:∀args wx,(callFunc g args).run prog wx=.ok (.enter g args) wx)
  (hg:∀T TA tc wx,T.length≤1048576→Reads wx wx.heap.size 2 TA T.length (iN (gm T))→zWW W wx→Calls prog g #[.slice TA T.length tc,.pointer (some ⟨qb,0,none⟩)] wx fun e w'=>e=.returned (.bool (gP k ws T))∧zWW wx w') :
  Calls prog 140 #[.slice F fn fc,.func (.func 141) #[] #[.pointer (some ⟨qb,0,none⟩),.pointer (some ⟨ab,0,none⟩)]] W fun e w'=>e=.returned (.bool (kx k nm ws fs))∧zWW W w':=by
 have l:=Ej F fn fc fs 141 #[.pointer (some ⟨qb,0,none⟩),.pointer (some ⟨ab,0,none⟩)] (fun i=>(fs[i]?).any (fun f=>f.1.data.toList==nm.data.toList&&gP k ws (words f.2.data.toList))) W
  (fun args wx=>nC func141 jk rfl args wx) hF hn hn2 (fun i h wx a=>by
   have b:=hs _ (za h);have o:=nY fs[i].2;have j:=World.block_lt_of_cell? W _ hab
   have c:=Gu fs[i].1 fs[i].2 qb ab g nm ws (gP k ws (words fs[i].2.data.toList)) wx b (hq.grow a) ((a.cell (p:=⟨ab,0,none⟩) j).trans hab) hcf
    (fun TA tc n m d=>hg _ TA tc n jo m (a.trans (d.mono a.size)))
   rw[tl,tl]at c;rw[zU h]
   simpa using c)
 have e:=rI fs (fun f=>f.1.data.toList==nm.data.toList&&gP k ws (words f.2.data.toList));rw[hn]at e;rw[e]at l;exact l
theorem JQ{w:World}{k:Int}{nm:ByteArray}{ws:List ByteArray}{WA C:Option Addr}{m wc c1 c2:Nat}(hW:Reads w w.heap.size 1 WA m (ws.map Value.string))(hm:ws.length=m)(hm2:m≤8796093021952) :
  QBox (w.alloc (.cells #[.int .i64 k,.string nm,.slice WA m wc,.slice C c1 c2] 60)) w.heap.size nm ws:=by
 have a:=Blk.new w 60 #[.int .i64 k,.string nm,.slice WA m wc,.slice C c1 c2];exact⟨a.cell 1,WA,m,wc,a.cell 2,fS (zRR _) hW,hm,hm2⟩
theorem JR(k:Int)(nm:ByteArray)(ws:List ByteArray)(WA CA:Option Addr)(m wc c1 c2:Nat)(t:Int)(F:Option Addr)(fn fc:Nat)(fs:List (ByteArray × ByteArray))(w:World)(hk:k=2∨k=3∨k=4)
  (hW:Reads w w.heap.size 1 WA m (ws.map Value.string)) (hm:ws.length=m) (hm2:m≤8796093021952) (hF:Reads w w.heap.size 2 F fn (fJ fs)) (hn:fs.length=fn) (hn2:fn≤8796093021952) (hs:∀f∈fs,f.2.size≤1048576) :
  Calls prog 113 #[.agg #[.int .i64 k,.string nm,.slice WA m wc,.slice CA c1 c2],.agg #[.int .i64 t,.slice F fn fc]] w fun e w'=>e=.returned (.bool (kx k nm ws fs))∧zWW w w':=by
 have v:zWW w (w.alloc (.cells #[.int .i64 k,.string nm,.slice WA m wc,.slice CA c1 c2] 60)):=zRR _;have L:=JQ (k:=k) (nm:=nm) (wc:=wc) (C:=CA) (c1:=c1) (c2:=c2) hW hm hm2;have l:Below (w.alloc (.cells #[.int .i64 k,.string nm,.slice WA m wc,.slice CA c1 c2] 60)).heap.size (w.alloc (.cells #[.int .i64 k,.string nm,.slice WA m wc,.slice CA c1 c2] 60)) ((w.alloc (.cells #[.int .i64 k,.string nm,.slice WA m wc,.slice CA c1 c2] 60)).alloc (.cells #[.int .i64 t,.slice F fn fc] 46)):=zRR _;have I:=L.grow l;have h:=v.trans (l.mono v.size);have z:=fS h hF;have H:((w.alloc (.cells #[.int .i64 k,.string nm,.slice WA m wc,.slice CA c1 c2] 60)).alloc (.cells #[.int .i64 t,.slice F fn fc] 46)).heap.size=w.heap.size+1+1:=jz
 have N:∀g,(∀a b,(callFunc g a).run prog b=.ok (.enter g a) b)→(∀W T n q b,QBox W w.heap.size nm ws→T.length≤1048576→Reads b b.heap.size 2 n T.length (iN (gm T))→zWW W b→Calls prog g #[.slice n T.length q,.pointer (some ⟨w.heap.size,0,none⟩)] b fun e w'=>e=.returned (.bool (gP k ws T))∧zWW b w') →
   Calls prog 140 #[.slice F fn fc,.func (.func 141) #[] #[.pointer (some ⟨w.heap.size,0,none⟩),.pointer (some ⟨w.heap.size+1+1,0,none⟩)]]
    (((w.alloc (.cells #[.int .i64 k,.string nm,.slice WA m wc,.slice CA c1 c2] 60)).alloc (.cells #[.int .i64 t,.slice F fn fc] 46)).alloc (.cells #[.func (.func g) #[] #[.pointer (some ⟨w.heap.size,0,none⟩)]] 191))
    fun e w'=>e=.returned (.bool (kx k nm ws fs))∧zWW w w':=fun g G O=>by
  have i:Below ((w.alloc (.cells #[.int .i64 k,.string nm,.slice WA m wc,.slice CA c1 c2] 60)).alloc (.cells #[.int .i64 t,.slice F fn fc] 46)).heap.size ((w.alloc (.cells #[.int .i64 k,.string nm,.slice WA m wc,.slice CA c1 c2] 60)).alloc (.cells #[.int .i64 t,.slice F fn fc] 46))
   (((w.alloc (.cells #[.int .i64 k,.string nm,.slice WA m wc,.slice CA c1 c2] 60)).alloc (.cells #[.int .i64 t,.slice F fn fc] 46)).alloc (.cells #[.func (.func g) #[] #[.pointer (some ⟨w.heap.size,0,none⟩)]] 191)):=zRR _
  have J:=I.grow i;have x:=Blk.new ((w.alloc (.cells #[.int .i64 k,.string nm,.slice WA m wc,.slice CA c1 c2] 60)).alloc (.cells #[.int .i64 t,.slice F fn fc] 46)) 191 #[.func (.func g) #[] #[.pointer (some ⟨w.heap.size,0,none⟩)]];rw[H]at x;have y:=h.trans (i.mono h.size);refine(Nl F fn fc fs w.heap.size (w.heap.size+1+1) g k nm ws _ (fS i z) hn hn2 hs J (x.cell 0) G (fun T n q b o u s=>O _ T n q b J o u s)).mono ?_;rintro e w' ⟨rfl,P⟩;exact⟨rfl,y.trans (P.mono y.size)⟩
 have r:∀g,zWW w (((w.alloc (.cells #[.int .i64 k,.string nm,.slice WA m wc,.slice CA c1 c2] 60)).alloc (.cells #[.int .i64 t,.slice F fn fc] 46)).alloc (.cells #[.func (.func g) #[] #[.pointer (some ⟨w.heap.size,0,none⟩)]] 191)):=fun g=>h.alloc h.size _
 have E:=zh N;have A:=zh r;have D:=zh hm;clear hW hF hn hs v L l I h z H N r hm;rcases hk with rfl|rfl|rfl
 ·by_cases o:m=1
  ·have d:((m:Int) != 1)=false:=by rw[bne_eq_false_iff_eq];omega
   have C:=zh (E.out 136 (fun a b=>nC func136 jk rfl a b) (fun W T n q b B d u s=>by
    have c:=AQ n T.length q T w.heap.size nm ws b u rfl d (B.grow s);have e:gP 2 ws T=decide (0<(phr T ws).length):=by unfold gP;simp[D.out,o]
    rw[e];exact c))
   clear o;go_enter func113,ntmps113;go_wp2_with (go_at_call 140;refine C.out.mono ?_;rintro e M ⟨rfl,j⟩);go_ret;exact⟨rfl,j⟩
  have d:((m:Int) != 1)=true:=by rw[bne_iff_ne];omega
  have e:kx 2 nm ws fs=false:=by
   have:∀T,gP 2 ws T=false:=fun T=>by unfold gP;simp[D.out,o]
   unfold kx;simp[this]
  have Fin:=zh e;clear e o;go_enter func113,ntmps113;go_wp2;go_ret;exact⟨by rw[Fin.out];rfl,A.out _⟩
 ·by_cases o:m=1
  ·have d:((m:Int) != 1)=false:=by rw[bne_eq_false_iff_eq];omega
   obtain⟨p,rfl⟩:∃p,ws=[p]:=List.length_eq_one_iff.1 (by rw[D.out,o])
   have C:=zh (E.out 138 (fun a b=>nC func138 jk rfl a b) (fun W T n q b B d u s=>by
    have c:=Gt n T.length q T w.heap.size nm p b u rfl d (B.grow s);have e:gP 3 [p] T=T.any (gp · p):=by unfold gP;simp
    rw[e];exact c))
   clear o;go_enter func113,ntmps113;go_wp2_with (go_at_call 140;refine C.out.mono ?_;rintro e M ⟨rfl,j⟩);go_ret;exact⟨rfl,j⟩
  have d:((m:Int) != 1)=true:=by rw[bne_iff_ne];omega
  have e:kx 3 nm ws fs=false:=by
   have:∀T,gP 3 ws T=false:=fun T=>by
    unfold gP;simp only[if_true]
    split
    ·rename_i p;exact absurd D.out jm
    rfl
   unfold kx;simp[this]
  have Fin:=zh e;clear e o;go_enter func113,ntmps113;go_wp2;go_ret;exact⟨by rw[Fin.out];rfl,A.out _⟩
 have C:=zh (E.out 136 (fun a b=>nC func136 jk rfl a b) (fun W T n q b B d u s=>by
  have c:=AQ n T.length q T w.heap.size nm ws b u rfl d (B.grow s);have e:gP 4 ws T=decide (0<(phr T ws).length):=by unfold gP;simp
  rw[e];exact c))
 go_enter func113,ntmps113;go_wp2_with (go_at_call 140;refine C.out.mono ?_;rintro e M ⟨rfl,j⟩);go_ret;exact⟨rfl,j⟩
end Qy

namespace Qy
open Go.RowKit Ut Tk
inductive QSz:Q→Prop where
 | mk {k:Int} {nm:ByteArray} {ws:List ByteArray} {l:List Q} (h1:ws.length≤8796093021952) (h2:l.length≤8796093021952) (h3:∀x∈l,QSz x):QSz (.mk k nm ws l)
structure EvAt (w:World) (F:Option Addr) (fn:Nat) (fs:List (ByteArray × ByteArray)):Prop where
 rd:Reads w w.heap.size 2 F fn (fJ fs)
 len:fs.length=fn
 few:fn≤8796093021952
 sz:∀f∈fs,f.2.size≤1048576
theorem EvAt.grow{w w':World}{F:Option Addr}{fn:Nat}{fs:List (ByteArray × ByteArray)}(h:EvAt w F fn fs)(hb:zWW w w'):EvAt w' F fn fs:=⟨fS hb h.rd,h.len,h.few,h.sz⟩
def om(fs:List (ByteArray × ByteArray))(q:Q):Prop:=∀(w:World) (a0 a1 a2 a3:Value) (t:Int) (F:Option Addr) (fn fc:Nat),QAt w w.heap.size q [a0,a1,a2,a3]→EvAt w F fn fs →
 Calls prog 74 #[.agg #[a0,a1,a2,a3],.agg #[.int .i64 t,.slice F fn fc]] w fun e w'=>e=.returned (.bool (fC fs q))∧zWW w w'
structure EBox (w:World) (eb:Nat) (t:Int) (F:Option Addr) (fn fc:Nat):Prop where
 c0:w.cell? ⟨eb,0,none⟩=some (.int .i64 t)
 c1:w.cell? ⟨eb,1,none⟩=some (.slice F fn fc)
theorem EBox.grow{w w':World}{eb:Nat}{t:Int}{F:Option Addr}{fn fc:Nat}(h:EBox w eb t F fn fc)(hb:zWW w w'):EBox w' eb t F fn fc:=by
 have a:=World.block_lt_of_cell? w _ h.c0;exact⟨(hb.cell (p:=⟨eb,0,none⟩) a).trans h.c0,(hb.cell (p:=⟨eb,1,none⟩) a).trans h.c1⟩
theorem uW(fs:List (ByteArray × ByteArray))(q:Q)(ih:om fs q)(eb:Nat)(t:Int)(F:Option Addr)(fn fc:Nat)(w:World)(a0 a1 a2 a3:Value)(hq:QAt w w.heap.size q [a0,a1,a2,a3])(hE:EBox w eb t F fn fc)(hF:EvAt w F fn fs) :
  Calls prog 112 #[.agg #[a0,a1,a2,a3],.pointer (some ⟨eb,0,none⟩)] w fun e w'=>e=.returned (.bool (fC fs q))∧zWW w w':=by
 obtain⟨k,g,j,l⟩:=q;obtain⟨A,n,c,C,m,d,e,_⟩:=hq.is;simp only[zQ,and_true]at e;obtain⟨rfl,rfl,rfl,rfl⟩:=e;have b:zWW w (w.alloc (.cells #[.int .i64 k,.string g,.slice A n c,.slice C m d] 60)):=zRR _;have h:=ih _ _ _ _ _ t F fn fc (hq.grow b) (hF.grow b);have o:=hE.c0;have p:=hE.c1;have i:=zh b;have s:=World.block_lt_of_cell? w _ o;clear hq hE hF ih b;generalize fC fs (.mk k g j l)=r at *;go_enter func112,ntmps112;go_wp2_with fail;refine h.mono ?_;rintro e u ⟨rfl,a⟩;have f:=zt i a;clear a h;go_wp2;go_ret;exact⟨rfl,f.out⟩
theorem JS(fs:List (ByteArray × ByteArray))(q:Q)(ih:om fs q)(fb eb:Nat)(t:Int)(F:Option Addr)(fn fc:Nat)(w:World)(a0 a1 a2 a3:Value)(hq:QAt w w.heap.size q [a0,a1,a2,a3])(hE:EBox w eb t F fn fc)(hF:EvAt w F fn fs)
  (hfb:w.cell? ⟨fb,0,none⟩=some (.func (.func 112) #[] #[.pointer (some ⟨eb,0,none⟩)])) :
  Calls prog 115 #[.agg #[a0,a1,a2,a3],.pointer (some ⟨fb,0,none⟩)] w fun e w'=>e=.returned (.bool (!fC fs q))∧zWW w w':=by
 obtain⟨k,g,j,l⟩:=q;obtain⟨A,n,c,C,m,d,e,_⟩:=hq.is;simp only[zQ,and_true]at e;obtain⟨rfl,rfl,rfl,rfl⟩:=e;have b:zWW w (w.alloc (.cells #[.int .i64 k,.string g,.slice A n c,.slice C m d] 60)):=zRR _;have h:=uW fs _ ih eb t F fn fc _ _ _ _ _ (hq.grow b) (hE.grow b) (hF.grow b);have i:=zh b;have o:=World.block_lt_of_cell? w _ hfb;clear hq hE hF ih b;generalize fC fs (.mk k g j l)=r at *;go_enter func115,ntmps115;go_wp2_with fail;refine h.mono ?_;rintro e p ⟨rfl,a⟩;have f:=zt i a;clear a h;go_wp2;go_ret;exact⟨rfl,f.out⟩
theorem Ek{α:Type}(l:List α)(g:α→Bool):(!l.any fun x=>!g x)=l.all g:=by
 rw[List.all_eq_not_any_not]
theorem Fb(fs:List (ByteArray × ByteArray))(k:Int)(nm:ByteArray)(ws:List ByteArray)(l:List Q)(hl2:ws.length≤8796093021952)(hl3:l.length≤8796093021952)(ih:∀x∈l,om fs x):om fs (.mk k nm ws l):=by
 intro w a0 a1 a2 a3 t F z u V S;obtain⟨y,m,wc,H,n,s,e,Z⟩:=V.is;simp only[zQ,and_true]at e;obtain⟨rfl,rfl,rfl,rfl⟩:=e;have E:zWW w (w.alloc (.cells #[.int .i64 k,.string nm,.slice y m wc,.slice H n s] 60)):=zRR _;have D:zWW w ((w.alloc (.cells #[.int .i64 k,.string nm,.slice y m wc,.slice H n s] 60)).alloc (.cells #[.int .i64 t,.slice F z u] 46)):=E.alloc E.size _;have A:zWW w (((w.alloc (.cells #[.int .i64 k,.string nm,.slice y m wc,.slice H n s] 60)).alloc (.cells #[.int .i64 t,.slice F z u] 46)).alloc (.cells #[.func (.func 112) #[] #[.pointer (some ⟨w.heap.size+1,0,none⟩)]] 98)):=D.alloc D.size _;have z1:(w.alloc (.cells #[.int .i64 k,.string nm,.slice y m wc,.slice H n s] 60)).heap.size=w.heap.size+1:=jz;have z2:((w.alloc (.cells #[.int .i64 k,.string nm,.slice y m wc,.slice H n s] 60)).alloc (.cells #[.int .i64 t,.slice F z u] 46)).heap.size=w.heap.size+1+1:=jz;have I:=(((Blk.new w 60 #[.int .i64 k,.string nm,.slice y m wc,.slice H n s]).alloc (.cells #[.int .i64 t,.slice F z u] 46)).alloc (.cells #[.func (.func 112) #[] #[.pointer (some ⟨w.heap.size+1,0,none⟩)]] 98))
 have B:EBox (((w.alloc (.cells #[.int .i64 k,.string nm,.slice y m wc,.slice H n s] 60)).alloc (.cells #[.int .i64 t,.slice F z u] 46)).alloc (.cells #[.func (.func 112) #[] #[.pointer (some ⟨w.heap.size+1,0,none⟩)]] 98)) (w.heap.size+1) t F z u:=by
  have h:=((Blk.new (w.alloc (.cells #[.int .i64 k,.string nm,.slice y m wc,.slice H n s] 60)) 46 #[.int .i64 t,.slice F z u]).alloc (.cells #[.func (.func 112) #[] #[.pointer (some ⟨w.heap.size+1,0,none⟩)]] 98));rw[z1]at h;exact⟨h.cell 0,h.cell 1⟩
 have G:((((w.alloc (.cells #[.int .i64 k,.string nm,.slice y m wc,.slice H n s] 60)).alloc (.cells #[.int .i64 t,.slice F z u] 46)).alloc (.cells #[.func (.func 112) #[] #[.pointer (some ⟨w.heap.size+1,0,none⟩)]] 98))).cell? ⟨w.heap.size+1+1,0,none⟩=some (.func (.func 112) #[] #[.pointer (some ⟨w.heap.size+1,0,none⟩)]):=by
  have h:=Blk.new ((w.alloc (.cells #[.int .i64 k,.string nm,.slice y m wc,.slice H n s] 60)).alloc (.cells #[.int .i64 t,.slice F z u] 46)) 98 #[.func (.func 112) #[] #[.pointer (some ⟨w.heap.size+1,0,none⟩)]];rw[z2]at h;exact h.cell 0
 have o:=S.grow A;have L:=V.grow A;obtain⟨af,m',ac,ad,n',ae,e,b⟩:=L.is;simp only[zQ,Value.slice.injEq,and_true,true_and]at e;obtain⟨⟨rfl,rfl,rfl⟩,rfl,rfl,rfl⟩:=e;have C:=zh A;by_cases W:k=1
 ·subst W;have Fin:Hid (fC fs (.mk 1 nm ws l)=true):=zh (by rw[lG];simp);rw[Fin.out];clear V S Z E D A I B G o L b ih;go_enter func74,ntmps74;go_wp2;go_ret;exact⟨rfl,C.out⟩
 by_cases g:k=2∨k=3∨k=4
 ·have Fin:Hid (fC fs (.mk k nm ws l)=kx k nm ws fs):=zh (by rw[lG,zH W,zI g]);have R:=JR k nm ws y H m wc n s t F z u fs _ g b.wds b.wn (by rw[←b.wn];exact hl2) o.rd o.len o.few o.sz;rw[Fin.out];have C1:=zh R;clear V S Z E D A I B G o L b ih R Fin;generalize kx k nm ws fs=r at *;rcases g with rfl|rfl|rfl
  all_goals
   clear W;go_enter func74,ntmps74;go_wp2_with (go_at_call 113;refine C1.out.mono ?_;rintro e w1 ⟨rfl,T⟩);go_ret;exact⟨rfl,C.out.trans (T.mono C.out.size)⟩
 by_cases k5:k=5
 ·subst k5;have Fin:Hid (fC fs (.mk 5 nm ws l)=l.all (fC fs)):=zh (by rw[lG];simp)
  have R:=xn H n s 5 nm ws y m l 115 #[.pointer (some ⟨w.heap.size+1+1,0,none⟩)] (fun i=>(l[i]?).any (fun x=>!fC fs x)) _ (fun args a=>nC func115 jk rfl args a)
   b b.lm (by rw[←b.lm];exact hl3) (fun i h b0 b1 b2 b3 a N M=>by
    have c:=JS fs l[i] (ih _ (za h)) (w.heap.size+1+1) (w.heap.size+1) t F z u a b0 b1 b2 b3 (N.grow M) (B.grow M) (o.grow M) ((M.cell (p:=⟨w.heap.size+1+1,0,none⟩) jz).trans G);rw[zU h]
    simpa using c)
  have e:=rI l (fun x=>!fC fs x);rw[b.lm]at e;rw[e]at R;have Fin2:=zh (Ek l (fC fs));rw[Fin.out,←Fin2.out];have C1:=zh R;clear V S Z E D A I B G o L b ih R Fin e W g Fin2;generalize (l.any fun x=>!fC fs x)=r at *;go_enter func74,ntmps74;go_wp2_with (go_at_call 114;refine C1.out.mono ?_;rintro e w1 ⟨rfl,T⟩);go_ret;exact⟨rfl,C.out.trans (T.mono C.out.size)⟩
 by_cases k6:k=6
 ·subst k6;have Fin:Hid (fC fs (.mk 6 nm ws l)=l.any (fC fs)):=zh (by rw[lG];simp)
  have R:=xn H n s 6 nm ws y m l 112 #[.pointer (some ⟨w.heap.size+1,0,none⟩)] (fun i=>(l[i]?).any (fun x=>fC fs x)) _ (fun args a=>nC func112 jk rfl args a)
   b b.lm (by rw[←b.lm];exact hl3) (fun i h b0 b1 b2 b3 a N M=>by
    have c:=uW fs l[i] (ih _ (za h)) (w.heap.size+1) t F z u a b0 b1 b2 b3 (N.grow M) (B.grow M) (o.grow M);rw[zU h]
    simpa using c)
  have e:=rI l (fun x=>fC fs x);rw[b.lm]at e;rw[e]at R;rw[Fin.out];have C1:=zh R;clear V S Z E D A I B G o L b ih R Fin e W g k5;generalize (l.any fun x=>fC fs x)=r at *;go_enter func74,ntmps74;go_wp2_with (go_at_call 114;refine C1.out.mono ?_;rintro e w1 ⟨rfl,T⟩);go_ret;exact⟨rfl,C.out.trans (T.mono C.out.size)⟩
 by_cases k7:k=7
 ·subst k7;have Fin:Hid (fC fs (.mk 7 nm ws l)=lF fs l):=zh (by rw[lG];simp);rw[Fin.out]
  have j:∀a,Below (World.heap (((w.alloc (.cells #[.int .i64 7,.string nm,.slice y m wc,.slice H n s] 60)).alloc (.cells #[.int .i64 t,.slice F z u] 46)).alloc (.cells #[.func (.func 112) #[] #[.pointer (some ⟨w.heap.size+1,0,none⟩)]] 98))).size (((w.alloc (.cells #[.int .i64 7,.string nm,.slice y m wc,.slice H n s] 60)).alloc (.cells #[.int .i64 t,.slice F z u] 46)).alloc (.cells #[.func (.func 112) #[] #[.pointer (some ⟨w.heap.size+1,0,none⟩)]] 98)) a→a.cell? ⟨w.heap.size,3,none⟩=some (.slice H n s)∧a.cell? ⟨w.heap.size+1+1,0,none⟩=some (.func (.func 112) #[] #[.pointer (some ⟨w.heap.size+1,0,none⟩)]):=fun a d=>
   ⟨(d.cell (p:=⟨w.heap.size,3,none⟩) jm).trans (I.cell 3),(d.cell (p:=⟨w.heap.size+1+1,0,none⟩) jz).trans G⟩
  have v:=zh j;have Y:=b.lm;by_cases aa:n=1
  ·obtain⟨x,rfl⟩:∃x,l=[x]:=List.length_eq_one_iff.1 jo;obtain⟨P,O,A',n',c',C',m',d',e1,U,N,g0,g1,g2,g3⟩:=b.at_ (i:=0) jz;subst e1;obtain rfl:n=1:=aa;have hx:=ih x jz;simp only[List.getElem_cons_zero,Nat.zero_mul,Nat.add_zero]at N g0 g1 g2 g3
   have J:∀a,Below (World.heap (((w.alloc (.cells #[.int .i64 7,.string nm,.slice y m wc,.slice (some ⟨P,O,none⟩) 1 s] 60)).alloc (.cells #[.int .i64 t,.slice F z u] 46)).alloc (.cells #[.func (.func 112) #[] #[.pointer (some ⟨w.heap.size+1,0,none⟩)]] 98))).size (((w.alloc (.cells #[.int .i64 7,.string nm,.slice y m wc,.slice (some ⟨P,O,none⟩) 1 s] 60)).alloc (.cells #[.int .i64 t,.slice F z u] 46)).alloc (.cells #[.func (.func 112) #[] #[.pointer (some ⟨w.heap.size+1,0,none⟩)]] 98)) a→a.cell? ⟨w.heap.size,3,none⟩=some (.slice (some ⟨P,O,none⟩) 1 s)∧a.cell? ⟨w.heap.size+1+1,0,none⟩=some (.func (.func 112) #[] #[.pointer (some ⟨w.heap.size+1,0,none⟩)]) ∧
     a.cell? ⟨P,O,none⟩=some (.int .i64 x.kind)∧a.cell? ⟨P,O+1,none⟩=some (.string x.name)∧a.cell? ⟨P,O+2,none⟩=some (.slice A' n' c')∧a.cell? ⟨P,O+3,none⟩=some (.slice C' m' d'):=fun a d=>
    ⟨(j a d).1,(j a d).2,(d.cell (p:=⟨P,O,none⟩) U).trans g0,(d.cell (p:=⟨P,O+1,none⟩) U).trans g1,(d.cell (p:=⟨P,O+2,none⟩) U).trans g2,(d.cell (p:=⟨P,O+3,none⟩) U).trans g3⟩
   have R:=fun a (d:Below (World.heap (((w.alloc (.cells #[.int .i64 7,.string nm,.slice y m wc,.slice (some ⟨P,O,none⟩) 1 s] 60)).alloc (.cells #[.int .i64 t,.slice F z u] 46)).alloc (.cells #[.func (.func 112) #[] #[.pointer (some ⟨w.heap.size+1,0,none⟩)]] 98))).size (((w.alloc (.cells #[.int .i64 7,.string nm,.slice y m wc,.slice (some ⟨P,O,none⟩) 1 s] 60)).alloc (.cells #[.int .i64 t,.slice F z u] 46)).alloc (.cells #[.func (.func 112) #[] #[.pointer (some ⟨w.heap.size+1,0,none⟩)]] 98)) a)=>uW fs x hx (w.heap.size+1) t F z u a _ _ _ _ (N.grow d) (B.grow d) (o.grow d)
   have hN:lF fs [x]=!fC fs x:=by rw[lF]
   rw[hN];have C1:=zh R;have q:=zh J;clear V S Z E D A I B G o L b ih R Fin W g k5 k6 j J v hN N g0 g1 g2 g3 hx Y;generalize fC fs x=r at *;generalize x.kind=x0 at *;generalize x.name=x1 at *;go_enter func74,ntmps74;go_wp2_with fail;refine iF (fF [(10,⟨Unit,fun _=>(.bool r),fun _ _=>True⟩)]) (fun a=>Below (World.heap (((w.alloc (.cells #[.int .i64 7,.string nm,.slice y m wc,.slice (some ⟨P,O,none⟩) 1 s] 60)).alloc (.cells #[.int .i64 t,.slice F z u] 46)).alloc (.cells #[.func (.func 112) #[] #[.pointer (some ⟨w.heap.size+1,0,none⟩)]] 98))).size (((w.alloc (.cells #[.int .i64 7,.string nm,.slice y m wc,.slice (some ⟨P,O,none⟩) 1 s] 60)).alloc (.cells #[.int .i64 t,.slice F z u] 46)).alloc (.cells #[.func (.func 112) #[] #[.pointer (some ⟨w.heap.size+1,0,none⟩)]] 98)) a) (fun w1 w2=>zWW w1 w2) jk jk (fN (fun _ _ _ _ h=>h) (fQ)) (zy _ _).drew ?_
   iterate 10
    refine fG _ ?_ rfl jr jr (fun a d hD=>?_) ?_;rotate_left
    ·have X:=q.out a d;go_simp;all_goals with_reducible rfl
    try simp only[Act.put,zD,zE,zF]
   refine fo 11 _ rfl jr jr (fun a d hD=>?_) (fun x=>?_)
   ·refine fZ (f:=?_) (args:=?_) ?_ ?_;rotate_left 2
    ·have X:=q.out a d;go_simp;all_goals first|with_reducible rfl|(refine⟨?_,?_⟩<;>with_reducible rfl)
    exact ia d (C1.out a d)
   obtain⟨⟩:=x;try simp only[Act.put,zD,zE,zF]
   iterate 3
    refine fG _ ?_ rfl jr jr (fun a d hD=>?_) ?_;rotate_left
    ·have X:=q.out a d;go_simp;all_goals with_reducible rfl
    try simp only[Act.put,zD,zE,zF]
   refine fW (fun w2 d S=>?_);have Hb:=zt C d;clear S d;go_wp2;go_ret;exact⟨rfl,Hb.out⟩
  have ab:((n:Int)==1)=false:=by rw[zM];omega
  have hN:lF fs l=false:=by
   unfold lF
   split
   ·exact absurd Y jm
   rfl
  rw[hN];clear V S Z E D A I B G o L b ih Fin W g k5 k6 j hN Y aa;go_enter func74,ntmps74;go_wp2_with fail;refine iF (fF []) (fun a=>Below (World.heap (((w.alloc (.cells #[.int .i64 7,.string nm,.slice y m wc,.slice H n s] 60)).alloc (.cells #[.int .i64 t,.slice F z u] 46)).alloc (.cells #[.func (.func 112) #[] #[.pointer (some ⟨w.heap.size+1,0,none⟩)]] 98))).size (((w.alloc (.cells #[.int .i64 7,.string nm,.slice y m wc,.slice H n s] 60)).alloc (.cells #[.int .i64 t,.slice F z u] 46)).alloc (.cells #[.func (.func 112) #[] #[.pointer (some ⟨w.heap.size+1,0,none⟩)]] 98)) a) (fun w1 w2=>zWW w1 w2) jk jk (fQ) (zy _ _).drew ?_
  iterate 5
   refine fG _ ?_ rfl jr jr (fun a d hD=>?_) ?_;rotate_left
   ·have X:=v.out a d;go_simp;all_goals with_reducible rfl
   try simp only[Act.put,zD,zE,zF]
  refine fK 6 (some false) true rfl jr jr jr ?_;try simp only[Act.put,zD,zE,zF]
  refine fK 7 (some false) true rfl jr jr jr ?_;try simp only[Act.put,zD,zE,zF]
  refine fK 8 (some false) true rfl jr jr jr ?_;try simp only[Act.put,zD,zE,zF]
  refine fK 9 (some false) true rfl jr jr jr ?_;try simp only[Act.put,zD,zE,zF]
  refine fK 10 (some false) true rfl jr jr jr ?_;try simp only[Act.put,zD,zE,zF]
  refine fK 11 (some false) true rfl jr jr jr ?_;try simp only[Act.put,zD,zE,zF]
  refine fK 12 (some false) true rfl jr jr jr ?_;try simp only[Act.put,zD,zE,zF]
  iterate 2
   refine fG _ ?_ rfl jr jr (fun a d hD=>?_) ?_;rotate_left
   ·have X:=v.out a d;go_simp;all_goals with_reducible rfl
   try simp only[Act.put,zD,zE,zF]
  refine fW (fun w2 d S=>?_);have Hb:=zt C d;clear S d;go_wp2;go_ret;exact⟨rfl,Hb.out⟩
 have Fin:Hid (fC fs (.mk k nm ws l)=false):=zh (by rw[lG,zH W,zH g,zH k5,zH k6,zH k7]);rw[Fin.out];have j1:(k==1)=false:=by rw[zM];omega
 have j2:(k==2)=false:=by rw[zM];omega
 have j3:(k==3)=false:=by rw[zM];omega
 have j4:(k==4)=false:=by rw[zM];omega
 have j5:(k==5)=false:=by rw[zM];omega
 have j6:(k==6)=false:=by rw[zM];omega
 have j7:(k==7)=false:=by rw[zM];omega
 clear V S Z E D A I B G o L b ih Fin W g k5 k6 k7;go_enter func74,ntmps74;go_wp2;go_ret;exact⟨rfl,C.out⟩
theorem AR(fs:List (ByteArray × ByteArray)):∀q,QSz q→om fs q:=by
 intro q;refine Q.ind (p:=fun q=>QSz q→om fs q) ?_ q;intro k b c l ih d
 cases d with
 | mk h1 h2 h3=>exact Fb fs k b c l h1 h2 (fun x a=>ih x a (h3 x a))
end Qy
end Go.Proofs.YtmomjpolkkbhnaaGreat
