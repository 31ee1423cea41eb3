/- Whether two rows of fields, of bytes, two events are the same: the program's (slices.Equal, event.Same) and the document's (SameEvent of layer 19), for any two (printed by gen_mfa.py). -/
import Derived.Test.YtmomjpolkkbhnaaGreatQModelRunsRow34
set_option linter.unusedSimpArgs false
set_option linter.unusedVariables false
set_option maxRecDepth 20000
set_option maxHeartbeats 100000000
open Go.Proofs.Tryz
namespace Go.Proofs.YtmomjpolkkbhnaaGreat
namespace Md
open Go.RowKit Ut Tk Qy Ev Qp
theorem DY(s t:ByteArray):(s.toList==t.toList)=decide (s=t):=by
 rw[tl,tl];by_cases h:s=t
 ·subst h;simp
 have:¬s.data.toList=t.data.toList:=fun e=>h (by rw[←kQ s,←kQ t,e])
 rw[zN h,zM];exact this
theorem Dw(s1 s2 t1 t2:ByteArray)(w:World):(binOp .neq 85 (.agg #[.string s1,.string s2]) (.agg #[.string t1,.string t2])).run prog w=.ok (.bool (!decide ((s1,s2)=(t1,t2)))) w:=by
 have u1:=underlying9;have i:=Tryz.isAgg9;have j:=Tryz.sizeOf9;have g:prog.underlying 85=some (.struct (prog.fieldsOf 85)):=jk;have h:prog.stoodInHeld 85=false:=jk;have d:=DY s1 t1;have f:=DY s2 t2;rw[run_neq_struct,show (10000:Nat)=9999+1 from rfl,run_equalIn_agg w 9999 85 _ _ g h];simp only[Program.fieldsOf,underlying85];by_cases a:s1=t1
 ·by_cases c:s2=t2
  ·have b:decide ((s1,s2)=(t1,t2))=true:=zO (by rw[a,c]);rw[b];subst a c;clear d f;go_simp
  have b:decide ((s1,s2)=(t1,t2))=false:=zN (fun e=>c (Prod.ext_iff.1 e).2);rw[b];rw[zN c]at f;subst a;clear d;go_simp
 have b:decide ((s1,s2)=(t1,t2))=false:=zN (fun e=>a (Prod.ext_iff.1 e).1);rw[zN a]at d;rw[b];go_simp
theorem Dl{w:World}{B n:Nat}{A:Option Addr}{L:List UInt8}(h:Reads w B 1 A n (bv L)){k:Nat}(hk:k<L.length):∃b o,A=some ⟨b,o,none⟩∧b<B∧w.cell? ⟨b,o+k,none⟩=some (.int .u8 (L[k].toNat:Nat)):=by
 obtain⟨b,o,u,e,d,a,c⟩:=h.at_ (k:=k) (by have:=h.1;rw[ij]at this;omega);unfold bv at a;rw[List.getElem?_map,zU hk]at a;injection a with a;exact⟨b,o,e,d,by rw[c,←a]⟩
theorem MI(A A':Option Addr)(c c':Nat)(l m:List (ByteArray × ByteArray))(w:World)(hR:Reads w w.heap.size 2 A l.length (fJ l))(hR':Reads w w.heap.size 2 A' m.length (fJ m))(hl:l.length≤8796093021952)(hm:m.length≤8796093021952) :
  Calls prog 92 #[.slice A l.length c,.slice A' m.length c'] w fun e w'=>e=.returned (.bool (decide (l=m)))∧zWW w w':=by
 have L:=zh hR;have j:=zh hR';clear hR hR';by_cases a:l.length=m.length
 ·rw[←a]at j ⊢;have f:=zh a;clear a;go_enter func92,ntmps92;go_wp2;go_loopw [13] (fun i wr=>∃k:Nat,k≤l.length∧i=.int .i64 (k:Nat)∧Hid (l.take k=m.take k)∧zWW w wr) (fun i _=>l.length-(intOf i).toNat)
  case atStart=>exact⟨0,zS _,rfl,zh rfl,zy _ _⟩
  obtain⟨k,S,rfl,p,n⟩:=hrel;have t:=zh n;by_cases d:k<l.length
  ·have b:k<m.length:=by rw[←f.out];exact d
   obtain⟨N,o,rfl,F,R,O⟩:=lq (fS n L.out) d;obtain⟨E,M,rfl,C,P,U⟩:=lq (fS n j.out) b;have T:=zh (Hi.ng p.out d b);have r:Hid (¬(l[k]=m[k])→¬l=m):=zh (fun h e=>h (by subst e;rfl));have q:(k:Int)<(l.length:Int):=jo;have v:(0:Int)≤(k:Int):=jo;clear n p;generalize l[k]=x at *;generalize m[k]=y at *;obtain⟨z,B⟩:=x;obtain⟨D,u⟩:=y;have g:=fun W=>Dw z B D u W
   by_cases e:((z,B):ByteArray × ByteArray)=(D,u)
   ·have G:=zh (T.out e);rw[zO e]at g;clear T r e;go_wp2;go_quiet (fail);go_wp2;go_roundw
    case rel=>exact⟨k+1,jo,ju,G,lV t.out nq⟩
    simp[intOf];omega
   have H:=zh (r.out e);rw[zN e]at g;clear T r e;go_wp2;go_quiet (fail);go_wp2;go_ret;exact⟨by rw[zN H.out];rfl,lV t.out nq⟩
  have Hall:Hid (l=m):=zh (by
   have J:l.take k=l:=zR jo;have I:m.take k=m:=zR (by rw[←f.out];omega)
   rw[←J,←I,p.out])
  have q:(l.length:Int)≤(k:Int):=jo;clear n p;go_wp2;go_ret;exact⟨by rw[zO Hall.out];rfl,t.out⟩
 have:¬l=m:=fun e=>a (by rw[e])
 have s:((l.length:Int)==(m.length:Int))=false:=by rw[zM];omega
 rw[zN this];go_enter func92,ntmps92;go_wp2;go_ret;exact⟨rfl,zy _ _⟩
theorem MJ(A A':Option Addr)(c c':Nat)(l m:List UInt8)(w:World)(hR:Reads w w.heap.size 1 A l.length (bv l))(hR':Reads w w.heap.size 1 A' m.length (bv m))(hl:l.length≤140737488351232)(hm:m.length≤140737488351232) :
  Calls prog 62 #[.slice A l.length c,.slice A' m.length c'] w fun e w'=>e=.returned (.bool (decide (l=m)))∧zWW w w':=by
 have J:=zh hR;have j:=zh hR';clear hR hR';by_cases a:l.length=m.length
 ·rw[←a]at j ⊢;have g:=zh a;clear a;go_enter func62,ntmps62;go_wp2;go_loopw [13] (fun i wr=>∃k:Nat,k≤l.length∧i=.int .i64 (k:Nat)∧Hid (l.take k=m.take k)∧zWW w wr) (fun i _=>l.length-(intOf i).toNat)
  case atStart=>exact⟨0,zS _,rfl,zh rfl,zy _ _⟩
  obtain⟨k,P,rfl,p,n⟩:=hrel;have u:=zh n;by_cases d:k<l.length
  ·have b:k<m.length:=by rw[←g.out];exact d
   obtain⟨M,o,rfl,C,O⟩:=Dl (fS n J.out) d;obtain⟨B,L,rfl,z,N⟩:=Dl (fS n j.out) b;have T:=zh (Hi.ng p.out d b);have s:Hid (¬(l[k]=m[k])→¬l=m):=zh (fun h e=>h (by subst e;rfl));have q:(k:Int)<(l.length:Int):=jo;have v:(0:Int)≤(k:Int):=jo;clear n p;generalize l[k]=x at *;generalize m[k]=y at *;have f:(x.toNat:Int)=(y.toNat:Int)→x=y:=fun h=>UInt8.toNat_inj.1 jo
   by_cases e:x=y
   ·have D:=zh (T.out e);have r:((x.toNat:Int)==(y.toNat:Int))=true:=by rw[e];simp
    clear T s e f;generalize (x.toNat:Int)=I at *;generalize (y.toNat:Int)=E at *;go_wp2;go_quiet (fail);go_wp2;go_roundw
    case rel=>exact⟨k+1,jo,ju,D,lV u.out nq⟩
    simp[intOf];omega
   have F:=zh (s.out e);have r:((x.toNat:Int)==(y.toNat:Int))=false:=by rw[zM];exact fun h=>e (f h)
   clear T s e f;generalize (x.toNat:Int)=I at *;generalize (y.toNat:Int)=E at *;go_wp2;go_quiet (fail);go_wp2;go_ret;exact⟨by rw[zN F.out];rfl,lV u.out nq⟩
  have Hall:Hid (l=m):=zh (by
   have H:l.take k=l:=zR jo;have G:m.take k=m:=zR (by rw[←g.out];omega)
   rw[←H,←G,p.out])
  have q:(l.length:Int)≤(k:Int):=jo;clear n p;go_wp2;go_ret;exact⟨by rw[zO Hall.out];rfl,u.out⟩
 have:¬l=m:=fun e=>a (by rw[e])
 have t:((l.length:Int)==(m.length:Int))=false:=by rw[zM];omega
 rw[zN this];go_enter func62,ntmps62;go_wp2;go_ret;exact⟨rfl,zy _ _⟩
end Md

namespace Md
open Go.RowKit Ut Tk Qy Ev Qp
theorem eqF(F1 F2:Option Addr)(n1 n2 c1 c2:Nat)(f g:List (ByteArray × ByteArray))(w:World)(h1:Reads w w.heap.size 2 F1 n1 (fJ f))(h2:Reads w w.heap.size 2 F2 n2 (fJ g))(l1:f.length=n1)(l2:g.length=n2)(b1:n1≤8796093021952)(b2:n2≤8796093021952) :
  Calls prog 92 #[.slice F1 n1 c1,.slice F2 n2 c2] w fun e w'=>e=.returned (.bool (decide (f=g)))∧zWW w w':=by
 subst l1 l2;exact MI F1 F2 c1 c2 f g w h1 h2 b1 b2
theorem NS(s t:Int)(F1 F2:Option Addr)(n1 n2 c1 c2:Nat)(f g:List (ByteArray × ByteArray))(w:World)(h1:Reads w w.heap.size 2 F1 n1 (fJ f))(h2:Reads w w.heap.size 2 F2 n2 (fJ g))(l1:f.length=n1)(l2:g.length=n2)(b1:n1≤8796093021952)(b2:n2≤8796093021952) :
  Calls prog 60 #[.agg #[.int .i64 s,.slice F1 n1 c1],.agg #[.int .i64 t,.slice F2 n2 c2]] w fun e w'=>e=.returned (.bool (decide (s=t∧f=g)))∧zWW w w':=by
 have b:zWW w (w.alloc (.cells #[.int .i64 s,.slice F1 n1 c1] 46)):=zRR _;have a:zWW w ((w.alloc (.cells #[.int .i64 s,.slice F1 n1 c1] 46)).alloc (.cells #[.int .i64 t,.slice F2 n2 c2] 46)):=b.alloc b.size _;have j:=(Blk.new w 46 #[.int .i64 s,.slice F1 n1 c1]).alloc (.cells #[.int .i64 t,.slice F2 n2 c2] 46);have c:=Blk.new (w.alloc (.cells #[.int .i64 s,.slice F1 n1 c1] 46)) 46 #[.int .i64 t,.slice F2 n2 c2];have o:(w.alloc (.cells #[.int .i64 s,.slice F1 n1 c1] 46)).heap.size=w.heap.size+1:=jz;rw[o]at c;have E:w.heap.size+1<(World.heap ((w.alloc (.cells #[.int .i64 s,.slice F1 n1 c1] 46)).alloc (.cells #[.int .i64 t,.slice F2 n2 c2] 46))).size:=jz;have x:=zh (fS a h1);have y:=zh (fS a h2);have h:=zh j;have l:=zh c;have d:=zh a;have p:=zh l1;have u:=zh l2;clear h1 h2 l1 l2 b a j c o;go_enter func60,ntmps60
 go_upto_region 1 with(fail);generalize ((w.alloc (.cells #[.int .i64 s,.slice F1 n1 c1] 46)).alloc (.cells #[.int .i64 t,.slice F2 n2 c2] 46))=A at *;have q:=h.out.cell 0;have r:=l.out.cell 0;have v:=h.out.cell 1;have B:=l.out.cell 1;simp only[zA,zB,zC]at q r v B;by_cases k:s=t
 ·have n:(s==t)=true:=by rw[k];simp
  have C:=zh (eqF F1 F2 n1 n2 c1 c2 f g A x.out y.out p.out u.out b1 b2);have z:=zh k;clear k;go_wp2_with fail;refine C.out.mono ?_;rintro e D ⟨rfl,i⟩;have m:=zt d i;clear i C;go_wp2;go_ret;exact⟨by simp[z.out],m.out⟩
 have n:(s==t)=false:=by rw[zM];exact k
 go_wp2;go_ret;exact⟨by simp[k],d.out⟩
theorem MK(u v s t:Int)(F1 F2:Option Addr)(n1 n2 c1 c2:Nat)(f g:List (ByteArray × ByteArray))(w:World)(h1:Reads w w.heap.size 2 F1 n1 (fJ f))(h2:Reads w w.heap.size 2 F2 n2 (fJ g))(l1:f.length=n1)(l2:g.length=n2)(b1:n1≤8796093021952)(b2:n2≤8796093021952) :
  Calls prog 59 #[.agg #[.int .i64 u,.int .i64 s,.slice F1 n1 c1],.agg #[.int .i64 v,.int .i64 t,.slice F2 n2 c2]] w fun e w'=>e=.returned (.bool (decide (u=v∧s=t∧f=g)))∧zWW w w':=by
 have c:zWW w (w.alloc (.cells #[.int .i64 u,.int .i64 s,.slice F1 n1 c1] 48)):=zRR _;have a:zWW w ((w.alloc (.cells #[.int .i64 u,.int .i64 s,.slice F1 n1 c1] 48)).alloc (.cells #[.int .i64 v,.int .i64 t,.slice F2 n2 c2] 48)):=c.alloc c.size _;have k:=(Blk.new w 48 #[.int .i64 u,.int .i64 s,.slice F1 n1 c1]).alloc (.cells #[.int .i64 v,.int .i64 t,.slice F2 n2 c2] 48);have d:=Blk.new (w.alloc (.cells #[.int .i64 u,.int .i64 s,.slice F1 n1 c1] 48)) 48 #[.int .i64 v,.int .i64 t,.slice F2 n2 c2];have o:(w.alloc (.cells #[.int .i64 u,.int .i64 s,.slice F1 n1 c1] 48)).heap.size=w.heap.size+1:=jz;rw[o]at d;have I:w.heap.size+1<(World.heap ((w.alloc (.cells #[.int .i64 u,.int .i64 s,.slice F1 n1 c1] 48)).alloc (.cells #[.int .i64 v,.int .i64 t,.slice F2 n2 c2] 48))).size:=jz;have A:=zh (fS a h1);have D:=zh (fS a h2);have b:=zh k;have h:=zh d;have i:=zh a;have q:=zh l1;have y:=zh l2;clear h1 h2 l1 l2 c a k d o;go_enter func59,ntmps59
 go_upto_region 1 with(fail);generalize ((w.alloc (.cells #[.int .i64 u,.int .i64 s,.slice F1 n1 c1] 48)).alloc (.cells #[.int .i64 v,.int .i64 t,.slice F2 n2 c2] 48))=F at *;have r:=b.out.cell 0;have x:=h.out.cell 0;have z:=b.out.cell 1;have G:=h.out.cell 1;have p:=b.out.cell 2;have B:=h.out.cell 2;simp only[zA,zB,zC]at r x z G p B;by_cases l:u=v
 ·have n:(u==v)=true:=by rw[l];simp
  have C:=zh (NS s t F1 F2 n1 n2 c1 c2 f g F A.out D.out q.out y.out b1 b2);have E:=zh l;clear l;go_wp2_with fail;refine C.out.mono ?_;rintro e H ⟨rfl,j⟩;have m:=zt i j;clear j C;go_wp2;go_ret;exact⟨by simp[E.out],m.out⟩
 have n:(u==v)=false:=by rw[zM];exact l
 go_wp2;go_ret;exact⟨by simp[l],i.out⟩
theorem NT(s t:Int)(F1 F2:Option Addr)(n1 n2 c1 c2:Nat)(f g:List (ByteArray × ByteArray))(w:World)(h1:Reads w w.heap.size 2 F1 n1 (fJ f))(h2:Reads w w.heap.size 2 F2 n2 (fJ g))(l1:f.length=n1)(l2:g.length=n2)(b1:n1≤8796093021952)(b2:n2≤8796093021952) :
  Calls prog 90 #[.agg #[.int .i64 s,.slice F1 n1 c1],.agg #[.int .i64 t,.slice F2 n2 c2]] w fun e w'=>e=.returned (.bool (decide (s=t∧f=g)))∧zWW w w':=by
 have n:zWW w (w.alloc (.cells #[.int .i64 s,.slice F1 n1 c1] 46)):=zRR _;have j:zWW w ((w.alloc (.cells #[.int .i64 s,.slice F1 n1 c1] 46)).alloc (.cells #[.int .i64 t,.slice F2 n2 c2] 46)):=n.alloc n.size _;have r:=(Blk.new w 46 #[.int .i64 s,.slice F1 n1 c1]).alloc (.cells #[.int .i64 t,.slice F2 n2 c2] 46);have o:=Blk.new (w.alloc (.cells #[.int .i64 s,.slice F1 n1 c1] 46)) 46 #[.int .i64 t,.slice F2 n2 c2];have z:(w.alloc (.cells #[.int .i64 s,.slice F1 n1 c1] 46)).heap.size=w.heap.size+1:=jz;rw[z]at o;have z2:w.heap.size+1<(World.heap ((w.alloc (.cells #[.int .i64 s,.slice F1 n1 c1] 46)).alloc (.cells #[.int .i64 t,.slice F2 n2 c2] 46))).size:=jz;have H1:=zh (fS j h1);have H2:=zh (fS j h2);have c:=zh r;have d:=zh o;have m:=zh j;have p:=zh l1;have q:=zh l2;clear h1 h2 l1 l2 n j r o z;go_enter func90,ntmps90
 go_upto_region 1 with(fail);generalize ((w.alloc (.cells #[.int .i64 s,.slice F1 n1 c1] 46)).alloc (.cells #[.int .i64 t,.slice F2 n2 c2] 46))=w2 at *;have C:=c.out.cell 0;have D:=d.out.cell 0;have E:=c.out.cell 1;have G:=d.out.cell 1;simp only[zA,zB,zC]at C D E G;by_cases b:s=t
 ·have A:(s==t)=true:=by rw[b];simp
  have N:(s != t)=false:=by rw[b];simp
  by_cases v:n1=n2
  ·subst v;have J:=zh b;clear b C E D G;have C:=c.out.cell 0;have E:=c.out.cell 1;have D:=d.out.cell 0;have G:=d.out.cell 1;simp only[zA,zB,zC]at C E D G;go_wp2_with fail;go_loopw [5] (fun i wr=>∃k:Nat,k≤n1∧i=.int .i64 k∧Hid (f.take k=g.take k)∧zWW w2 wr) (fun i _=>n1-(intOf i).toNat)
   case atStart=>exact⟨0,zS _,rfl,zh rfl,zy _ _⟩
   obtain⟨k,hk,rfl,F,l⟩:=hrel;have M:=(c.out.below l jo).cell 1;have L:=(d.out.below l jo).cell 1;simp only[zA,zB,zC]at M L;have S:=zt m l;by_cases a:k<n1
   ·obtain⟨x1,o1,rfl,ab,g1,g2⟩:=lq (fS l H1.out) (k:=k) (by rw[p.out];exact a);obtain⟨x2,o2,rfl,aa,g3,g4⟩:=lq (fS l H2.out) (k:=k) (by rw[q.out];exact a);have Y:(0:Int)≤(k:Int):=jo;have ac:(k:Int)<(n1:Int):=jo;have T:=zh (Hi.ng F.out (by rw[p.out];exact a) (by rw[q.out];exact a));have O:Hid (¬((f[k]'(by rw[p.out];exact a))=(g[k]'(by rw[q.out];exact a)))→¬f=g):=zh (fun h e=>h (by subst e;rfl));have Hb':=zh l;clear l F;generalize (f[k]'(by rw[p.out];exact a))=x at *;generalize (g[k]'(by rw[q.out];exact a))=y at *;obtain⟨R,P⟩:=x;obtain⟨z,B⟩:=y;have u:=fun W=>Dw R P z B W
    by_cases e:((R,P):ByteArray × ByteArray)=(z,B)
    ·rw[zO e]at u;have X:=zh (T.out e);clear T O e;go_wp2_with fail;go_quiet (fail);go_wp2;go_roundw
     case rel=>exact⟨k+1,jo,ju,X,lV Hb'.out nq⟩
     simp[intOf];omega
    rw[zN e]at u;have N2:=zh (O.out e);clear T O e;go_wp2_with fail;go_quiet (fail);go_wp2;go_ret;exact⟨by rw[zN (fun h=>N2.out h.2)];rfl,lV S.out nq⟩
   have Hall:Hid (f=g):=zh (by
    have Z:f.take k=f:=zR (by rw[p.out];omega);have V:g.take k=g:=zR (by rw[q.out];omega)
    rw[←Z,←V,F.out])
   obtain rfl:k=n1:=jo;clear l F;go_wp2;go_ret;exact⟨by rw[zO ⟨J.out,Hall.out⟩];rfl,S.out⟩
  have I:((n1:Int)==(n2:Int))=false:=by rw[zM];omega
  have U:((n1:Int) != (n2:Int))=true:=by simp[bne,I]
  have H:¬f=g:=fun e=>v (by rw[←p.out,←q.out,e])
  go_wp2;go_ret;exact⟨by rw[zN (fun h=>H h.2)];rfl,m.out⟩
 have A:(s==t)=false:=by rw[zM];exact b
 have N:(s != t)=true:=by simp[bne,A]
 go_wp2;go_ret;exact⟨by rw[zN (fun h=>b h.1)];rfl,m.out⟩
end Md

namespace Md
open Go.RowKit Ut Tk Qy Ev Qp
theorem wX(a b:Dc):(a.seq=b.seq∧a.at_=b.at_∧a.fs=b.fs)↔a=b:=by
 cases a
 cases b;simp
instance:DecidableEq Dc:=fun a b=>decidable_of_iff _ (wX a b)
theorem NU(A1 A2:Option Addr)(n1 n2 c1 c2:Nat)(ds es:List Dc)(w:World)(h1:DocsAt w w.heap.size A1 n1 ds)(h2:DocsAt w w.heap.size A2 n2 es)(b1:n1≤8796093021952)(b2:n2≤8796093021952) :
  Calls prog 58 #[.slice A1 n1 c1,.slice A2 n2 c2,.func (.func 59) #[] #[]] w fun e w'=>e=.returned (.bool (decide (ds=es)))∧zWW w w':=by
 have ad:=fun L wx=>nC func59 jk rfl L wx
 have H1:=zh h1;have H2:=zh h2;have b:=zh h1.ln;have c:=zh h2.ln;clear h1 h2;by_cases H:n1=n2
 ·subst H;go_enter func58,ntmps58;go_wp2;go_loopw [17] (fun i wr=>∃k:Nat,k≤n1∧i=.int .i64 k∧Hid (ds.take k=es.take k)∧zWW w wr) (fun i _=>n1-(intOf i).toNat)
  case atStart=>exact⟨0,zS _,rfl,zh rfl,zy _ _⟩
  obtain⟨k,hk,rfl,U,R⟩:=hrel;have Y:=zh R;by_cases a:k<n1
  ·obtain⟨x1,o1,q,r,p,rfl,ae,g0,Z,g2,M,j,S,_,_⟩:=(H1.out.grow R).at_ (i:=k) (by rw[b.out];exact a);obtain⟨x2,o2,x,A,J,rfl,ac,g3,g4,g5,y,l,P,_,_⟩:=(H2.out.grow R).at_ (i:=k) (by rw[c.out];exact a);have ab:(0:Int)≤(k:Int):=jo;have af:(k:Int)<(n1:Int):=jo;have T:=zh (Hi.ng U.out (by rw[b.out];exact a) (by rw[c.out];exact a));have X:Hid (¬((ds[k]'(by rw[b.out];exact a))=(es[k]'(by rw[c.out];exact a)))→¬ds=es):=zh (fun h e=>h (by subst e;rfl));have E:Hid (((ds[k]'(by rw[b.out];exact a)).seq=(es[k]'(by rw[c.out];exact a)).seq∧(ds[k]'(by rw[b.out];exact a)).at_=(es[k]'(by rw[c.out];exact a)).at_∧(ds[k]'(by rw[b.out];exact a)).fs=(es[k]'(by rw[c.out];exact a)).fs)↔(ds[k]'(by rw[b.out];exact a))=(es[k]'(by rw[c.out];exact a))):=zh (wX _ _);have G:=zh M;have O:=zh y;have N:=zh j;have I:=zh l;clear R U M y j l;generalize (ds[k]'(by rw[b.out];exact a))=d at *;generalize (es[k]'(by rw[c.out];exact a))=e at *;obtain⟨u,s,f⟩:=d;obtain⟨v,t,g⟩:=e;simp only at E G O N I g0 Z g2 g3 g4 g5;have F:zWW wr ((wr.alloc (.cells #[.int .i64 u,.int .i64 s,.slice q r p] 48)).alloc (.cells #[.int .i64 v,.int .i64 t,.slice x A J] 48)):=(zRR _).alloc jz _;have B:=(Blk.new wr 48 #[.int .i64 u,.int .i64 s,.slice q r p]).alloc (.cells #[.int .i64 v,.int .i64 t,.slice x A J] 48);have n:=Blk.new (wr.alloc (.cells #[.int .i64 u,.int .i64 s,.slice q r p] 48)) 48 #[.int .i64 v,.int .i64 t,.slice x A J];rw[show (wr.alloc (.cells #[.int .i64 u,.int .i64 s,.slice q r p] 48)).heap.size=wr.heap.size+1 by simp]at n
   go_upto_region 7 with(fail);have Hbw:=zh F;have m:=zh B;have o:=zh n;clear F B n;generalize ((wr.alloc (.cells #[.int .i64 u,.int .i64 s,.slice q r p] 48)).alloc (.cells #[.int .i64 v,.int .i64 t,.slice x A J] 48))=w2 at *;have C:=zh (MK u v s t q x r A p J f g w2 (fS Hbw.out G.out) (fS Hbw.out O.out) N.out I.out S P);have p0:=m.out.cell 0;have p1:=m.out.cell 1;have p2:=m.out.cell 2;have q0:=o.out.cell 0;have q1:=o.out.cell 1;have q2:=o.out.cell 2;simp only[zA,zB,zC]at p0 p1 p2 q0 q1 q2;clear g0 Z g2 g3 g4 g5;go_wp2_with fail;refine C.out.mono ?_;rintro e3 w3 ⟨rfl,D⟩;have z:=zh (Y.out.trans ((Hbw.out.trans (D.mono Hbw.out.size)).mono Y.out.size));clear C D p0 p1 p2 q0 q1 q2;by_cases e:u=v∧s=t∧f=g
   ·rw[zO e];have T2:=zh (T.out (E.out.1 e));clear T X e E;go_wp2;go_roundw
    case rel=>exact⟨k+1,jo,ju,T2,z.out⟩
    simp[intOf];omega
   rw[zN e];have N2:=zh (X.out (fun h=>e (E.out.2 h)));clear T X e E;go_wp2;go_ret;exact⟨by rw[zN N2.out];rfl,z.out⟩
  have Hall:Hid (ds=es):=zh (by
   have e1:ds.take k=ds:=zR (by rw[b.out];omega);have e2:es.take k=es:=zR (by rw[c.out];omega)
   rw[←e1,←e2,U.out])
  obtain rfl:k=n1:=jo;clear R U;go_wp2;go_ret;exact⟨by rw[zO Hall.out];rfl,Y.out⟩
 have W:((n1:Int)==(n2:Int))=false:=by rw[zM];omega
 have aa:((n1:Int) != (n2:Int))=true:=by simp[bne,W]
 have V:¬ds=es:=fun e=>H (by rw[←b.out,←c.out,e])
 rw[zN V];go_enter func58,ntmps58;go_wp2;go_ret;exact⟨rfl,zy _ _⟩
theorem KE(A1 A2:Option Addr)(n1 n2 c1 c2:Nat)(ds es:List Dc)(w:World)(h1:DocsAt w w.heap.size A1 n1 ds)(h2:DocsAt w w.heap.size A2 n2 es)(b1:n1≤8796093021952)(b2:n2≤8796093021952) :
    Calls prog 55 #[.slice A1 n1 c1,.slice A2 n2 c2] w fun e w'=>e=.returned (.bool (decide (ds=es)))∧zWW w w':=by
  have H1:=zh h1;have H2:=zh h2;have m:=zh h1.ln;have n:=zh h2.ln;clear h1 h2;by_cases L:n1=n2
  · subst L;go_enter func55,ntmps55;go_wp2;go_loopw [5] (fun i wr=>∃k:Nat,k≤n1∧i=.int .i64 k∧Hid (ds.take k=es.take k)∧zWW w wr) (fun i _=>n1-(intOf i).toNat)
    case atStart=>exact⟨0,zS _,rfl,zh rfl,zy _ _⟩
    obtain⟨k,hk,rfl,Y,V⟩:=hrel;have Hb:=zh V;by_cases b:k<n1
    · obtain⟨E,H,F1,m1,f1,rfl,D,g0,g1,g2,N,r,W,_,_⟩:=(H1.out.grow V).at_ (i:=k) (by rw[m.out];exact b);obtain⟨F,G,F2,m2,f2,rfl,B,g3,g4,g5,I,y,R,_,_⟩:=(H2.out.grow V).at_ (i:=k) (by rw[n.out];exact b);have ae:(0:Int)≤(k:Int):=jo;have af:(k:Int)<(n1:Int):=jo;have T:=zh (Hi.ng Y.out (by rw[m.out];exact b) (by rw[n.out];exact b));have S:Hid (¬((ds[k]'(by rw[m.out];exact b))=(es[k]'(by rw[n.out];exact b)))→¬ds=es):=zh (fun h e=>h (by subst e;rfl));have A:Hid (((ds[k]'(by rw[m.out];exact b)).seq=(es[k]'(by rw[n.out];exact b)).seq∧(ds[k]'(by rw[m.out];exact b)).at_=(es[k]'(by rw[n.out];exact b)).at_∧(ds[k]'(by rw[m.out];exact b)).fs=(es[k]'(by rw[n.out];exact b)).fs)↔(ds[k]'(by rw[m.out];exact b))=(es[k]'(by rw[n.out];exact b))):=zh (wX _ _);have J:=zh N;have P:=zh I;have O:=zh r;have M:=zh y;clear V Y N I r y;generalize (ds[k]'(by rw[m.out];exact b))=d at *;generalize (es[k]'(by rw[n.out];exact b))=e at *;obtain⟨u,s,f⟩:=d;obtain⟨v,t,g⟩:=e;simp only at A J P O M g0 g1 g2 g3 g4 g5
      have a:Hid (∀c,zWW wr c→c.cell? ⟨E,H+k*3,none⟩=some (.int .i64 u)∧c.cell? ⟨E,H+k*3+1,none⟩=some (.int .i64 s)∧c.cell? ⟨E,H+k*3+2,none⟩=some (.slice F1 m1 f1) ∧
          c.cell? ⟨F,G+k*3,none⟩=some (.int .i64 v)∧c.cell? ⟨F,G+k*3+1,none⟩=some (.int .i64 t)∧c.cell? ⟨F,G+k*3+2,none⟩=some (.slice F2 m2 f2)):=zh (fun c j=>
        ⟨(j.cell (p:=⟨E,H+k*3,none⟩) D).trans g0,(j.cell (p:=⟨E,H+k*3+1,none⟩) D).trans g1,(j.cell (p:=⟨E,H+k*3+2,none⟩) D).trans g2,
         (j.cell (p:=⟨F,G+k*3,none⟩) B).trans g3,(j.cell (p:=⟨F,G+k*3+1,none⟩) B).trans g4,(j.cell (p:=⟨F,G+k*3+2,none⟩) B).trans g5⟩)
      have C:Hid (∀c,zWW wr c→Calls prog 90 #[.agg #[.int .i64 s,.slice F1 m1 f1],.agg #[.int .i64 t,.slice F2 m2 f2]] c fun e w'=>e=.returned (.bool (decide (s=t∧f=g)))∧zWW c w'):=zh (fun c j=>NT s t F1 F2 m1 m2 f1 f2 f g c (fS j J.out) (fS j P.out) O.out M.out W R);clear g0 g1 g2 g3 g4 g5;obtain⟨z,hz⟩:∃z,decide (s=t∧f=g)=z:=⟨_,rfl⟩;rw[hz]at C;have X:=zh hz;clear hz;by_cases l:u=v
      · have ac:(u != v)=false:=by rw[l];simp
        have HU:=zh l;clear l;go_wp2_with fail;refine iF (fF [(22,⟨Unit,fun _=>(.bool z),fun _ _=>True⟩)]) (fun c=>Below (World.heap wr).size wr c) (fun w1 U=>zWW w1 U) jk jk (fN (fun _ _ _ _ h=>h) (fQ)) (zy _ _).drew ?_
        iterate 22
          refine fG _ ?_ rfl jr jr (fun c j Z=>?_) ?_;rotate_left
          · have q:=a.out c j;go_simp;all_goals with_reducible rfl
          try simp only[Act.put,zD,zE,zF]
        refine fo 23 _ rfl jr jr (fun c j Z=>?_) (fun x=>?_)
        · refine fZ (f:=?_) (args:=?_) ?_ ?_;rotate_left 2
          · have q:=a.out c j;go_simp;all_goals first|with_reducible rfl|(refine⟨?_,?_⟩<;>with_reducible rfl)
          exact ia j (C.out c j)
        obtain⟨⟩:=x;try simp only[Act.put,zD,zE,zF]
        iterate 2
          refine fG _ ?_ rfl jr jr (fun c j Z=>?_) ?_;rotate_left
          · have q:=a.out c j;go_simp;all_goals with_reducible rfl
          try simp only[Act.put,zD,zE,zF]
        refine fW (fun U j hF=>?_);have o:=zt Hb j;clear hF j
        cases z with
        | true=>
          have T2:=zh (T.out (A.out.1 ⟨HU.out,of_decide_eq_true X.out⟩));clear T S X A C a;go_wp2;go_roundw
          case rel=>exact⟨k+1,jo,ju,T2,o.out⟩
          simp[intOf];omega
        | false=>
          have N2:=zh (S.out (fun h=>of_decide_eq_false X.out (A.out.2 h).2));clear T S X A C a;go_wp2;go_ret;exact⟨by rw[zN N2.out];rfl,o.out⟩
      have ac:(u != v)=true:=by simp[bne,zM.2 l]
      have N2:=zh (S.out (fun h=>l (A.out.2 h).1));clear T S A C l;go_wp2_with fail;refine iF (fF []) (fun c=>Below (World.heap wr).size wr c) (fun w1 U=>zWW w1 U) jk jk (fQ) (zy _ _).drew ?_
      iterate 12
        refine fG _ ?_ rfl jr jr (fun c j Z=>?_) ?_;rotate_left
        · have q:=a.out c j;go_simp;all_goals with_reducible rfl
        try simp only[Act.put,zD,zE,zF]
      refine fK 13 (some true) false rfl jr jr jr ?_;try simp only[Act.put,zD,zE,zF]
      refine fK 14 (some true) false rfl jr jr jr ?_;try simp only[Act.put,zD,zE,zF]
      refine fK 15 (some true) false rfl jr jr jr ?_;try simp only[Act.put,zD,zE,zF]
      refine fK 16 (some true) false rfl jr jr jr ?_;try simp only[Act.put,zD,zE,zF]
      refine fK 17 (some true) false rfl jr jr jr ?_;try simp only[Act.put,zD,zE,zF]
      refine fK 18 (some true) false rfl jr jr jr ?_;try simp only[Act.put,zD,zE,zF]
      refine fK 19 (some true) false rfl jr jr jr ?_;try simp only[Act.put,zD,zE,zF]
      refine fK 20 (some true) false rfl jr jr jr ?_;try simp only[Act.put,zD,zE,zF]
      refine fK 21 (some true) false rfl jr jr jr ?_;try simp only[Act.put,zD,zE,zF]
      refine fK 22 (some true) false rfl jr jr jr ?_;try simp only[Act.put,zD,zE,zF]
      refine fK 23 (some true) false rfl jr jr jr ?_;try simp only[Act.put,zD,zE,zF]
      refine fK 24 (some true) false rfl jr jr jr ?_;try simp only[Act.put,zD,zE,zF]
      refine fG 25 ?_ rfl jr jr (fun c j Z=>?_) ?_;rotate_left
      · have q:=a.out c j;go_simp;all_goals with_reducible rfl
      try simp only[Act.put,zD,zE,zF]
      refine fW (fun U j hF=>?_);have o:=zt Hb j;clear hF j a;go_wp2;go_ret;exact⟨by rw[zN N2.out];rfl,o.out⟩
    have Hall:Hid (ds=es):=zh (by
      have e1:ds.take k=ds:=zR (by rw[m.out];omega);have e2:es.take k=es:=zR (by rw[n.out];omega)
      rw[←e1,←e2,Y.out])
    obtain rfl:k=n1:=jo;clear V Y;go_wp2;go_ret;exact⟨by rw[zO Hall.out];rfl,Hb.out⟩
  have ab:((n1:Int)==(n2:Int))=false:=by rw[zM];omega
  have ad:((n1:Int) != (n2:Int))=true:=by simp[bne,ab]
  have aa:¬ds=es:=fun e=>L (by rw[←m.out,←n.out,e])
  rw[zN aa];go_enter func55,ntmps55;go_wp2;go_ret;exact⟨rfl,zy _ _⟩
end Md

namespace Mx
open Go.RowKit Ut Tk Qy Ev Qp
abbrev Bt:=Int × List Evn
def BtV(w:World)(B:Nat)(b:Bt)(v:List Value):Prop:=∃A n c,v=[.int .i64 b.1,.slice A n c]∧EvsAt w B A n c b.2
theorem BtV.len{w:World}{B:Nat}{b:Bt}{v:List Value}(h:BtV w B b v):v.length=2:=by obtain⟨A,n,c,rfl,_⟩:=h;rfl
theorem BtV.keep{w w':World}{B:Nat}{b:Bt}{v:List Value}(h:BtV w B b v)(hk:∀b o,b<B→w'.cell? ⟨b,o,none⟩=w.cell? ⟨b,o,none⟩):BtV w' B b v:=by
 obtain⟨A,n,c,e,g⟩:=h;exact⟨A,n,c,e,g.keep hk⟩
theorem BtV.more{w:World}{B B':Nat}{b:Bt}{v:List Value}(h:BtV w B b v)(hB:B≤B'):BtV w B' b v:=by
 obtain⟨A,n,c,e,g⟩:=h;exact⟨A,n,c,e,g.more hB⟩
structure BtsAt (w:World) (R:Nat→Prop) (B:Nat) (A:Option Addr) (n c:Nat) (l:List Bt):Prop where
 ln:l.length=n
 cap:n≤c
 ex:∃vss:List (List Value),vss.length=n∧ReadsS w R 2 A n vss.flatten∧∀i (h:i<l.length) (h':i<vss.length),BtV w B l[i] vss[i]
theorem BtsAt.keep{w w':World}{R:Nat→Prop}{B n c:Nat}{A:Option Addr}{l:List Bt}(h:BtsAt w R B A n c l)(hr:∀b o,R b→w'.cell? ⟨b,o,none⟩=w.cell? ⟨b,o,none⟩)(hk:∀b o,b<B→w'.cell? ⟨b,o,none⟩=w.cell? ⟨b,o,none⟩):BtsAt w' R B A n c l:=by
 obtain⟨d,f,g,e⟩:=h.ex;exact⟨h.ln,h.cap,d,f,g.keep hr,fun i a b=>(e i a b).keep hk⟩
theorem BtsAt.at_{w:World}{R:Nat→Prop}{B n c:Nat}{A:Option Addr}{l:List Bt}(h:BtsAt w R B A n c l){i:Nat}(hi:i<l.length) :
  ∃b o E m k,A=some ⟨b,o,none⟩∧R b∧w.cell? ⟨b,o+i*2,none⟩=some (.int .i64 l[i].1)∧w.cell? ⟨b,o+i*2+1,none⟩=some (.slice E m k)∧EvsAt w B E m k l[i].2:=by
 obtain⟨d,F,u,f⟩:=h.ex;have G:=h.ln;have a:i<d.length:=jo
 have p:∀v∈d,v.length=2:=fun v D=>by
  obtain⟨j,C,rfl⟩:=zu.1 D;exact(f j jo C).len
 obtain⟨E,m,k,e,g⟩:=f i hi a;obtain⟨b,o,z,y,r⟩:=u.2 jo;have s:=iM p i 0 a jo;have q:=iM p i 1 a jo;rw[e]at s q;have x:=r _ _ s;have t:=r _ _ q;rw[←Nat.add_assoc]at t;exact⟨b,o,E,m,k,z,y,x,t,g⟩
structure BOwn (w:World) (base B:Nat) (v:Value) (l:List Bt):Prop where
 ex:∃vss:List (List Value),vss.length=l.length∧w.ownsRow base 111 2 v l.length vss.flatten∧∀i (h:i<l.length) (h':i<vss.length),BtV w B l[i] vss[i]
theorem BOwn.start(w:World)(base B:Nat):BOwn w base B (.slice none 0 0) []:=⟨[],rfl,vO _ _ _ _,fun i h=>absurd h (by simp)⟩
theorem BOwn.below{w w':World}{base B:Nat}{v:Value}{l:List Bt}(h:BOwn w base B v l)(hb:zWW w w')(hB:B≤w.heap.size):BOwn w' base B v l:=by
 obtain⟨d,g,f,e⟩:=h.ex;exact⟨d,g,f.kept (fH hb none) (by cases hv:v.ownBlock<;>simp),fun i a b=>(e i a b).keep (fun b o c=>hb.cell (zT c hB))⟩
theorem BOwn.put{w w5:World}{base B:Nat}{v v':Value}{l:List Bt}{d:Bt}{u:List Value}{xs:List Value}(hx:∃vss:List (List Value),vss.length=l.length∧w.ownsRow base 111 2 v l.length vss.flatten∧(∀i (h:i<l.length) (h':i<vss.length),BtV w B l[i] vss[i])∧xs=vss.flatten)
  (hp:w5.ownsRow base 111 2 v' (l.length+1) (xs++u)) (hg:w.grownBy w5 v.ownBlock) (hd:BtV w B d u) (hB:B≤base) (hw:B≤w.heap.size):BOwn w5 base B v' (l ++ [d]):=by
 obtain⟨vss,j,n,m,rfl⟩:=hx;have c:∀b o,b<B→w5.cell? ⟨b,o,none⟩=w.cell? ⟨b,o,none⟩:=fun b o f=>AJ (hg.block b (zT f hw) (fun e=>by have:=(n.lt b e.symm).1;omega)) o
 refine⟨vss ++ [u],by simp[j],?_,fun i a b=>?_⟩
 ·rw[List.flatten_append,zJ]
  simpa using hp
 by_cases k:i<l.length
 ·rw[zl k,zl jo];exact(m i k jo).keep c
 have g:i=l.length:=by simp at a;omega
 subst g;rw[zn jo,zn jo];simp only[Nat.sub_self,j,List.getElem_cons_zero];exact hd.keep c
theorem BOwn.read{w:World}{base B:Nat}{v:Value}{l:List Bt}(h:BOwn w base B v l):∃A c,v=.slice A l.length c∧BtsAt w (fun b=>base≤b∧b<w.heap.size) B A l.length c l:=by
 obtain⟨d,j,e,g⟩:=h.ex;obtain⟨A,c,rfl,_,k,m,_⟩:=Ev.fP e;exact⟨A,c,rfl,⟨rfl,k,d,j,(ReadsS.of_own e).mono (fun b f=>⟨f.1,f.2.1⟩),fun i a b=>g i a b⟩⟩
end Mx
end Go.Proofs.YtmomjpolkkbhnaaGreat
