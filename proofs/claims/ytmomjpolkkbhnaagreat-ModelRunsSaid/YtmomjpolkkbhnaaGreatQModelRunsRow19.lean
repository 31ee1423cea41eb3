/- qparse: ends, quoted, piece: the walks. -/
import Derived.Recover
import Derived.Test.YtmomjpolkkbhnaaGreatQModelRunsRow8
import Derived.Test.YtmomjpolkkbhnaaGreatQModelRunsRow9
set_option linter.unusedSimpArgs false
set_option maxRecDepth 20000
set_option maxHeartbeats 100000000
open Go.Proofs.Tryz
namespace Go.Proofs.YtmomjpolkkbhnaaGreat
namespace Qp
open Go.RowKit Ut Tk Qy
theorem Mo(l:List UInt8)(c:UInt8):(0≤Lib.indexByte l c)↔c∈l:=by
 rw[rH];unfold atC;by_cases h:c∈l
 ·have:l.findIdx (· == c)<l.length:=List.findIdx_lt_length.2 ⟨c,h,jz⟩;rw[zI this];simp[h]
 have:¬l.findIdx (· == c)<l.length:=fun e=>by
  obtain⟨x,a,b⟩:=List.findIdx_lt_length.1 e;rw[beq_iff_eq.1 b]at a;exact h a
 rw[zH this];simp[h]
theorem nz{k:IntKind}{a b:Int}(h:b=a):Ending.returned (.int k a)=.returned (.int k b):=by rw[h]
def endsS:ByteArray:=⟨#[32,9,40,41,34]⟩
theorem K8(c:UInt8):decide (0≤Lib.indexByte endsS.data.toList c)=iJ c:=by
 rw[Bool.eq_iff_iff,decide_eq_true_iff,Mo];unfold iJ endsS;simp[or_assoc]
theorem p6(c:UInt8)(w:World):Calls prog 151 #[.int .u8 (c.toNat:Int)] w fun e w'=>e=.returned (.bool (iJ c))∧w=w':=by
 have b:=(Tryz.strings_IndexByte endsS (c.toNat:Int) w);have a:(c.toNat:Int).toNat.toUInt8=c:=jz;rw[a]at b;have d:=K8 c;generalize Lib.indexByte endsS.data.toList c=r at *;rw[←d];clear d a;go_enter func151,ntmps151;go_wp2_with (go_at_call 175;refine b.mono ?_;rintro e w' ⟨rfl,rfl⟩);go_ret;exact⟨rfl,rfl⟩
def sH(s:ByteArray):ByteArray:=s.extract 1 s.size
theorem Ff(s:ByteArray):(sH s).data.toList=s.data.toList.tail:=by
 unfold sH;rw[Lib.extract_data,zR (by rw[zP,fB];omega),List.drop_one]
theorem yS(s:ByteArray)(w:World)(h1:1≤s.size)(hs:s.size≤1048576):Calls prog 150 #[.string s] w fun e w'=>e=.returned (.int .i64 (fw s.data.toList:Nat))∧w=w':=by
 have b:=(Tryz.strings_IndexByte (sH s) 34 w);have h:(34:Int).toNat.toUInt8=34:=jd;rw[h,Ff,rH]at b;have f:Hid (sH s=s.extract 1 s.size):=rfl;have c:Hid (fw s.data.toList=if atC 34 s.data.toList.tail<s.data.toList.tail.length then atC 34 s.data.toList.tail+2 else 0):=rfl;have i:s.data.toList.tail.length≤1048576:=by rw[List.length_tail,fB];omega
 generalize atC 34 s.data.toList.tail=k at *;generalize s.data.toList.tail.length=n at *;by_cases a:k<n
 ·rw[zI a]at b;have d:Hid (fw s.data.toList=k+2):=zh (by rw[c.out,zI a]);rw[d.out];have g:(k:Int)≤1048576:=jo;clear c a;go_enter func150,ntmps150;go_wp2_with (go_at_call 175;(try rw[←f.out]);refine b.mono ?_;rintro e w' ⟨rfl,rfl⟩);go_ret;exact⟨ju,rfl⟩
 rw[zH a]at b;have d:Hid (fw s.data.toList=0):=zh (by rw[c.out,zH a]);rw[d.out];clear c a;go_enter func150,ntmps150;go_wp2_with (go_at_call 175;(try rw[←f.out]);refine b.mono ?_;rintro e w' ⟨rfl,rfl⟩);go_ret;exact⟨rfl,rfl⟩
def lf(n:Nat)(s:ByteArray):ByteArray:=s.extract n s.size
theorem tQ(n:Nat)(s:ByteArray):(lf n s).data.toList=s.data.toList.drop n:=by
 unfold lf;rw[Lib.extract_data,zR (by rw[zP,fB];omega)]
theorem qh(n:Nat)(s:ByteArray):(lf n s).size=s.size-n:=by unfold lf;rw[ByteArray.size_extract];omega
theorem Em(s:ByteArray)(k:Nat)(w:World)(h1:k<s.size)(hs:s.size≤1048576):Calls prog 150 #[.string (s.extract k s.size)] w fun e w'=>e=.returned (.int .i64 (fw (s.data.toList.drop k):Nat))∧w=w':=by
 have:=yS (lf k s) w (by rw[qh];omega) (by rw[qh];omega);rw[tQ]at this;exact this
theorem lZ(s:ByteArray)(k:Nat)(h:k<s.size):s.data.toList[k]?=some s[k]:=by
 rw[zU (by rw[fB];exact h)];rfl
theorem gu(c d:UInt8):((c.toNat:Int)==(d.toNat:Int))=(c==d):=by
 rw[Bool.eq_iff_iff,beq_iff_eq,beq_iff_eq];constructor
 ·intro h;exact UInt8.toNat_inj.1 jo
 rintro rfl;rfl
theorem G0(s:ByteArray)(w:World)(h1:0<s.size)(hs:s.size≤1048576):Calls prog 124 #[.string s] w fun e w'=>e=.returned (.int .i64 (fL s.data.toList:Nat))∧w=w':=by
 have f:s.data.toList.head?=some s[0]:=by rw[←lZ s 0 h1];cases s.data.toList<;>rfl
 have u0:=gu s[0] 40;have u1:=gu s[0] 41;have u2:=gu s[0] 34;simp only[show (UInt8.toNat 40:Int)=40 from rfl,show (UInt8.toNat 41:Int)=41 from rfl,show (UInt8.toNat 34:Int)=34 from rfl]at u0 u1 u2;by_cases p:s[0]=40
 ·have d:fL s.data.toList=1:=by unfold fL;rw[f,zI (.inl (by rw[p]))]
  have O:((s[0].toNat:Int)==40)=true:=by rw[u0];exact beq_iff_eq.2 p
  rw[d];clear d f u0 u1 u2 p;go_enter func124,ntmps124;go_wp2;go_ret;exact⟨rfl,rfl⟩
 have O:((s[0].toNat:Int)==40)=false:=by rw[u0];exact zM.2 p
 by_cases d:s[0]=41
 ·have c:fL s.data.toList=1:=by unfold fL;rw[f,zI (.inr (by rw[d]))]
  have R:((s[0].toNat:Int)==41)=true:=by rw[u1];exact beq_iff_eq.2 d
  rw[c];clear c f u0 u1 u2 p d;go_enter func124,ntmps124;go_wp2;go_ret;exact⟨rfl,rfl⟩
 have R:((s[0].toNat:Int)==41)=false:=by rw[u1];exact zM.2 d
 have n:¬(s.data.toList.head?=some 40∨s.data.toList.head?=some 41):=by rw[f];simp[p,d]
 by_cases c:s[0]=34
 ·have v:fL s.data.toList=fw s.data.toList:=by unfold fL;rw[zH n,f,c,zI rfl]
  have M:((s[0].toNat:Int)==34)=true:=by rw[u2];exact beq_iff_eq.2 c
  have T:=yS s w jo hs;rw[v];clear v n f u0 u1 u2 p d c;generalize fw s.data.toList=r at *;go_enter func124,ntmps124;go_wp2_with (go_at_call 150;refine T.mono ?_;rintro e w' ⟨rfl,rfl⟩);go_ret;exact⟨rfl,rfl⟩
 have M:((s[0].toNat:Int)==34)=false:=by rw[u2];exact zM.2 c
 have v:fL s.data.toList=if s.data.toList[gB s.data.toList]?=some 34∧s.data.toList[gB s.data.toList-1]?=some 58 then(if fw (s.data.toList.drop (gB s.data.toList))=0 then 0 else gB s.data.toList+fw (s.data.toList.drop (gB s.data.toList)))else gB s.data.toList:=by
  unfold fL;rw[zH n,f,zH (by simpa using c)]
 have o:=zh v;have P:=zh c;have Hend:=zh (pV iJ s.data.toList);clear v n f u0 u1 u2 p d c;go_enter func124,ntmps124;go_wp2_with fail;go_loopw [3] (fun i wr=>∃k:Nat,k≤s.size∧i=.int .i64 k∧w=wr∧Hid (∀x∈s.data.toList.take k,iJ x=false)) (fun i _=>s.size-(intOf i).toNat)
 case atStart=>exact⟨0,zS _,rfl,rfl,zh (fun x hx=>by simp at hx)⟩
 obtain⟨k,V,rfl,rfl,a⟩:=hrel;have I:(0:Int)≤(k:Int):=jo;by_cases g:k<s.size
 ·have b:=nW s k g;by_cases B:iJ s[k]=true
  ·have l:Hid (gB s.data.toList=k):=zh (Hend.out k a.out (by rw[fB];omega) (fun _=>B));have u3:=gu s[k] 34;rw[show (UInt8.toNat 34:Int)=34 from rfl]at u3;by_cases q:s[k]=34
   ·have N:((s[k].toNat:Int)==34)=true:=by rw[u3];exact beq_iff_eq.2 q
    obtain⟨j,rfl⟩:∃j,k=j+1:=by
     match k with
     | 0=>exact absurd q P.out
     | j+1=>exact⟨j,rfl⟩
    have L:j<s.size:=jo;have u4:=gu s[j] 58;rw[show (UInt8.toNat 58:Int)=58 from rfl]at u4;have t:=lZ s (j+1) g;have z:=lZ s j L;have A:=Em s (j+1) w g hs;have H:(0:Int)≤(j:Int):=jo;have U:((j+1:Nat):Int)=(j:Int)+1:=jo;by_cases u:s[j]=58
    ·have J:((s[j].toNat:Int)==58)=true:=by rw[u4];exact beq_iff_eq.2 u
     have y:Hid (fL s.data.toList=if fw (s.data.toList.drop (j+1))=0 then 0 else j+1+fw (s.data.toList.drop (j+1))):=zh (by
      rw[o.out,l.out,Nat.add_sub_cancel,t,z,q,u,zI ⟨rfl,rfl⟩])
     have G:=qg (s.data.toList.drop (j+1));rw[zP,fB]at G;clear u3 u4 t z q u b a l o Hend;generalize fw (s.data.toList.drop (j+1))=r at *;by_cases C:r=0
     ·subst C;have m:Hid (fL s.data.toList=0):=zh (by rw[y.out];rfl);clear y G;go_wp2_with (first|(go_at_call 151;refine(p6 s[j+1] _).mono ?_;rintro e w' ⟨rfl,rfl⟩)|(go_at_call 150;refine A.mono ?_;rintro e w' ⟨rfl,rfl⟩));go_ret;exact⟨nz (by rw[m.out];first|rfl|omega),rfl⟩
     have m:Hid (fL s.data.toList=j+1+r):=zh (by rw[y.out,zH C]);have S:((r:Int)==0)=false:=by rw[zM];omega
     clear y C;go_wp2_with (first|(go_at_call 151;refine(p6 s[j+1] _).mono ?_;rintro e w' ⟨rfl,rfl⟩)|(go_at_call 150;refine A.mono ?_;rintro e w' ⟨rfl,rfl⟩));go_ret;exact⟨nz (by rw[m.out];first|rfl|omega),rfl⟩
    have J:((s[j].toNat:Int)==58)=false:=by rw[u4];exact zM.2 u
    have m:Hid (fL s.data.toList=j+1):=zh (by
     rw[o.out,l.out,Nat.add_sub_cancel,t,z,zH (by simp[u])])
    clear u3 u4 t z q u b a l o Hend A;go_wp2_with (go_at_call 151;refine(p6 s[j+1] _).mono ?_;rintro e w' ⟨rfl,rfl⟩);go_ret;exact⟨nz (by rw[m.out];omega),rfl⟩
   have N:((s[k].toNat:Int)==34)=false:=by rw[u3];exact zM.2 q
   have t:=lZ s k g
   have m:Hid (fL s.data.toList=k):=zh (by
    rw[o.out,l.out,t,zH (by simp[q])])
   clear u3 t q b a l o Hend;go_wp2_with (go_at_call 151;refine(p6 s[k] _).mono ?_;rintro e w' ⟨rfl,rfl⟩);go_ret;exact⟨nz (by rw[m.out]),rfl⟩
  have D:iJ s[k]=false:=by simpa using B
  have E:Hid (∀x∈s.data.toList.take (k+1),iJ x=false):=zh (fun x hx=>by
   rw[b,List.mem_append]at hx;rcases hx with hx|hx
   ·exact a.out x hx
   rw[List.mem_singleton]at hx;rw[hx];exact D)
  clear b a B o Hend;go_wp2_with (go_at_call 151;refine(p6 s[k] _).mono ?_;rintro e w' ⟨rfl,rfl⟩);go_roundw
  case rel=>exact⟨k+1,jo,ju,by first|rfl|trivial,E⟩
  simp[intOf];omega
 obtain rfl:k=s.size:=jo;have F:s.data.toList[s.size]?=none:=List.getElem?_eq_none (by rw[fB];omega);have l:Hid (gB s.data.toList=s.size):=zh (Hend.out s.size a.out (by rw[fB];omega) (fun h=>absurd h (by rw[fB];omega)))
 have m:Hid (fL s.data.toList=s.size):=zh (by
  rw[o.out,l.out,F,zH jz])
 clear a F l o Hend;go_wp2;go_ret;exact⟨nz (by rw[m.out]),rfl⟩
end Qp

namespace Qp
open Go.RowKit Ut Tk Qy
def Bn(w:World)(o:Option (List P))(e:Ending)(w':World):Prop:=
 match o with
 | some l=>∃v,e=.returned (.tuple #[v,.bool true])∧w'.ownsRow w.heap.size 9 1 v l.length (sv l)∧zWW w w'
 | none=>e=.returned (.tuple #[.slice none 0 0,.bool false])∧zWW w w'
def sS:Value→Nat | .string x=>x.size|_=>0
theorem wN(s:ByteArray)(h:s.size=0):s.data.toList=[]:=List.length_eq_zero_iff.1 (by rw[fB];exact h)
theorem Bo(s:ByteArray)(h:0<s.size):s.data.toList=s[0]::s.data.toList.drop 1:=by
 have e:s[0]=s.data.toList[0]'(by rw[fB];exact h):=rfl;rw[e];exact(zf (i:=0) (by rw[fB];exact h))
theorem Fg(s:ByteArray)(w:World)(hs:s.size≤1048576):Calls prog 95 #[.string s] w (Bn w (fI s.data.toList)):=by
 obtain⟨i0,E,F,L,C⟩:=info_parts qx;have N:=zh hs;clear hs;go_enter func95,ntmps95;go_wp2_with fail;go_loopw [0,4] (fun x v wr=>∃(r:ByteArray) (a:List P),x=.string r∧r.size≤s.size∧Hid (fI s.data.toList=(fI r.data.toList).map (a ++ ·))∧a.length+r.size≤1048576∧Strs w wr v a) (fun x _ _=>sS x)
 case atStart=>exact⟨s,[],rfl,zG _,zh jz,by simpa using N.out,⟨vO _ _ _ _,zy _ _⟩⟩
 obtain⟨q,a,rfl,aa,I,ac,S⟩:=hrel;have p:=zh S;clear S;have Ro:=zh (zG q.size);go_wp2_with fail;go_loopw [0] (fun x wi=>∃r:ByteArray,x=.string r∧r.size≤q.size∧Hid (fI r.data.toList=fI q.data.toList)∧wr=wi) (fun x _=>sS x)
 case atStart=>exact⟨q,rfl,zG _,zh rfl,rfl⟩
 obtain⟨r,rfl,hr,i,rfl⟩:=hrel;have Hpc:Hid (fI s.data.toList=(fI r.data.toList).map (a ++ ·)):=zh (by rw[i.out];exact I.out);by_cases A:r.size=0
 ·have j:=wN r A;have ad:r.toList=[]:=by rw[tl];exact j
  have Fin:Hid (fI s.data.toList=some a):=zh (by rw[Hpc.out,j,oO];simp);clear j A;go_wp2_with fail;go_ret2;exact(by rw[Fin.out];exact⟨_,rfl,p.out.own,p.out.bel⟩)
 have T:0<r.size:=jo;have j:=Bo r T;have Z:r.toList.isEmpty=false:=by rw[tl,j];rfl
 have u0:=gu r[0] 32;have u1:=gu r[0] 9;simp only[show (UInt8.toNat 32:Int)=32 from rfl,show (UInt8.toNat 9:Int)=9 from rfl]at u0 u1;have m:=tQ 1 r;have f:=qh 1 r;have g:il r[0]=(r[0]==32 || r[0]==9):=rfl;by_cases o:il r[0]=true
 ·have D:Hid (fI (lf 1 r).data.toList=fI q.data.toList):=zh (by rw[m,←i.out,j,qV _ _ o];rfl)
  have M:((r[0].toNat:Int)==32)=true∨(((r[0].toNat:Int)==32)=false∧((r[0].toNat:Int)==9)=true):=by
   rw[u0,u1];rw[g]at o
   cases h9:r[0]==32 with
   | true=>exact .inl rfl
   | false=>rw[h9]at o;exact .inr ⟨rfl,by simpa using o⟩
  have d:Hid (lf 1 r=r.extract 1 r.size):=rfl;have G:Hid ((r.extract 1 r.size).size=r.size-1):=zh (by rw[←d.out];exact f);clear j u0 u1 m f g o A Hpc i;rcases M with R|⟨R,t1⟩
  all_goals
   go_wp2_with fail;go_roundw
   case rel=>exact⟨lf 1 r,rfl,by rw[d.out,G.out];omega,D,by first|rfl|trivial⟩
   simp[sS];omega
 have b:il r[0]=false:=by simpa using o
 have R:((r[0].toNat:Int)==32)=false:=by
  rw[u0];rw[g]at b;simp only[Bool.or_eq_false_iff]at b;exact b.1
 have t1:((r[0].toNat:Int)==9)=false:=by
  rw[u1];rw[g]at b;simp only[Bool.or_eq_false_iff]at b;exact b.2
 have U:=G0 r wr T (by have:=N.out;omega);have B:=uE r.data.toList;rw[fB]at B
 have h:Hid (fI r.data.toList=if fL r.data.toList=0 then none else(fI (r.data.toList.drop (fL r.data.toList))).map (fun l=>r.data.toList.take (fL r.data.toList)::l)):=zh (by
  have:=qX r[0] (r.data.toList.drop 1) b;rw[←j]at this
  exact this)
 clear j u0 u1 m f g o b i;generalize fL r.data.toList=n at *;have Y:(0:Int)≤(n:Int):=jo;have X:(n:Int)≤(r.size:Int):=jo;by_cases z:n=0
 ·have Fin:Hid (fI s.data.toList=none):=zh (by rw[Hpc.out,h.out,zI z];rfl);subst z;clear h Hpc;go_wp2_with (go_at_call 124;refine U.mono ?_;rintro e w' ⟨rfl,rfl⟩);go_ret2;exact(by rw[Fin.out];exact⟨rfl,p.out.bel⟩)
 have W:((n:Int)==0)=false:=by rw[zM];omega
 have V:Hid (r.extract 0 n=str (r.data.toList.take n)):=zh (by
  rw[←kQ (r.extract 0 n),Lib.extract_data];simp)
 have D:Hid (fI s.data.toList=(fI (lf n r).data.toList).map ((a ++ [r.data.toList.take n]) ++ ·)):=zh (by
  rw[Hpc.out,h.out,zH z,tQ,Option.map_map];congr 1
  funext l
  simp)
 have d:Hid (lf n r=r.extract n r.size):=rfl;have f:=qh n r;have Hsz:Hid ((r.extract n r.size).size=r.size-n):=zh (by rw[←d.out];exact f);have k:=p.out.own;have ab:=p.out.bel.size;have J:0<n:=jo;clear h Hpc z f A;generalize r.data.toList.take n=x at *
 go_wp2_with (first
  | (go_at_call 124;refine U.mono ?_;rintro e w' ⟨rfl,rfl⟩)
  | (at_builtin;refine vJ _ rfl _ _ 57 rfl w.heap.size 9 i0 _ 1 16 underlying57 E F L C rfl jd _ _ _ rfl (k.alloc _) ⟨wr.heap.size,0,none⟩ 1 1 [.string (r.extract 0 n)] rfl rfl ?d1 ?d2 ?d3 ?d4 ?d5 ?_))
 case d1=>exact vH (cs:=#[.string (r.extract 0 n)]) (t:=9) (fr:=(0,0)) (vK wr _)
 case d2=>intro u O;simp at O;subst O;rfl
 case d3=>unfold maxLen;omega
 case d4=>omega
 case d5=>simp;omega
 intro v' w5 c y _;rw[V.out]at c;have H:=zh ((p.out.below (zRR _)).put c y);clear c y k;go_wp2_with fail;go_roundw
 case rel=>exact⟨lf n r,a ++ [x],rfl,by rw[d.out,Hsz.out];omega,D,by rw[d.out,Hsz.out,zJ,zm];omega,H.out⟩
 simp[sS,Hsz.out];omega
end Qp

namespace Qp
open Go.RowKit Ut Tk Qy
structure Rd (B:Nat) (w:World) (g:Nat) (l:List P):Prop where
 ex:∃A n c,Blk w g 154 #[.slice A n c]∧l.length=n∧n≤c∧ReadsS w (fun b=>b<B∧b≠g) 1 A n (sv l)
 low:B≤w.heap.size
 ne:∀x∈l,x≠[]
 many:l.length≤1048576
theorem Rd.lt{B:Nat}{w:World}{g:Nat}{l:List P}(h:Rd B w g l):g<w.heap.size:=by
 obtain⟨A,n,c,a,_⟩:=h.ex;exact a.lt
theorem Rd.other{B:Nat}{w w':World}{g:Nat}{l:List P}{row:Option Nat}(h:Rd B w g l)(hg:w.grownBy w' row)(hr:∀b,row=some b→B≤b∧b≠g):Rd B w' g l:=by
 obtain⟨A,n,c,f,j,i,d⟩:=h.ex;refine⟨⟨A,n,c,f.grown hg (fun e=>(hr g e.symm).2 rfl),j,i,d.keep fun b o a=>vP (w:=w) (hg.block b (zT a.1 h.low) (fun e=>?_))⟩,zY h.low hg.size,h.ne,h.many⟩;have:=(hr b e.symm).1;have:=a.1;omega
theorem Rd.below{B:Nat}{w w':World}{g:Nat}{l:List P}(h:Rd B w g l)(hb:zWW w w'):Rd B w' g l:=
 h.other (fH hb none) (fun b e=>by cases e)
theorem Rd.grown{B:Nat}{w w':World}{g:Nat}{l:List P}{row:Option Nat}(h:Rd B w g l)(hg:w.grownBy w' row)(hr:∀b,row=some b→w.heap.size≤b):Rd B w' g l:=
 h.below ((zy _ _).grown hg (zG _) hr)
def pk:List P→ByteArray | []=>ByteArray.empty|s::_=>str s
theorem mU(s:P)(h:s≠[]):(str s).toList.isEmpty=false:=by
 rw[tl,gM]
 cases s with
 | nil=>exact absurd rfl h
 | cons a t=>rfl
theorem uX(B:Nat)(w:World)(g:Nat)(h:Rd B w g []):Calls prog 126 #[.pointer (some ⟨g,0,none⟩)] w fun e w'=>e=.returned (.string ByteArray.empty)∧w=w':=by
 obtain⟨A,n,c,a,b,i,d⟩:=h.ex;have f:=a.cell 0;simp at f;obtain rfl:n=0:=by simpa using b.symm
 clear a b d h;go_enter func126,ntmps126;go_wp2;go_ret;exact⟨rfl,rfl⟩
theorem uG(B:Nat)(w:World)(g:Nat)(s:P)(l:List P)(h:Rd B w g (s::l)):Calls prog 126 #[.pointer (some ⟨g,0,none⟩)] w fun e w'=>e=.returned (.string (str s))∧w=w':=by
 obtain⟨A,n,c,j,i,r,f⟩:=h.ex;have q:=j.cell 0;simp at q;have d:0<n:=by rw[←i];simp
 obtain⟨b,o,rfl,p,a⟩:=f.2 d;have k:=a 0 (.string (str s)) rfl;have m:((n:Int)==0)=false:=by rw[zM];omega
 simp at k;clear j i f h a p;go_enter func126,ntmps126;go_wp2;go_ret;exact⟨rfl,rfl⟩
theorem mO(g:Nat)(w:World):Calls prog 98 #[.pointer (some ⟨g,0,none⟩),.bool true] w fun e w'=>e=.returned (.tuple #[])∧w=w':=by
 go_enter func98,ntmps98;go_wp2
 go_end0
 exact⟨rfl,rfl⟩
theorem lY(g:Nat)(w:World):Calls prog 98 #[.pointer (some ⟨g,0,none⟩),.bool false] w fun e w'=>e=.panicked [{ v:=.iface 149 (.agg #[.int .i64 170]),recovered:=false }]∧w=w':=by
 go_enter func98,ntmps98;go_wp2;exact⟨rfl,rfl,rfl⟩
theorem BJ(B:Nat)(w:World)(g:Nat)(h:Rd B w g []):Calls prog 127 #[.pointer (some ⟨g,0,none⟩)] w fun e w'=>e=.returned (.string ByteArray.empty)∧w=w':=by
 have a:=uX B w g h;clear h;go_enter func127,ntmps127;go_wp2_with (go_at_call 126;refine a.mono ?_;rintro e w' ⟨rfl,rfl⟩);go_ret;exact⟨rfl,rfl⟩
theorem mM(B:Nat)(w:World)(g:Nat)(s:P)(l:List P)(h:Rd B w g (s::l)):Calls prog 127 #[.pointer (some ⟨g,0,none⟩)] w fun e w'=>e=.returned (.string (str s))∧Rd B w' g l∧w.grownBy w' (some g):=by
 have t:=uG B w g s l h;obtain⟨A,n,c,i,k,H,r⟩:=h.ex;have F:=i.cell 0;have y:=i.frozen 0;simp at F;have p:0<n:=by rw[←k];simp
 have I:=mU s (h.ne s jz);obtain⟨b,o,rfl,v,d⟩:=r.2 p
 have a:∀(f:Option Addr) (m:Nat),n-1≤m→(1<n→f=some ⟨b,o+1,none⟩)→Rd B (w.setCell ⟨g,0,none⟩ (.slice f (n-1) m)) g l:=fun f m E D=>by
  refine⟨⟨f,n-1,m,i.set_ 0 _,by rw[zV]at k;omega,E,⟨by rw[MS];rw[zV]at k;omega,fun G=>?_⟩⟩,by simpa[World.setCell]using h.low,fun x z=>h.ne x (by simp[z]),by have:=h.many;rw[zV]at this;omega⟩;refine⟨b,o+1,D jo,v,fun j u C=>?_⟩;have:=d (j+1) u (by simpa[sv]using C);rw[vP (w:=w) (vN w ⟨g,0,none⟩ _ b v.2)];rw[←this];congr 2;omega
 have FIN:=zh a;clear a i k r h d;by_cases q:c=1
 ·obtain rfl:n=1:=jo;subst q;go_enter func127,ntmps127;go_wp2_with (go_at_call 126;refine t.mono ?_;rintro e w' ⟨rfl,rfl⟩);go_ret;exact⟨rfl,FIN.out _ _ (zG _) (fun h=>absurd h jo),xx w g 0 _⟩
 go_enter func127,ntmps127;go_wp2_with (go_at_call 126;refine t.mono ?_;rintro e w' ⟨rfl,rfl⟩);go_ret;exact⟨rfl,FIN.out _ _ jo (fun h=>rfl),xx w g 0 _⟩
end Qp
end Go.Proofs.YtmomjpolkkbhnaaGreat
