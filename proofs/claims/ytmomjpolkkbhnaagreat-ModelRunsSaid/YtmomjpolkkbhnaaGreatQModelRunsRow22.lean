/- many, depth of queries, the program's and the document's: the walks (printed by gen_qpk.py). -/
import Derived.Test.YtmomjpolkkbhnaaGreatQModelRunsRow21
import Derived.Test.YtmomjpolkkbhnaaGreatQModelRunsRow11
set_option linter.unusedSimpArgs false
set_option maxRecDepth 20000
set_option maxHeartbeats 100000000
open Go.Proofs.Tryz
namespace Go.Proofs.YtmomjpolkkbhnaaGreat
namespace Qp
open Go.RowKit Ut Tk Qy
mutual
def gL:Q→Nat
 | .mk _ _ _ l=>gG l+1
def gG:List Q→Nat
 | []=>0
 | q::l=>max (gL q) (gG l)
end
mutual
def gy:Q→Bool
 | .mk _ _ ws l=>decide (32<l.length) || decide (16<ws.length) || iT l
def iT:List Q→Bool
 | []=>false
 | q::l=>gy q || iT l
end
theorem uH(k:Int)(nm:ByteArray)(ws:List ByteArray)(l:List Q):gL (.mk k nm ws l)=gG l+1:=by rw[gL]
theorem BL(k:Int)(nm:ByteArray)(ws:List ByteArray)(l:List Q):gy (.mk k nm ws l)=(decide (32<l.length) || decide (16<ws.length) || iT l):=by rw[gy]
theorem xS:∀a b,gG (a++b)=max (gG a) (gG b)
 | [],b=>by simp[gG]
 | q::a,b=>by rw[List.cons_append,gG,gG,xS a b,Nat.max_assoc]
theorem tE:∀a b,iT (a++b)=(iT a || iT b)
 | [],b=>by simp[iT]
 | q::a,b=>by rw[List.cons_append,iT,iT,tE a b,Bool.or_assoc]
theorem xy(l:List Q)(k:Nat)(h:k<l.length):gG (l.take (k+1))=max (gG (l.take k)) (gL l[k]):=by
 rw[zL h,xS];simp[gG]
theorem yT(l:List Q)(k:Nat)(h:k<l.length):iT (l.take (k+1))=(iT (l.take k) || gy l[k]):=by
 rw[zL h,tE];simp[iT]
theorem yU(l:List Q)(k:Nat)(h:k<l.length)(hb:gy l[k]=true):iT l=true:=by
 have e:l=l.take k++l[k]::l.drop (k+1):=by rw[←zf h,List.take_append_drop]
 rw[e,tE,iT,hb];simp
inductive QW:Nat→Q→Prop
 | mk {K:Nat} {k:Int} {nm:ByteArray} {ws:List ByteArray} {l:List Q} (h1:ws.length≤8796093021952) (h2:l.length≤8796093021952) (h3:∀x∈l,QW K x):QW (K+1) (.mk k nm ws l)
theorem QW.more{K:Nat}{q:Q}(h:QW K q):∀K',K≤K'→QW K' q:=by
 induction h with
 | mk h1 h2 h3 ih=>
  intro K' hK;obtain⟨a,rfl⟩:∃a,K'=a+1:=⟨K'-1,jo⟩;exact .mk h1 h2 fun x b=>ih x b a jo
theorem QW.depth{K:Nat}{q:Q}(h:QW K q):gL q≤K:=by
 induction h with
 | @mk K k nm ws l h1 h2 h3 ih=>
  rw[uH]
  have:∀a:List Q,(∀x∈a,gL x≤K)→gG a≤K:=by
   intro a
   induction a with
   | nil=>intro _;simp[gG]
   | cons q a ih2=>
    intro h;rw[gG];have:=h q jz;have:=ih2 (fun x b=>h x (by simp[b]));omega
  have:=this l ih;omega
def o6(F:Nat)(q:Q):Prop:=∀(w:World) (a0 a1 a2 a3:Value),QAt w w.heap.size q [a0,a1,a2,a3] →
 Calls prog F #[.agg #[a0,a1,a2,a3]] w fun e w'=>e=.returned (.bool (gy q))∧zWW w w'
def pF(F:Nat)(q:Q):Prop:=∀(w:World) (a0 a1 a2 a3:Value),QAt w w.heap.size q [a0,a1,a2,a3] →
 Calls prog F #[.agg #[a0,a1,a2,a3]] w fun e w'=>e=.returned (.int .i64 (gL q:Nat))∧zWW w w'
theorem G8(k:Int)(nm:ByteArray)(ws:List ByteArray)(l:List Q)(hl6:l.length≤8796093021952)(hw6:ws.length≤8796093021952)(ih:∀x∈l,o6 43 x):o6 43 (.mk k nm ws l):=by
 intro w a0 a1 a2 a3 hQ;obtain⟨W,m,wc,H,n,V,e,U⟩:=hQ.is;simp only[zQ,and_true]at e;obtain⟨rfl,rfl,rfl,rfl⟩:=e;have J:zWW w (w.alloc (.cells #[.int .i64 k,.string nm,.slice W m wc,.slice H n V] 60)):=zRR _;have G:=Blk.new w 60 #[.int .i64 k,.string nm,.slice W m wc,.slice H n V];have ac:w.heap.size<(w.alloc (.cells #[.int .i64 k,.string nm,.slice W m wc,.slice H n V] 60)).heap.size:=jz;have a:=zh J;have aa:=zh G;have f:=U.lm;have ah:n≤8796093021952:=jo
 have i:∀j (T:j<l.length),∀g,zWW w g→∃b o N A P F D S,H=some ⟨b,o,none⟩∧b<w.heap.size ∧
   g.cell? ⟨b,o+j*4,none⟩=some (.int .i64 l[j].kind)∧g.cell? ⟨b,o+j*4+1,none⟩=some (.string l[j].name)∧g.cell? ⟨b,o+j*4+2,none⟩=some (.slice N A P)∧g.cell? ⟨b,o+j*4+3,none⟩=some (.slice F D S) ∧
   ∀z,zWW g z→Calls prog 43 #[.agg #[.int .i64 l[j].kind,.string l[j].name,.slice N A P,.slice F D S]] z fun e w'=>e=.returned (.bool (gy l[j]))∧zWW z w':=by
  intro j T g d;obtain⟨u,t,N,A,P,F,D,S,rfl,c,hq,L,I,X,M⟩:=U.at_ T;exact⟨u,t,N,A,P,F,D,S,rfl,c,(d.cell (p:=⟨u,t+j*4,none⟩) c).trans L,(d.cell (p:=⟨u,t+j*4+1,none⟩) c).trans I,(d.cell (p:=⟨u,t+j*4+2,none⟩) c).trans X,(d.cell (p:=⟨u,t+j*4+3,none⟩) c).trans M,fun z h=>ih _ (za T) z _ _ _ _ ((hq.grow d).grow h)⟩
 have Hlm:=zh f;have Hkid:=zh i;have r:=U.wn;have ag:m≤8796093021952:=jo;have Fin:=zh (BL k nm ws l);have Hms:=zh (yU l);have Hmt:=zh (yT l);clear hQ U J G i ih;by_cases s:32<n
 ·have B:(32:Int)<(n:Int):=jo;have Fin2:Hid (gy (.mk k nm ws l)=true):=zh (by rw[Fin.out,zO jo];rfl);clear f r s;go_enter func43,ntmps43;go_wp2;go_ret;exact⟨by rw[Fin2.out];first|done|rfl,a.out⟩
 have B:(n:Int)≤32:=jo;by_cases R:16<m
 ·have C:(16:Int)<(m:Int):=jo;have Fin2:Hid (gy (.mk k nm ws l)=true):=zh (by rw[Fin.out,zO (p:=16<ws.length) jo];simp);clear f r s R;go_enter func43,ntmps43;go_wp2;go_ret;exact⟨by rw[Fin2.out];first|done|rfl,a.out⟩
 have C:(m:Int)≤16:=jo;have Fin2:Hid (gy (.mk k nm ws l)=iT l):=zh (by rw[Fin.out,zN jo,zN jo];rfl);clear f r s R Fin hl6 hw6;go_enter func43,ntmps43;go_wp2_with fail;generalize Y:(w.alloc (.cells #[.int .i64 k,.string nm,.slice W m wc,.slice H n V] 60))=g at *;clear Y;go_loopw [3] (fun v wr=>∃j:Nat,j≤n∧v=.int .i64 (j:Nat)∧Hid (iT (l.take j)=false)∧zWW g wr) (fun v _=>n-(intOf v).toNat)
 case atStart=>exact⟨0,zS _,rfl,zh rfl,zy _ _⟩
 obtain⟨j,T,rfl,hS,d⟩:=hrel;have Hb:=zh d;have Z:=(d.cell (p:=⟨w.heap.size,3,none⟩) (by show w.heap.size < _;exact ac)).trans (aa.out.cell 3);simp at Z;by_cases O:j<n
 ·have q:j<l.length:=by rw[Hlm.out];exact O
  have ab:(j:Int)<(n:Int):=jo;have ae:(0:Int)≤(j:Int):=jo;have E:zWW w wr:=a.out.trans (d.mono a.out.size);obtain⟨u,t,N,A,P,F,D,S,rfl,c,L,I,af,M,cK⟩:=Hkid.out j q wr E;have c1:=cK wr (zy _ _);clear cK;have Hmm:=zh (Hmt.out j q);have Hmx:=zh (Hms.out j q);clear d O E;generalize l[j]=y at *;generalize (y).kind=x0 at *;generalize (y).name=x1 at *;go_wp2_with fail;refine c1.mono ?_;rintro e z ⟨rfl,h⟩;have FinB:=zt Hb h;clear h c1
  cases hy:gy y with
  | true=>
   have Fin3:Hid (gy (.mk k nm ws l)=true):=zh (by rw[Fin2.out];exact Hmx.out hy);clear hy Hmx Hmm;go_wp2;go_ret;exact⟨by rw[Fin3.out];first|done|rfl,a.out.trans (FinB.out.mono a.out.size)⟩
  | false=>
   have ad:Hid (iT (l.take (j+1))=false):=zh (by rw[Hmm.out,hS.out,hy];rfl);clear hy Hmx Hmm;go_wp2;go_roundw
   case rel=>exact⟨j+1,jo,ju,ad,FinB.out⟩
   simp[intOf];omega
 have ab:(n:Int)≤(j:Int):=jo;have e:n=j:=jo
 have Fin3:Hid (gy (.mk k nm ws l)=false):=zh (by
  rw[Fin2.out,←List.take_length (l:=l),Hlm.out,e];exact hS.out)
 clear d hS e;go_wp2;go_ret;exact⟨by rw[Fin3.out];first|done|rfl,a.out.trans (Hb.out.mono a.out.size)⟩
theorem JY(k:Int)(nm:ByteArray)(ws:List ByteArray)(l:List Q)(hl6:l.length≤8796093021952)(hw6:ws.length≤8796093021952)(ih:∀x∈l,o6 99 x):o6 99 (.mk k nm ws l):=by
 intro w a0 a1 a2 a3 hQ;obtain⟨Y,m,wc,M,n,W,e,V⟩:=hQ.is;simp only[zQ,and_true]at e;obtain⟨rfl,rfl,rfl,rfl⟩:=e;have O:zWW w (w.alloc (.cells #[.int .i64 k,.string nm,.slice Y m wc,.slice M n W] 60)):=zRR _;have L:=Blk.new w 60 #[.int .i64 k,.string nm,.slice Y m wc,.slice M n W];have ai:w.heap.size<(w.alloc (.cells #[.int .i64 k,.string nm,.slice Y m wc,.slice M n W] 60)).heap.size:=jz;have a:=zh O;have ag:=zh L;have f:=V.lm;have ah:n≤8796093021952:=jo
 have i:∀j (U:j<l.length),∀g,zWW w g→∃b o D u E C A G,M=some ⟨b,o,none⟩∧b<w.heap.size ∧
   g.cell? ⟨b,o+j*4,none⟩=some (.int .i64 l[j].kind)∧g.cell? ⟨b,o+j*4+1,none⟩=some (.string l[j].name)∧g.cell? ⟨b,o+j*4+2,none⟩=some (.slice D u E)∧g.cell? ⟨b,o+j*4+3,none⟩=some (.slice C A G) ∧
   ∀F,zWW g F→Calls prog 99 #[.agg #[.int .i64 l[j].kind,.string l[j].name,.slice D u E,.slice C A G]] F fun e w'=>e=.returned (.bool (gy l[j]))∧zWW F w':=by
  intro j U g d;obtain⟨B,z,D,u,E,C,A,G,rfl,c,hq,P,N,Z,R⟩:=V.at_ U;exact⟨B,z,D,u,E,C,A,G,rfl,c,(d.cell (p:=⟨B,z+j*4,none⟩) c).trans P,(d.cell (p:=⟨B,z+j*4+1,none⟩) c).trans N,(d.cell (p:=⟨B,z+j*4+2,none⟩) c).trans Z,(d.cell (p:=⟨B,z+j*4+3,none⟩) c).trans R,fun F h=>ih _ (za U) F _ _ _ _ ((hq.grow d).grow h)⟩
 have Hlm:=zh f;have Hkid:=zh i;have s:=V.wn;have af:m≤8796093021952:=jo;have Fin:=zh (BL k nm ws l);have Hms:=zh (yU l);have Hmt:=zh (yT l);clear hQ V O L i ih;by_cases t:32<n
 ·have H:(32:Int)<(n:Int):=jo;have Fin2:Hid (gy (.mk k nm ws l)=true):=zh (by rw[Fin.out,zO jo];rfl);clear f s t;go_enter func99,ntmps99;go_wp2;go_ret;exact⟨by rw[Fin2.out];first|done|rfl,a.out⟩
 have H:(n:Int)≤32:=jo;by_cases T:16<m
 ·have I:(16:Int)<(m:Int):=jo;have Fin2:Hid (gy (.mk k nm ws l)=true):=zh (by rw[Fin.out,zO (p:=16<ws.length) jo];simp);clear f s t T;go_enter func99,ntmps99;go_wp2;go_ret;exact⟨by rw[Fin2.out];first|done|rfl,a.out⟩
 have I:(m:Int)≤16:=jo;have Fin2:Hid (gy (.mk k nm ws l)=iT l):=zh (by rw[Fin.out,zN jo,zN jo];rfl);clear f s t T Fin hl6 hw6;go_enter func99,ntmps99;go_wp2_with fail;generalize aa:(w.alloc (.cells #[.int .i64 k,.string nm,.slice Y m wc,.slice M n W] 60))=g at *;clear aa;go_loopw [18] (fun v wr=>∃j:Nat,j≤n∧v=.int .i64 (j:Nat)∧Hid (iT (l.take j)=false)∧zWW g wr) (fun v _=>n-(intOf v).toNat)
 case atStart=>exact⟨0,zS _,rfl,zh rfl,zy _ _⟩
 obtain⟨j,U,rfl,hS,d⟩:=hrel;have X:=zh d;by_cases S:j<n
 ·have q:j<l.length:=by rw[Hlm.out];exact S
  have ab:(j:Int)<(n:Int):=jo;have ad:(0:Int)≤(j:Int):=jo;have J:zWW w wr:=a.out.trans (d.mono a.out.size);obtain⟨B,z,D,u,E,C,A,G,rfl,c,P,N,ae,R,cK⟩:=Hkid.out j q wr J;have r:=(zy wr.heap.size wr).alloc (zG _) (.cells #[.int .i64 l[j].kind,.string l[j].name,.slice D u E,.slice C A G] 60);have Hal:=zh r;have c1:=cK _ r;clear cK r;have Hmm:=zh (Hmt.out j q);have Hmx:=zh (Hms.out j q);clear d S J;generalize l[j]=y at *;generalize (y).kind=x0 at *;generalize (y).name=x1 at *;go_wp2_with fail;refine c1.mono ?_;rintro e F ⟨rfl,h⟩;have FinB:=zh ((X.out.trans (Hal.out.mono X.out.size)).trans (h.mono (zY X.out.size Hal.out.size)));clear h c1
  cases hy:gy y with
  | true=>
   have Fin3:Hid (gy (.mk k nm ws l)=true):=zh (by rw[Fin2.out];exact Hmx.out hy);clear hy Hmx Hmm;go_wp2;go_ret;exact⟨by rw[Fin3.out];first|done|rfl,a.out.trans (FinB.out.mono a.out.size)⟩
  | false=>
   have ac:Hid (iT (l.take (j+1))=false):=zh (by rw[Hmm.out,hS.out,hy];rfl);clear hy Hmx Hmm;go_wp2;go_roundw
   case rel=>exact⟨j+1,jo,ju,ac,FinB.out⟩
   simp[intOf];omega
 have ab:(n:Int)≤(j:Int):=jo;have e:n=j:=jo
 have Fin3:Hid (gy (.mk k nm ws l)=false):=zh (by
  rw[Fin2.out,←List.take_length (l:=l),Hlm.out,e];exact hS.out)
 clear d hS e;go_wp2;go_ret;exact⟨by rw[Fin3.out];first|done|rfl,a.out.trans (X.out.mono a.out.size)⟩
theorem Fh(k:Int)(nm:ByteArray)(ws:List ByteArray)(l:List Q)(K:Nat)(hK:K≤16777216)(hl6:l.length≤8796093021952)(hd:∀j,gG (l.take j)≤K)(ih:∀x∈l,pF 44 x):pF 44 (.mk k nm ws l):=by
 intro w a0 a1 a2 a3 hQ;obtain⟨S,m,wc,E,n,R,e,W⟩:=hQ.is;simp only[zQ,and_true]at e;obtain⟨rfl,rfl,rfl,rfl⟩:=e;have G:zWW w (w.alloc (.cells #[.int .i64 k,.string nm,.slice S m wc,.slice E n R] 60)):=zRR _;have C:=Blk.new w 60 #[.int .i64 k,.string nm,.slice S m wc,.slice E n R];have Z:w.heap.size<(w.alloc (.cells #[.int .i64 k,.string nm,.slice S m wc,.slice E n R] 60)).heap.size:=jz;have f:=zh G;have V:=zh C;have A:=W.lm;have ae:n≤8796093021952:=jo
 have i:∀j (P:j<l.length),∀g,zWW w g→∃b o L t N B u O,E=some ⟨b,o,none⟩∧b<w.heap.size ∧
   g.cell? ⟨b,o+j*4,none⟩=some (.int .i64 l[j].kind)∧g.cell? ⟨b,o+j*4+1,none⟩=some (.string l[j].name)∧g.cell? ⟨b,o+j*4+2,none⟩=some (.slice L t N)∧g.cell? ⟨b,o+j*4+3,none⟩=some (.slice B u O) ∧
   ∀s,zWW g s→Calls prog 44 #[.agg #[.int .i64 l[j].kind,.string l[j].name,.slice L t N,.slice B u O]] s fun e w'=>e=.returned (.int .i64 (gL l[j]:Nat))∧zWW s w':=by
  intro j P g c;obtain⟨r,q,L,t,N,B,u,O,rfl,a,hq,H,F,T,J⟩:=W.at_ P;exact⟨r,q,L,t,N,B,u,O,rfl,a,(c.cell (p:=⟨r,q+j*4,none⟩) a).trans H,(c.cell (p:=⟨r,q+j*4+1,none⟩) a).trans F,(c.cell (p:=⟨r,q+j*4+2,none⟩) a).trans T,(c.cell (p:=⟨r,q+j*4+3,none⟩) a).trans J,fun s h=>ih _ (za P) s _ _ _ _ ((hq.grow c).grow h)⟩
 have Hlm:=zh A;have Hkid:=zh i;have Fin:=zh (uH k nm ws l);have Hmt:=zh (xy l);have Hd:=zh hd;clear hQ W G C i ih A hl6 hd;go_enter func44,ntmps44;go_wp2_with fail;generalize aa:(w.alloc (.cells #[.int .i64 k,.string nm,.slice S m wc,.slice E n R] 60))=g at *;clear aa;go_loopw [3,4] (fun d v wr=>∃j:Nat,j≤n∧v=.int .i64 (j:Nat)∧d=.int .i64 (gG (l.take j):Nat)∧zWW g wr) (fun _ v _=>n-(intOf v).toNat)
 case atStart=>exact⟨0,zS _,rfl,rfl,zy _ _⟩
 obtain⟨j,P,rfl,rfl,c⟩:=hrel;have Hb:=zh c;have af:=Hd.out j;have U:=(c.cell (p:=⟨w.heap.size,3,none⟩) (by show w.heap.size < _;exact Z)).trans (V.out.cell 3);simp at U;by_cases M:j<n
 ·have D:j<l.length:=by rw[Hlm.out];exact M
  have Y:(j:Int)<(n:Int):=jo;have ab:(0:Int)≤(j:Int):=jo;have z:zWW w wr:=f.out.trans (c.mono f.out.size);obtain⟨r,q,L,t,N,B,u,O,rfl,a,H,F,ac,J,cK⟩:=Hkid.out j D wr z;have c1:=cK wr (zy _ _);clear cK;have Hmm:=zh (Hmt.out j D);have ad:gL l[j]≤K:=by have:=Hd.out (j+1);rw[Hmm.out]at this;omega
  clear c M z;generalize l[j]=y at *;generalize gL y=dy at *;generalize hD:gG (l.take j)=dl at *;generalize I:gG (l.take (j+1))=ag at *;have X:=zh I;clear hD I;generalize (y).kind=x0 at *;generalize (y).name=x1 at *;go_wp2_with fail;refine c1.mono ?_;rintro e s ⟨rfl,h⟩;have FinB:=zt Hb h;clear h c1;go_wp2_with fail;go_roundw
  case rel=>exact⟨j+1,jo,ju,by rw[X.out,Hmm.out];exact congrArg (Value.int .i64) jo,FinB.out⟩
  simp[intOf];omega
 have Y:(n:Int)≤(j:Int):=jo;have e:n=j:=jo
 have Fin3:Hid (gL (.mk k nm ws l)=gG (l.take j)+1):=zh (by
  rw[Fin.out,←e,←Hlm.out,List.take_length])
 clear c e;generalize gG (l.take j)=dl at *;go_wp2;go_ret;exact⟨nz (by rw[Fin3.out];omega),f.out.trans (Hb.out.mono f.out.size)⟩
theorem G9(k:Int)(nm:ByteArray)(ws:List ByteArray)(l:List Q)(K:Nat)(hK:K≤16777216)(hl6:l.length≤8796093021952)(hd:∀j,gG (l.take j)≤K)(ih:∀x∈l,pF 100 x):pF 100 (.mk k nm ws l):=by
 intro w a0 a1 a2 a3 hQ;obtain⟨U,m,wc,I,n,S,e,W⟩:=hQ.is;simp only[zQ,and_true]at e;obtain⟨rfl,rfl,rfl,rfl⟩:=e;have L:zWW w (w.alloc (.cells #[.int .i64 k,.string nm,.slice U m wc,.slice I n S] 60)):=zRR _;have G:=Blk.new w 60 #[.int .i64 k,.string nm,.slice U m wc,.slice I n S];have ah:w.heap.size<(w.alloc (.cells #[.int .i64 k,.string nm,.slice U m wc,.slice I n S] 60)).heap.size:=jz;have f:=zh L;have ac:=zh G;have F:=W.lm;have ae:n≤8796093021952:=jo
 have i:∀j (R:j<l.length),∀g,zWW w g→∃b o A r B z t D,I=some ⟨b,o,none⟩∧b<w.heap.size ∧
   g.cell? ⟨b,o+j*4,none⟩=some (.int .i64 l[j].kind)∧g.cell? ⟨b,o+j*4+1,none⟩=some (.string l[j].name)∧g.cell? ⟨b,o+j*4+2,none⟩=some (.slice A r B)∧g.cell? ⟨b,o+j*4+3,none⟩=some (.slice z t D) ∧
   ∀C,zWW g C→Calls prog 100 #[.agg #[.int .i64 l[j].kind,.string l[j].name,.slice A r B,.slice z t D]] C fun e w'=>e=.returned (.int .i64 (gL l[j]:Nat))∧zWW C w':=by
  intro j R g c;obtain⟨u,s,A,r,B,z,t,D,rfl,a,hq,M,J,V,O⟩:=W.at_ R;exact⟨u,s,A,r,B,z,t,D,rfl,a,(c.cell (p:=⟨u,s+j*4,none⟩) a).trans M,(c.cell (p:=⟨u,s+j*4+1,none⟩) a).trans J,(c.cell (p:=⟨u,s+j*4+2,none⟩) a).trans V,(c.cell (p:=⟨u,s+j*4+3,none⟩) a).trans O,fun C h=>ih _ (za R) C _ _ _ _ ((hq.grow c).grow h)⟩
 have Hlm:=zh F;have Hkid:=zh i;have Fin:=zh (uH k nm ws l);have Hmt:=zh (xy l);have Hd:=zh hd;clear hQ W L G i ih F hl6 hd;go_enter func100,ntmps100;go_wp2_with fail;generalize Z:(w.alloc (.cells #[.int .i64 k,.string nm,.slice U m wc,.slice I n S] 60))=g at *;clear Z;go_loopw [3,9] (fun d v wr=>∃j:Nat,j≤n∧v=.int .i64 (j:Nat)∧d=.int .i64 (gG (l.take j):Nat)∧zWW g wr) (fun _ v _=>n-(intOf v).toNat)
 case atStart=>exact⟨0,zS _,rfl,rfl,zy _ _⟩
 obtain⟨j,R,rfl,rfl,c⟩:=hrel;have T:=zh c;have af:=Hd.out j;by_cases P:j<n
 ·have H:j<l.length:=by rw[Hlm.out];exact P
  have Y:(j:Int)<(n:Int):=jo;have aa:(0:Int)≤(j:Int):=jo;have E:zWW w wr:=f.out.trans (c.mono f.out.size);obtain⟨u,s,A,r,B,z,t,D,rfl,a,M,J,ab,O,cK⟩:=Hkid.out j H wr E;have q:=(zy wr.heap.size wr).alloc (zG _) (.cells #[.int .i64 l[j].kind,.string l[j].name,.slice A r B,.slice z t D] 60);have Hal:=zh q;have c1:=cK _ q;clear cK q;have Hmm:=zh (Hmt.out j H);have ad:gL l[j]≤K:=by have:=Hd.out (j+1);rw[Hmm.out]at this;omega
  clear c P E;generalize l[j]=y at *;generalize gL y=dy at *;generalize hD:gG (l.take j)=dl at *;generalize N:gG (l.take (j+1))=ag at *;have X:=zh N;clear hD N;generalize (y).kind=x0 at *;generalize (y).name=x1 at *;go_wp2_with fail;refine c1.mono ?_;rintro e C ⟨rfl,h⟩;have FinB:=zh ((T.out.trans (Hal.out.mono T.out.size)).trans (h.mono (zY T.out.size Hal.out.size)));clear h c1;go_wp2_with fail;go_roundw
  case rel=>exact⟨j+1,jo,ju,by rw[X.out,Hmm.out];exact congrArg (Value.int .i64) jo,FinB.out⟩
  simp[intOf];omega
 have Y:(n:Int)≤(j:Int):=jo;have e:n=j:=jo
 have Fin3:Hid (gL (.mk k nm ws l)=gG (l.take j)+1):=zh (by
  rw[Fin.out,←e,←Hlm.out,List.take_length])
 clear c e;generalize gG (l.take j)=dl at *;go_wp2;go_ret;exact⟨nz (by rw[Fin3.out];omega),f.out.trans (T.out.mono f.out.size)⟩
theorem AV(l:List Q)(K:Nat)(h:∀x∈l,QW K x)(j:Nat):gG (l.take j)≤K:=by
 have:∀a:List Q,(∀x∈a,gL x≤K)→gG a≤K:=by
  intro a
  induction a with
  | nil=>intro _;simp[gG]
  | cons q a ih2=>
   intro h;rw[gG];have:=h q jz;have:=ih2 (fun x b=>h x (by simp[b]));omega
 exact this _ fun x b=>(h x (List.mem_of_mem_take b)).depth
theorem JZ{K:Nat}{q:Q}(h:QW K q):o6 43 q:=by
 induction h with
 | mk h1 h2 h3 ih=>exact G8 _ _ _ _ h2 h1 ih
theorem LD{K:Nat}{q:Q}(h:QW K q):o6 99 q:=by
 induction h with
 | mk h1 h2 h3 ih=>exact JY _ _ _ _ h2 h1 ih
theorem HV{K:Nat}{q:Q}(h:QW K q):K≤16777216→pF 44 q:=by
 induction h with
 | mk h1 h2 h3 ih=>intro hK;exact Fh _ _ _ _ _ jo h2 (AV _ _ h3) fun x a=>ih x a jo
theorem Ja{K:Nat}{q:Q}(h:QW K q):K≤16777216→pF 100 q:=by
 induction h with
 | mk h1 h2 h3 ih=>intro hK;exact G9 _ _ _ _ _ jo h2 (AV _ _ h3) fun x a=>ih x a jo
end Qp

namespace Qp
open Go.RowKit Ut Tk Qy
theorem EQ(l:P)(h:l.head?=some 40∨l.head?=some 41):fL l=1:=by unfold fL;rw[zI h]
theorem ER(l:P)(h:l.head?=some 34):fL l=fw l:=by unfold fL;rw[zH (by rw[h];simp),zI h]
theorem ES(l:P)(h0:l.head?≠some 40)(h1:l.head?≠some 41)(h2:l.head?≠some 34)(k:Nat)(hk:gB l=k):fL l =
  if l[k]?=some 34∧l[k-1]?=some 58 then(if fw (l.drop k)=0 then 0 else k+fw (l.drop k))else k:=by
 subst hk;unfold fL;rw[zH (by rintro(h|h);exact h0 h;exact h1 h),zH h2]
theorem Fs(s:ByteArray)(w:World)(hs:s.size≤1048576):Calls prog 41 #[.string s] w (Bn w (fI s.data.toList)):=by
 obtain⟨i0,H,I,J,F⟩:=info_parts qx;go_enter func41,ntmps41;go_wp2_with fail;go_loopw [4,5] (fun v i wr=>∃(a:Nat) (f:List P),a≤s.size∧i=.int .i64 (a:Int)∧Hid (fI s.data.toList=(fI (s.data.toList.drop a)).map (f ++ ·))∧f.length≤a∧Strs w wr v f) (fun _ i _=>s.size-(intOf i).toNat)
 case atStart=>exact⟨0,[],zS _,rfl,zh jz,zG _,⟨vO _ _ _ _,zy _ _⟩⟩
 obtain⟨a,f,ha,rfl,d,ao,hT⟩:=hrel;have k:=zh hT;clear hT;have al:(0:Int)≤(a:Int):=jo;by_cases ab:a<s.size
 ·have hd:s.data.toList.drop a=s[a]::s.data.toList.drop (a+1):=zf (by rw[fB];exact ab);have T:(s.data.toList.drop a).head?=some s[a]:=by rw[hd];rfl
  have u0:=gu s[a] 32;have u1:=gu s[a] 9;have u2:=gu s[a] 40;have u3:=gu s[a] 41;have u4:=gu s[a] 34;simp only[show (UInt8.toNat 34:Int)=34 from rfl,show (UInt8.toNat 41:Int)=41 from rfl,show (UInt8.toNat 40:Int)=40 from rfl,show (UInt8.toNat 32:Int)=32 from rfl,show (UInt8.toNat 9:Int)=9 from rfl]at u0 u1 u2 u3 u4;have S:il s[a]=(s[a]==32 || s[a]==9):=rfl;by_cases hb:il s[a]=true
  ·have G:Hid (fI s.data.toList=(fI (s.data.toList.drop (a+1))).map (f ++ ·)):=zh (by rw[d.out,hd,qV _ _ hb])
   have aa:((s[a].toNat:Int)==32)=true∨(((s[a].toNat:Int)==32)=false∧((s[a].toNat:Int)==9)=true):=by
    rw[u0,u1];rw[S]at hb
    cases h9:s[a]==32 with
    | true=>exact .inl rfl
    | false=>rw[h9]at hb;exact .inr ⟨rfl,by simpa using hb⟩
   clear hd T u0 u1 u2 u3 u4 S hb d;rcases aa with t0|⟨t0,t1⟩
   all_goals
    go_wp2_with fail;go_roundw
    case rel=>exact⟨a+1,f,jo,ju,G,jo,k.out⟩
    simp[intOf];omega
  have z:il s[a]=false:=by simpa using hb
  have t0:((s[a].toNat:Int)==32)=false:=by
   rw[u0];rw[S]at z;simp only[Bool.or_eq_false_iff]at z;exact z.1
  have t1:((s[a].toNat:Int)==9)=false:=by
   rw[u1];rw[S]at z;simp only[Bool.or_eq_false_iff]at z;exact z.2
  have Hpn:Hid (fI (s.data.toList.drop a)=if fL (s.data.toList.drop a)=0 then none else(fI ((s.data.toList.drop a).drop (fL (s.data.toList.drop a)))).map (fun l=>(s.data.toList.drop a).take (fL (s.data.toList.drop a))::l)):=zh (by
   have:=qX s[a] (s.data.toList.drop (a+1)) z;rw[←hd]at this
   exact this)
  have C:=uE (s.data.toList.drop a);rw[zP,fB]at C;have o:=yY s a wr ab hs;clear hd S hb z;by_cases hp:s[a]=40∨s[a]=41
  ·have e1:=EQ (s.data.toList.drop a) (by rw[T];rcases hp with h|h<;>simp[h])
   have ah:((s[a].toNat:Int)==40)=true∨(((s[a].toNat:Int)==40)=false∧((s[a].toNat:Int)==41)=true):=by
    rw[u2,u3];by_cases h:s[a]=40
    ·exact .inl (beq_iff_eq.2 h)
    refine .inr ⟨zM.2 h,beq_iff_eq.2 (hp.resolve_left h)⟩
   rw[e1]at Hpn C;clear e1 T u0 u1 u2 u3 u4 hp o;obtain⟨n,N⟩:∃n:Nat,n=1:=⟨1,rfl⟩;rw[←N]at Hpn C;have A:a+n=a+1:=jo;have e8:((a+1:Nat):Int)=(a:Int)+1:=jo;have h9:(a:Int)+1≤(s.size:Int):=jo
   have R:Hid (s.extract a (a+1)=str ((s.data.toList.drop a).take n)):=zh (by
    rw[←kQ (s.extract a (a+1)),Lib.extract_data,show (a+1)-a=n from by omega])
   have G:Hid (fI s.data.toList=(fI (s.data.toList.drop (a+1))).map ((f ++ [(s.data.toList.drop a).take n]) ++ ·)):=zh (by
    rw[d.out,Hpn.out,zH jo,List.drop_drop,←A,Option.map_map];congr 1
    funext l
    simp)
   have c:=k.out.own;have O:=k.out.bel.size;clear Hpn d A;generalize (s.data.toList.drop a).take n=x at *;rcases ah with t2|⟨t2,t3⟩
   all_goals
    go_wp2_with (first
     | (at_builtin;refine vJ _ rfl _ _ 57 rfl w.heap.size 9 i0 _ 1 16 underlying57 H I J F rfl jd _ _ _ rfl (c.alloc _) ⟨wr.heap.size,0,none⟩ 1 1 [.string (s.extract a (a+1))] rfl rfl (vH (cs:=#[.string (s.extract a (a+1))]) (t:=9) (fr:=(0,0)) (vK wr _)) (fun u B=>by simp at B;subst B;rfl) jx jo jm ?_))
    intro v' w5 b g _;rw[R.out]at b;have j:=zh ((k.out.below (zRR _)).put b g);clear b g c;go_wp2_with fail;go_roundw
    case rel=>exact⟨a+1,f ++ [x],jo,ju,G,by rw[zJ,zm];omega,j.out⟩
    simp[intOf];omega
  have X:¬s[a]=40:=fun h=>hp (.inl h)
  have Y:¬s[a]=41:=fun h=>hp (.inr h)
  have t2:((s[a].toNat:Int)==40)=false:=by rw[u2];exact zM.2 X
  have t3:((s[a].toNat:Int)==41)=false:=by rw[u3];exact zM.2 Y
  by_cases hq:s[a]=34
  ·have t4:((s[a].toNat:Int)==34)=true:=by rw[u4];exact beq_iff_eq.2 hq
   have e1:=ER (s.data.toList.drop a) (by rw[T,hq]);rw[e1]at Hpn C;clear e1 T u0 u1 u2 u3 u4 hp hq X Y;generalize fw (s.data.toList.drop a)=n at *;by_cases N:n=0
   ·subst N;have Fin:Hid (fI s.data.toList=none):=zh (by rw[d.out,Hpn.out,zI rfl];rfl);rw[wP]at o;clear Hpn d;go_wp2_with (go_at_call 77;refine o.mono ?_;rintro e W ⟨rfl,rfl⟩);go_ret2;exact(by rw[Fin.out];exact⟨rfl,k.out.bel⟩)
   rw[vk _ _ N]at o;have A:a+n=a+n:=rfl;have h9:((a+n:Nat):Int)≤(s.size:Int):=jo;have h8:(0:Int)≤((a+n:Nat):Int):=jo;have h7:(a:Int)≤((a+n:Nat):Int):=jo
   have R:Hid (s.extract a (a+n)=str ((s.data.toList.drop a).take n)):=zh (by
    rw[←kQ (s.extract a (a+n)),Lib.extract_data,show (a+n)-a=n from by omega])
   have G:Hid (fI s.data.toList=(fI (s.data.toList.drop (a+n))).map ((f ++ [(s.data.toList.drop a).take n]) ++ ·)):=zh (by
    rw[d.out,Hpn.out,zH jo,List.drop_drop,←A,Option.map_map];congr 1
    funext l
    simp)
   have c:=k.out.own;have O:=k.out.bel.size;clear Hpn d A;generalize (s.data.toList.drop a).take n=x at *
   go_wp2_with (first
    | (go_at_call 77;refine o.mono ?_;rintro e W ⟨rfl,rfl⟩)
    | (at_builtin;refine vJ _ rfl _ _ 57 rfl w.heap.size 9 i0 _ 1 16 underlying57 H I J F rfl jd _ _ _ rfl (c.alloc _) ⟨wr.heap.size,0,none⟩ 1 1 [.string (s.extract a (a+n))] rfl rfl (vH (cs:=#[.string (s.extract a (a+n))]) (t:=9) (fr:=(0,0)) (vK wr _)) (fun u B=>by simp at B;subst B;rfl) jx jo jm ?_))
   intro v' w5 b g _;rw[R.out]at b;have j:=zh ((k.out.below (zRR _)).put b g);clear b g c;go_wp2_with fail;go_roundw
   case rel=>exact⟨a+n,f ++ [x],jo,ju,G,by rw[zJ,zm];omega,j.out⟩
   simp[intOf];omega
  have t4:((s[a].toNat:Int)==34)=false:=by rw[u4];exact zM.2 hq
  have E3:=zh (ES (s.data.toList.drop a) (by rw[T];simpa using X) (by rw[T];simpa using Y) (by rw[T];simpa using hq));have U:(s.data.toList.drop a)[0]?=some s[a]:=by rw[←T];cases s.data.toList.drop a<;>rfl
  have He:iJ s[a]=false:=by
   have ag:(s[a]==32)=false:=by rw[←u0];exact t0
   have aa:(s[a]==9)=false:=by rw[←u1];exact t1
   have aj:(s[a]==40)=false:=by rw[←u2];exact t2
   have ai:(s[a]==41)=false:=by rw[←u3];exact t3
   have ac:(s[a]==34)=false:=by rw[←u4];exact t4
   unfold iJ;rw[ag,aa,aj,ai,ac];rfl
  have E:Hid (∀x∈(s.data.toList.drop a).take (a+1-a),iJ x=false):=zh (by
   rw[show a+1-a=1 by omega]
   cases hl:s.data.toList.drop a with
   | nil=>simp
   | cons x l=>
    rw[hl]at U;simp only[zB,Option.some.injEq]at U;intro y hy;simp only[zX,List.take_zero,List.mem_singleton]at hy
    rw[hy,U];exact He)
  have Hend:=zh (pV iJ (s.data.toList.drop a));clear U He T u0 u1 u2 u3 u4 hp hq X Y o C;go_wp2_with fail;go_loopw [7] (fun e wi=>∃m:Nat,a≤m∧m+1≤s.size∧e=.int .i64 ((m+1:Nat):Int)∧wr=wi∧Hid (∀x∈(s.data.toList.drop a).take (m+1-a),iJ x=false)) (fun e _=>s.size-(intOf e).toNat)
  case atStart=>exact⟨a,zG _,jo,ju,rfl,E⟩
  obtain⟨m,an,hm,rfl,rfl,p⟩:=hrel;have ak:(0:Int)≤(m:Int):=jo;have e8:((m+1:Nat):Int)=(m:Int)+1:=jo;by_cases hk:m+1<s.size
  ·have M:m+1-a<(s.data.toList.drop a).length:=by rw[zP,fB];omega
   have V:(s.data.toList.drop a)[m+1-a]?=some s[m+1]:=by
    rw[List.getElem?_drop,show a+(m+1-a)=m+1 by omega];exact lZ s _ hk
   have L:(s.data.toList.drop a)[m+1-a]=s[m+1]:=by
    have:=zU M;rw[V]at this;injection this with this;exact this.symm
   have u5:=gu s[m+1] 34;rw[show (UInt8.toNat 34:Int)=34 from rfl]at u5;by_cases he:iJ s[m+1]=true
   ·have Z:Hid (gB (s.data.toList.drop a)=m+1-a):=zh (Hend.out _ p.out jo (fun _=>by rw[L];exact he));have ae:m<s.size:=jo
    have g2:(s.data.toList.drop a)[m+1-a-1]?=some s[m]:=by
     rw[List.getElem?_drop,show a+(m+1-a-1)=m by omega];exact lZ s _ ae
    have u6:=gu s[m] 58;rw[show (UInt8.toNat 58:Int)=58 from rfl]at u6;have D:=E3.out _ Z.out;rw[V,g2,List.drop_drop,show a+(m+1-a)=m+1 by omega]at D;by_cases q:s[m+1]=34
    ·have t5:((s[m+1].toNat:Int)==34)=true:=by rw[u5];exact beq_iff_eq.2 q
     by_cases q2:s[m]=58
     ·have t6:((s[m].toNat:Int)==58)=true:=by rw[u6];exact beq_iff_eq.2 q2
      have o:=yY s (m+1) wr hk hs;have C:=qg (s.data.toList.drop (m+1));rw[zP,fB]at C;rw[zI ⟨by rw[q],by rw[q2]⟩]at D;rw[D]at Hpn;clear D V g2 L M u5 u6 q q2 Z p Hend E3 E;generalize fw (s.data.toList.drop (m+1))=r at *;by_cases hr:r=0
      ·subst hr;have Fin:Hid (fI s.data.toList=none):=zh (by rw[d.out,Hpn.out,zI rfl,zI rfl];rfl);rw[wP]at o;clear Hpn d
       go_wp2_with (first
        | (go_at_call 78;refine(oQ s[m+1] _).mono ?_;rintro e W ⟨rfl,rfl⟩)
        | (go_at_call 77;refine o.mono ?_;rintro e W ⟨rfl,rfl⟩))
       go_ret2;exact(by rw[Fin.out];exact⟨rfl,k.out.bel⟩)
      rw[vk _ _ hr]at o;rw[zH hr]at Hpn;obtain⟨n,N⟩:∃n:Nat,n=m+1-a+r:=⟨_,rfl⟩;rw[←N]at Hpn;have A:a+n=m+1+r:=jo;have h9:((m+1+r:Nat):Int)≤(s.size:Int):=jo;have h8:(0:Int)≤((m+1+r:Nat):Int):=jo;have h7:(a:Int)≤((m+1+r:Nat):Int):=jo
      have R:Hid (s.extract a (m+1+r)=str ((s.data.toList.drop a).take n)):=zh (by
       rw[←kQ (s.extract a (m+1+r)),Lib.extract_data,show (m+1+r)-a=n from by omega])
      have G:Hid (fI s.data.toList=(fI (s.data.toList.drop (m+1+r))).map ((f ++ [(s.data.toList.drop a).take n]) ++ ·)):=zh (by
       rw[d.out,Hpn.out,zH jo,List.drop_drop,←A,Option.map_map];congr 1
       funext l
       simp)
      have c:=k.out.own;have O:=k.out.bel.size;clear Hpn d A;generalize (s.data.toList.drop a).take n=x at *
      go_wp2_with (first
       | (go_at_call 78;refine(oQ s[m+1] _).mono ?_;rintro e W ⟨rfl,rfl⟩)
       | (go_at_call 77;refine o.mono ?_;rintro e W ⟨rfl,rfl⟩)
       | (at_builtin;refine vJ _ rfl _ _ 57 rfl w.heap.size 9 i0 _ 1 16 underlying57 H I J F rfl jd _ _ _ rfl (c.alloc _) ⟨wr.heap.size,0,none⟩ 1 1 [.string (s.extract a (m+1+r))] rfl rfl (vH (cs:=#[.string (s.extract a (m+1+r))]) (t:=9) (fr:=(0,0)) (vK wr _)) (fun u B=>by simp at B;subst B;rfl) jx jo jm ?_))
      intro v' w5 b g _;rw[R.out]at b;have j:=zh ((k.out.below (zRR _)).put b g);clear b g c;go_wp2_with fail;go_roundw
      case rel=>exact⟨m+1+r,f ++ [x],jo,ju,G,by rw[zJ,zm];omega,j.out⟩
      simp[intOf];omega
     have t6:((s[m].toNat:Int)==58)=false:=by rw[u6];exact zM.2 q2
     rw[zH (by simp[q2])]at D;rw[D]at Hpn;clear D V g2 L M u5 u6 q q2 Z p Hend E3 E;obtain⟨n,N⟩:∃n:Nat,n=m+1-a:=⟨_,rfl⟩;rw[←N]at Hpn;have A:a+n=m+1:=jo
     have R:Hid (s.extract a (m+1)=str ((s.data.toList.drop a).take n)):=zh (by
      rw[←kQ (s.extract a (m+1)),Lib.extract_data,show (m+1)-a=n from by omega])
     have G:Hid (fI s.data.toList=(fI (s.data.toList.drop (m+1))).map ((f ++ [(s.data.toList.drop a).take n]) ++ ·)):=zh (by
      rw[d.out,Hpn.out,zH jo,List.drop_drop,←A,Option.map_map];congr 1
      funext l
      simp)
     have c:=k.out.own;have O:=k.out.bel.size;clear Hpn d A;generalize (s.data.toList.drop a).take n=x at *
     go_wp2_with (first
      | (go_at_call 78;refine(oQ s[m+1] _).mono ?_;rintro e W ⟨rfl,rfl⟩)
      | (at_builtin;refine vJ _ rfl _ _ 57 rfl w.heap.size 9 i0 _ 1 16 underlying57 H I J F rfl jd _ _ _ rfl (c.alloc _) ⟨wr.heap.size,0,none⟩ 1 1 [.string (s.extract a (m+1))] rfl rfl (vH (cs:=#[.string (s.extract a (m+1))]) (t:=9) (fr:=(0,0)) (vK wr _)) (fun u B=>by simp at B;subst B;rfl) jx jo jm ?_))
     intro v' w5 b g _;rw[R.out]at b;have j:=zh ((k.out.below (zRR _)).put b g);clear b g c;go_wp2_with fail;go_roundw
     case rel=>exact⟨m+1,f ++ [x],jo,ju,G,by rw[zJ,zm];omega,j.out⟩
     simp[intOf];omega
    have t5:((s[m+1].toNat:Int)==34)=false:=by rw[u5];exact zM.2 q
    rw[zH (by simp[q])]at D;rw[D]at Hpn;clear D V g2 L M u5 u6 q Z p Hend E3 E;obtain⟨n,N⟩:∃n:Nat,n=m+1-a:=⟨_,rfl⟩;rw[←N]at Hpn;have A:a+n=m+1:=jo
    have R:Hid (s.extract a (m+1)=str ((s.data.toList.drop a).take n)):=zh (by
     rw[←kQ (s.extract a (m+1)),Lib.extract_data,show (m+1)-a=n from by omega])
    have G:Hid (fI s.data.toList=(fI (s.data.toList.drop (m+1))).map ((f ++ [(s.data.toList.drop a).take n]) ++ ·)):=zh (by
     rw[d.out,Hpn.out,zH jo,List.drop_drop,←A,Option.map_map];congr 1
     funext l
     simp)
    have c:=k.out.own;have O:=k.out.bel.size;clear Hpn d A;generalize (s.data.toList.drop a).take n=x at *
    go_wp2_with (first
     | (go_at_call 78;refine(oQ s[m+1] _).mono ?_;rintro e W ⟨rfl,rfl⟩)
     | (at_builtin;refine vJ _ rfl _ _ 57 rfl w.heap.size 9 i0 _ 1 16 underlying57 H I J F rfl jd _ _ _ rfl (c.alloc _) ⟨wr.heap.size,0,none⟩ 1 1 [.string (s.extract a (m+1))] rfl rfl (vH (cs:=#[.string (s.extract a (m+1))]) (t:=9) (fr:=(0,0)) (vK wr _)) (fun u B=>by simp at B;subst B;rfl) jx jo jm ?_))
    intro v' w5 b g _;rw[R.out]at b;have j:=zh ((k.out.below (zRR _)).put b g);clear b g c;go_wp2_with fail;go_roundw
    case rel=>exact⟨m+1,f ++ [x],jo,ju,G,by rw[zJ,zm];omega,j.out⟩
    simp[intOf];omega
   have af:iJ s[m+1]=false:=by simpa using he
   have ad:Hid (∀x∈(s.data.toList.drop a).take (m+1+1-a),iJ x=false):=zh (fun x hx=>by
    rw[show m+1+1-a=(m+1-a)+1 by omega,zL M,List.mem_append]at hx;rcases hx with hx|hx
    ·exact p.out x hx
    rw[List.mem_singleton]at hx;rw[hx,L];exact af)
   clear p he V L M u5 Hend E3 E Hpn d;go_wp2_with (go_at_call 78;refine(oQ s[m+1] _).mono ?_;rintro e W ⟨rfl,rfl⟩);go_roundw
   case rel=>exact⟨m+1,jo,jo,ju,by first|rfl|trivial,ad⟩
   simp[intOf];omega
  have Z:Hid (gB (s.data.toList.drop a)=m+1-a):=zh (Hend.out _ p.out (by rw[zP,fB];omega) (fun h=>absurd h (by rw[zP,fB];omega)));have V:(s.data.toList.drop a)[m+1-a]?=none:=List.getElem?_eq_none (by rw[zP,fB];omega);have D:=E3.out _ Z.out;rw[V,zH jz]at D;rw[D]at Hpn;clear D V Z p Hend E3 E;have am:(s.size:Int)≤(m:Int)+1:=jo;obtain⟨n,N⟩:∃n:Nat,n=m+1-a:=⟨_,rfl⟩;rw[←N]at Hpn;have A:a+n=m+1:=jo
  have R:Hid (s.extract a (m+1)=str ((s.data.toList.drop a).take n)):=zh (by
   rw[←kQ (s.extract a (m+1)),Lib.extract_data,show (m+1)-a=n from by omega])
  have G:Hid (fI s.data.toList=(fI (s.data.toList.drop (m+1))).map ((f ++ [(s.data.toList.drop a).take n]) ++ ·)):=zh (by
   rw[d.out,Hpn.out,zH jo,List.drop_drop,←A,Option.map_map];congr 1
   funext l
   simp)
  have c:=k.out.own;have O:=k.out.bel.size;clear Hpn d A;generalize (s.data.toList.drop a).take n=x at *
  go_wp2_with (first
   | (go_at_call 78;refine(oQ s[m+1] _).mono ?_;rintro e W ⟨rfl,rfl⟩)
   | (at_builtin;refine vJ _ rfl _ _ 57 rfl w.heap.size 9 i0 _ 1 16 underlying57 H I J F rfl jd _ _ _ rfl (c.alloc _) ⟨wr.heap.size,0,none⟩ 1 1 [.string (s.extract a (m+1))] rfl rfl (vH (cs:=#[.string (s.extract a (m+1))]) (t:=9) (fr:=(0,0)) (vK wr _)) (fun u B=>by simp at B;subst B;rfl) jx jo jm ?_))
  intro v' w5 b g _;rw[R.out]at b;have j:=zh ((k.out.below (zRR _)).put b g);clear b g c;go_wp2_with fail;go_roundw
  case rel=>exact⟨m+1,f ++ [x],jo,ju,G,by rw[zJ,zm];omega,j.out⟩
  simp[intOf];omega
 obtain rfl:a=s.size:=jo;have Fin:Hid (fI s.data.toList=some f):=zh (by rw[d.out,List.drop_of_length_le (by rw[fB];omega),oO];simp);clear d;go_wp2_with fail;go_ret2;exact(by rw[Fin.out];exact⟨_,rfl,k.out.own,k.out.bel⟩)
end Qp
end Go.Proofs.YtmomjpolkkbhnaaGreat
