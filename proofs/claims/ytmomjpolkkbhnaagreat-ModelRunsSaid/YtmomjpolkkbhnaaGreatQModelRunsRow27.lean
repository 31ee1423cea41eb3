/- loggiaref17.Parse: the walk (printed by gen_qpv.py). -/
import Derived.Test.YtmomjpolkkbhnaaGreatQModelRunsRow26
import Derived.Test.YtmomjpolkkbhnaaGreatQModelRunsRow13
set_option linter.unusedSimpArgs false
set_option maxRecDepth 100000
set_option maxHeartbeats 100000000
open Go.Proofs.Tryz
namespace Go.Proofs.YtmomjpolkkbhnaaGreat
namespace Qp
open Go.RowKit Ut Tk Qy
theorem M0(L:List P)(hL:L.length≤1048576)(hpc:pE L):∀(n p:Nat),L.length-p≤n→p≤L.length→kS L p∧wu L p∧xG L p:=by
 have d:kS L L.length:=Jf L _ (zG _);intro n
 induction n with
 | zero=>
  intro p t g;obtain rfl:p=L.length:=jo
  have h:∀k,L.length≤k→k≤L.length→kS L k:=fun k a b=>by
   obtain rfl:k=L.length:=jo;exact d
  have f:=DF L _ hL (zG _) h
  exact⟨d,f,Dg L _ hL (zG _) fun k a b=>by
   obtain rfl:k=L.length:=jo
   exact f⟩
 | succ n ih=>
  intro p t g;by_cases e:p<L.length
  ·have j:=ih (p+1) jo jo;have m:=hpc L[p] (za e)
   have c:kS L p:=by
    by_cases l:L[p]=NOT
    ·exact Ht L p e hL l j.1
    by_cases r:L[p]=LP
    ·exact Ji L p e hL r j.2.2
    by_cases s:L[p]=RP
    ·exact Jg L p e hL s
    by_cases q:L[p]=AND
    ·exact Hr L p e hL q
    by_cases o:L[p]=OR
    ·exact Jh L p e hL o
    exact Fq L p e hL (by unfold oI;simp[l,r,s,q,o]) m.1 m.2
   have h:∀k,p≤k→k≤L.length→kS L k:=fun k a b=>by
    by_cases i:k=p
    ·subst i;exact c
    exact(ih k jo b).1
   have f:=DF L p hL g h
   exact⟨c,f,Dg L p hL g fun k a b=>by
    by_cases i:k=p
    ·subst i;exact f
    exact(ih k jo b).2.1⟩
  exact ih p jo g
theorem p9(s:ByteArray)(w:World):Calls prog 16 #[.string s] w (Br w s.data.toList):=by
 by_cases hs:1024<s.size
 ·have aD:(1024:Int)<(s.size:Int):=jo;have k:=zh (PrsR.long (s:=s.data.toList) (by rw[fB];exact hs));have hB:=Blk.new w 60 #[.int .i64 0,.string ⟨#[]⟩,.slice none 0 0,.slice none 0 0];have aF:=zh ((zy w.heap.size w).alloc (zG _) (.cells #[.int .i64 0,.string ⟨#[]⟩,.slice none 0 0,.slice none 0 0] 60));clear hs;go_enter func16,ntmps16;go_wp2_with fail;exact zw (iZ rfl rfl rfl hB) rfl ⟨2,none,_,_,_,_,k.out,rfl,lJ _ _,aF.out⟩
 have aD:(s.size:Int)≤1024:=jo;have aw:s.data.toList.length≤1024:=by rw[fB];omega
 have c0:=Fs s (w.alloc (.cells #[.int .i64 0,.string ByteArray.empty,.slice none 0 0,.slice none 0 0] 60)) jo;have aj:=uF s.data.toList.length s.data.toList;have al:=tF s.data.toList.length s.data.toList;have B1:=zh (Blk.new w 60 #[.int .i64 0,.string ByteArray.empty,.slice none 0 0,.slice none 0 0]);have Hb:=zh ((zy w.heap.size w).alloc (zG _) (.cells #[.int .i64 0,.string ByteArray.empty,.slice none 0 0,.slice none 0 0] 60));have Hz:=zh (show (w.alloc (.cells #[.int .i64 0,.string ByteArray.empty,.slice none 0 0,.slice none 0 0] 60)).heap.size=w.heap.size+1 by simp);have d:=zh aw;clear hs aw
 obtain⟨L,M,hL,W,o⟩:∃(L:List P) (M:Bool),L.length≤1024∧pE L∧((M=true∧fI s.data.toList=some L)∨(M=false∧L=[]∧fI s.data.toList=none)):=by
  cases h:fI s.data.toList with
  | none=>exact⟨[],false,jz,(fun x hx=>by cases hx),.inr ⟨rfl,rfl,rfl⟩⟩
  | some l=>exact⟨l,true,by have:=al l (zG _) h;have:=d.out;omega,(fun x hx=>by have:=aj l (zG _) h x hx;exact⟨this.1,by have:=this.2;have:=d.out;omega⟩),.inl ⟨rfl,rfl⟩⟩
 have ag:Calls prog 41 #[.string s] (w.alloc (.cells #[.int .i64 0,.string ByteArray.empty,.slice none 0 0,.slice none 0 0] 60)) fun e w3=>∃A c,e=.returned (.tuple #[.slice A L.length c,.bool M])∧Reads w3 w3.heap.size 1 A L.length (sv L)∧Below (w.alloc (.cells #[.int .i64 0,.string ByteArray.empty,.slice none 0 0,.slice none 0 0] 60)).heap.size (w.alloc (.cells #[.int .i64 0,.string ByteArray.empty,.slice none 0 0,.slice none 0 0] 60)) w3:=by
  refine c0.mono fun e w3 h=>?_
  rcases o with⟨rfl,hp⟩|⟨rfl,rfl,hp⟩
  ·rw[hp]at h;obtain⟨v,rfl,az,hb⟩:=h;obtain⟨A,c,rfl,hR⟩:=fT az;exact⟨A,c,rfl,hR,hb⟩
  rw[hp]at h;obtain⟨rfl,hb⟩:=h;exact⟨none,0,rfl,Reads.none_,hb⟩
 have Hokp:=zh o;have Hall:=zh W;clear c0 aj al o W;go_enter func16,ntmps16;go_wp2_with fail;refine ag.mono ?_;rintro e w1 ⟨A,c,rfl,ap,O⟩;have aL:w.heap.size+1≤w1.heap.size:=by have:=O.size;rw[Hz.out]at this;exact this
 have av:=zh (B1.out.below O (by rw[Hz.out];omega));have ah:=zh (Hb.out.trans (O.mono (by rw[Hz.out];omega)));have c1:=(M0 L jo Hall.out L.length 0 jo (zS _)).2.2 w1 A c ap;have aN:(L.length:Int)≤1024:=jo;clear ag ap O B1 Hb;go_wp2_with fail;refine Calls.mono (show Calls prog 42 #[.slice A L.length c,.int .i64 0] w1 (rZ w1 L (.or []) 0)from c1) ?_;rintro e V ⟨a0,a1,a2,a3,z,U,rfl,⟨S,a,R,I,G,E,J,N,e4⟩,hb,o',X,aA,T⟩;simp only[zQ,and_true]at e4;obtain⟨rfl,rfl,rfl,rfl⟩:=e4;rw[List.drop_zero]at X;have au:=hb.size;have Y:=(zy V.heap.size V).alloc (zG _) (.cells #[.int .i64 S,.string a,.slice R I G,.slice E J N,.int .i64 z,.bool U] 96);have ae:=hb.trans (Y.mono au);have g:=zh (av.out.below ae jo);have B:=zh (ah.out.trans (ae.mono jo));have ac:=zh (Blk.new V 96 #[.int .i64 S,.string a,.slice R I G,.slice E J N,.int .i64 z,.bool U]);have i:=zh X;have Hok:=zh aA;have Hres:=zh (fun q r h=>let ⟨f,h1,h2,h3,h4⟩:=T q r h;(⟨f,h1,h2,h3,h4.grow Y⟩:∃f:Nat,z=(f:Int)∧f≤L.length∧r=L.drop f∧QF (V.alloc (.cells #[.int .i64 S,.string a,.slice R I G,.slice E J N,.int .i64 z,.bool U] 96)) (fun b=>w1.heap.size≤b∧b<(V.alloc (.cells #[.int .i64 S,.string a,.slice R I G,.slice E J N,.int .i64 z,.bool U] 96)).heap.size) q [.int .i64 S,.string a,.slice R I G,.slice E J N]));have aI:V.heap.size<(V.alloc (.cells #[.int .i64 S,.string a,.slice R I G,.slice E J N,.int .i64 z,.bool U] 96)).heap.size:=jz;clear c1 hb Y ae X aA T av ah Hz
 go_upto_region 5 with(fail);generalize aB:V.alloc (.cells #[.int .i64 S,.string a,.slice R I G,.slice E J N,.int .i64 z,.bool U] 96)=w3 at *;clear aB;obtain⟨x0,x1,x2,x3,x4,x5,_,_,_,_,_,_⟩:=ac.out.six;rcases Hokp.out with⟨D,u⟩|⟨D,aG,u⟩
 case' inr=>
  have k:=zh (PrsR.noPieces d.out u);clear u Hokp Hres i Hok aG;subst D;obtain⟨q0,q1,q2,q3,f0,f1,f2,f3⟩:=g.out.four;have t:=zh (g.out.set4 (.int .i64 0) (.string ⟨#[]⟩) (.slice none 0 0) (.slice none 0 0));have Hbl:=zh (gY B.out (zG _) (.int .i64 0) (.string ⟨#[]⟩) (.slice none 0 0) (.slice none 0 0));go_wp2_with fail;exact zw (iZ rfl rfl rfl t.out) rfl ⟨170,none,_,_,_,_,k.out,rfl,lJ _ _,Hbl.out⟩
 case' inl=>
  have Hpp:=zh u;clear u Hokp;subst D
  match o',Hok,i,Hres with
  | none,Hok,i,Hres=>
   obtain rfl:U=false:=Hok.out;have k:=zh (PrsR.bad d.out Hpp.out i.out);clear Hok;obtain⟨q0,q1,q2,q3,f0,f1,f2,f3⟩:=g.out.four;have t:=zh (g.out.set4 (.int .i64 0) (.string ⟨#[]⟩) (.slice none 0 0) (.slice none 0 0));have Hbl:=zh (gY B.out (zG _) (.int .i64 0) (.string ⟨#[]⟩) (.slice none 0 0) (.slice none 0 0));go_wp2_with fail;exact zw (iZ rfl rfl rfl t.out) rfl ⟨170,none,_,_,_,_,k.out,rfl,lJ _ _,Hbl.out⟩
  | some (q,r),Hok,i,Hres=>
   obtain rfl:U=true:=Hok.out;obtain⟨f,rfl,aO,rfl,ay⟩:=Hres.out q r rfl;have aJ:(0:Int)≤(f:Int):=jo;have ad:=zh ay;clear Hres Hok ay;by_cases n:f=L.length
   case' neg=>
    have ao:((f:Int) != (L.length:Int))=true:=by rw[bne_iff_ne];omega
    have an:((f:Int)==(L.length:Int))=false:=by rw[zM];omega
    have aE:(f != L.length)=true:=by rw[bne_iff_ne];exact n
    have ax:(f==L.length)=false:=by rw[zM];exact n
    have k:=zh (PrsR.left d.out Hpp.out i.out (fun e=>by
     have:=congrArg List.length e;rw[zP]at this;simp at this
     omega))
    clear n;obtain⟨q0,q1,q2,q3,f0,f1,f2,f3⟩:=g.out.four;have t:=zh (g.out.set4 (.int .i64 0) (.string ⟨#[]⟩) (.slice none 0 0) (.slice none 0 0));have Hbl:=zh (gY B.out (zG _) (.int .i64 0) (.string ⟨#[]⟩) (.slice none 0 0) (.slice none 0 0));go_wp2_with fail;exact zw (iZ rfl rfl rfl t.out) rfl ⟨170,none,_,_,_,_,k.out,rfl,lJ _ _,Hbl.out⟩
   case' pos=>
    have am:L.drop f=[]:=List.drop_of_length_le jo;have j:=i.out;rw[am]at j;have y:=zh j;have ao:((f:Int) != (L.length:Int))=false:=by rw[bne_eq_false_iff_eq];omega
    have an:((f:Int)==(L.length:Int))=true:=by rw[beq_iff_eq];omega
    have aE:(f != L.length)=false:=by rw[bne_eq_false_iff_eq];exact n
    have ax:(f==L.length)=true:=by rw[beq_iff_eq];exact n
    obtain⟨K,hK,aa⟩:=vB j (fun x hx=>(Hall.out x hx).2) jo;have c8:=JZ aa w3 _ _ _ _ (ad.out.at_ fun b hS=>hS.2);have ar:=zh aa;have ak:w.heap.size<w3.heap.size:=jo;clear n am j i aa;go_wp2_with fail;refine c8.mono ?_;rintro e w8 ⟨rfl,m⟩;clear c8 x0 x1 x2 x3 x4 x5;have aK:=m.size;have F:=zh (g.out.below m ak);have C:=zh (ac.out.below m aI);have af:=zh (B.out.trans (m.mono jo));have Z:=zh (ad.out.grow m);clear m g ac B ad;obtain⟨x0,x1,x2,x3,x4,x5,_,_,_,_,_,_⟩:=C.out.six
    cases hmq:gy q with
    | true=>
     have k:=zh (PrsR.many d.out Hpp.out y.out hmq);clear hmq;obtain⟨q0,q1,q2,q3,f0,f1,f2,f3⟩:=F.out.four;have t:=zh (F.out.set4 (.int .i64 0) (.string ⟨#[]⟩) (.slice none 0 0) (.slice none 0 0));have Hbl:=zh (gY af.out (zG _) (.int .i64 0) (.string ⟨#[]⟩) (.slice none 0 0) (.slice none 0 0));go_wp2_with fail;exact zw (iZ rfl rfl rfl t.out) rfl ⟨3,none,_,_,_,_,k.out,rfl,lJ _ _,Hbl.out⟩
    | false=>
     have Hmq:=zh hmq;have c9:=HV ar.out hK w8 _ _ _ _ (Z.out.at_ fun b hS=>hS.2);have aM:gL q≤16777216:=zY ar.out.depth hK;clear hmq;go_wp2_with fail;refine c9.mono ?_;rintro e wd ⟨rfl,p⟩;clear c9 x0 x1 x2 x3 x4 x5;have H:=zh (F.out.below p jo);have aq:=zh (C.out.below p jo);have Hbd:=zh (af.out.trans (p.mono jo));have aH:=zh (Z.out.grow p);clear p F C af Z;obtain⟨x0,x1,x2,x3,x4,x5,_,_,_,_,_,_⟩:=aq.out.six;by_cases ab:16<gL q
     ·have ai:(16:Int)<(gL q:Int):=jo;have k:=zh (PrsR.deep d.out Hpp.out y.out Hmq.out ab);clear ab;generalize gL q=dq at *;obtain⟨q0,q1,q2,q3,f0,f1,f2,f3⟩:=H.out.four;have t:=zh (H.out.set4 (.int .i64 0) (.string ⟨#[]⟩) (.slice none 0 0) (.slice none 0 0));have Hbl:=zh (gY Hbd.out (zG _) (.int .i64 0) (.string ⟨#[]⟩) (.slice none 0 0) (.slice none 0 0));go_wp2_with fail;exact zw (iZ rfl rfl rfl t.out) rfl ⟨171,none,_,_,_,_,k.out,rfl,lJ _ _,Hbl.out⟩
     have ai:(gL q:Int)≤16:=jo;have k:=zh (PrsR.ok d.out Hpp.out y.out Hmq.out jo);have aC:=zh (kW (w:=w) aH.out (show w.heap.size<w1.heap.size by omega) (zG _));clear ab;generalize gL q=dq at *;obtain⟨q0,q1,q2,q3,f0,f1,f2,f3⟩:=H.out.four;have t:=zh (H.out.set4 (.int .i64 S) (.string a) (.slice R I G) (.slice E J N));have Hbl:=zh (gY Hbd.out (zG _) (.int .i64 S) (.string a) (.slice R I G) (.slice E J N));go_wp2_with fail;exact zw (iZ rfl rfl rfl t.out) rfl ⟨0,some q,_,_,_,_,k.out,rfl,aC.out,Hbl.out⟩
end Qp

namespace Cu
open Go.RowKit Cr Qp Qy
theorem DG(a:Int)(q:ByteArray)(w:World):Calls prog 120 #[.agg #[.int .i64 a,.string q]] w fun e w'=>e=.returned (.bool (nT a q))∧zWW w w':=by
 have m:=(zy w.heap.size w).alloc (zG _) (.cells #[.int .i64 a,.string q] 122);have l:=Blk.new w 122 #[.int .i64 a,.string q];have k:(w.alloc (.cells #[.int .i64 a,.string q] 122)).heap.size=w.heap.size+1:=jz;have F:=p9 q (w.alloc (.cells #[.int .i64 a,.string q] 122));generalize z:nT a q=b;have C:=zh z;have n:=zh m;have j:=zh l;have c:=zh k;clear z m l k;go_enter func120,ntmps120;go_wp2_with fail;refine F.mono ?_;rintro e N ⟨E,G,A,D,y,I,u,rfl,B,d⟩;have g:=(j.out.below d (by rw[c.out];omega)).alloc (.cells #[A,D,y,I] 60);have t:=d.size;have Hfin:=zh ((n.out.trans (d.mono (by rw[c.out];omega))).alloc (by have:=c.out;omega) (.cells #[A,D,y,I] 60));have p:=zh (C8 (a:=a) u);have s:=g.cell 0;have r:=g.cell 1;have M:w.heap.size<N.heap.size:=by have:=c.out;omega
 obtain⟨V,R,X,T,S,Y,J⟩:=B.four;simp only[zQ,and_true]at J;obtain⟨rfl,rfl,rfl,rfl⟩:=J;simp at s r;clear F u B d g t j n c;generalize (G.getD noQ).kind=W at *;generalize (G.getD noQ).name=U at *
 have f:Hid (∀x:Bool,(x=true↔(0≤a∧a≤1099511627776∧E=0))→x=b):=zh (fun x v=>by
  rw[←C.out];by_cases h:IsC a q
  ·rw[rC h];exact v.2 (p.out.1 h)
  rw[rJ h]
  cases x with
  | false=>rfl
  | true=>exact absurd (p.out.2 (v.1 rfl)) h)
 clear p C;by_cases L:0≤a
 ·by_cases H:a≤1099511627776
  ·by_cases o:E=0
   ·subst o;go_wp2;go_ret;exact⟨by rw[←f.out true (by simp[L,H])];rfl,Hfin.out⟩
   have O:(E==0)=false:=by rw[zM];exact o
   have i:=zh (f.out false (by simp[o]));clear o;go_wp2;go_ret;exact⟨by rw[←i.out];rfl,Hfin.out⟩
  have i:=zh (f.out false (by simp[H]));have P:1099511627776<a:=jo;go_wp2;go_ret;exact⟨by rw[←i.out];rfl,Hfin.out⟩
 have i:=zh (f.out false (by simp[L]));have P:a<0:=jo;go_wp2;go_ret;exact⟨by rw[←i.out];rfl,Hfin.out⟩
end Cu

namespace Cu
open Go.RowKit Cr Qp Qy
theorem AZ(a:Int)(q:ByteArray)(w:World)(h:¬IsC a q):Calls prog 69 #[.agg #[.int .i64 a,.string q]] w (BytesTo w [] 250):=by
 have b:=(zy w.heap.size w).alloc (zG _) (.cells #[.int .i64 a,.string q] 122);have d:=Bx a q (w.alloc (.cells #[.int .i64 a,.string q] 122));rw[rJ h]at d;have f:=zh b;clear b h;go_enter func69,ntmps69;go_wp2_with fail;refine d.mono ?_;rintro e i ⟨rfl,c⟩;have g:=zt f c;clear d c;go_wp2;go_ret2;exact⟨⟨_,rfl,vO _ _ _ _⟩,g.out⟩
theorem yZ(a:Int)(q:ByteArray)(w:World)(h:¬IsC a q):Calls prog 86 #[.agg #[.int .i64 a,.string q]] w (BytesTo w [] 250):=by
 have b:=(zy w.heap.size w).alloc (zG _) (.cells #[.int .i64 a,.string q] 122);have d:=DG a q (w.alloc (.cells #[.int .i64 a,.string q] 122));rw[rJ h]at d;have f:=zh b;clear b h;go_enter func86,ntmps86;go_wp2_with fail;refine d.mono ?_;rintro e i ⟨rfl,c⟩;have g:=zt f c;clear d c;go_wp2;go_ret2;exact⟨⟨_,rfl,vO _ _ _ _⟩,g.out⟩
def Jj(w:World)(L:List UInt8)(e:Ending)(w':World):Prop:=∃v,e=.returned v∧w'.ownsRow w.heap.size 5 1 v L.length (bv L)∧zWW w w'
theorem Aa(n s:Nat)(w:World)(hn:n≤1099511627776)(hs:s≤8):Calls prog 121 #[.int .i64 (n:Int),.int .i64 (s:Int)] w (Jj w (be s n)):=by
 obtain⟨L,o,p,r,m⟩:=info_parts ku;have H:(0:Int)≤(n:Int):=jo;have G:(n:Int)≤1099511627776:=jo;go_enter func121,ntmps121;go_wp2_with fail;go_loopw [5,6] (fun v i wr=>∃k:Nat,k≤s∧i=.int .i64 ((s:Int)-1-(k:Int))∧wr.ownsRow w.heap.size 5 1 v ((be s n).take k).length (bv ((be s n).take k))∧zWW w wr) (fun _ i _=>(intOf i+1).toNat)
 case atStart=>exact⟨0,zS _,jz,vO _ _ _ _,zy _ _⟩
 obtain⟨k,P,rfl,a,y⟩:=hrel;have D:=zh y;have q:=y.size;clear y;by_cases f:k<s
 ·have h:(0:Int)≤(s:Int)-1-(k:Int):=jo;have E:=vh n (8*(s-1-k));have I:Hid ((be s n).take (k+1)=(be s n).take k ++ [UInt8.ofNat (n/2 ^ (8*(s-1-k)))]):=zh (Bw s n k f);obtain⟨U,T,rfl,_⟩:=fT a;have Hown:=zh a;clear a;have c:(s:Int)-1-(k:Int)=((s-1-k:Nat):Int):=jo;rw[c];have R:s-1-k≤7:=jo;have J:Hid (s-1-(k+1)=s-1-k-1∧((s-1-k:Nat):Int)-1=(s:Int)-1-((k+1:Nat):Int)):=zh jo;have g:((be s n).take k).length≤8:=by rw[zK,iP];omega
  have N:Hid (k+1≤s):=zh f;clear c h hs f P;generalize s-1-k=j at *;generalize UInt8.ofNat (n/2 ^ (8*j))=x at *;generalize (be s n).take k=M at *;have Hln:=zh g;clear g;go_wp2_with (at_builtin;refine vJ _ rfl _ _ 30 rfl w.heap.size 5 L _ 1 1 underlying30 o p r m rfl jd _ _ _ rfl (Hown.out.alloc (.cells #[.int .u8 (x.toNat:Int)] 5)) ⟨wr.heap.size,0,none⟩ 1 1 [.int .u8 (x.toNat:Int)] rfl rfl ?d1 ?d2 ?d3 ?d4 ?d5 ?_)
  case d1=>exact vH (cs:=#[.int .u8 (x.toNat:Int)]) (t:=5) (fr:=(0,0)) (vK wr _)
  case d2=>intro u B;simp at B;subst B;rfl
  case d3=>unfold maxLen;have:=Hln.out;omega
  case d4=>have:=Hln.out;omega
  case d5=>simp;omega
  intro O A d l _;have F:Hid (zWW w A):=zh ((D.out.alloc q _).grown l jm (fun b e=>(Hown.out.lt b e).1));have S:Hid (A.ownsRow w.heap.size 5 1 O (M ++ [x]).length (bv (M ++ [x]))):=zh (by rw[zJ,wO];exact d);clear d l;go_wp2;go_roundw
  case rel=>exact⟨k+1,N.out,by rw[←J.out.2],by rw[I.out];exact S.out,F.out⟩
  simp[intOf]
 have z:(s:Int)-1-(k:Int)<0:=jo;have C:(be s n).take k=be s n:=zR (by rw[iP];omega);rw[C]at a;have Hown:=zh a;clear a C hs;go_wp2;go_ret;exact⟨_,rfl,Hown.out,D.out⟩
end Cu

namespace Cu
open Go.RowKit Cr Qp Qy Ph
section
variable {P:Program} {o:Oper} {a:Act} {w:World} {R:Value→World→Prop}
theorem xz(s x:Operand)(t:TypeId)(ho:o.op=.call { callee:=.builtin .append,args:=#[s,x],argTypes:=#[t,t] })
  (base:Nat) (e:TypeId) (i:TypeInfo) (z:Value) (size bytes:Nat) (ht:P.underlying t=some (.slice e)) (hi:P.info? e=some i) (hz:i.zero=some z)
  (hsize:i.size=size) (hby:i.bytes=bytes) (hzs:z.cells.size=size) (hsz:0<size)
  (v:Value) (n:Nat) (xs:List Value) (hs:a.eval s=v) (hown:w.ownsRow base e size v n xs)
  (ad:Addr) (m c:Nat) (news:List Value) (hx:a.eval x=.slice (some ad) m c) (hl:news.length=m*size) (hnews:∀j u,news[j]?=some u→w.cell? (ad.add j)=some u) (h1:∀u∈news,u.oneCell'=true)
  (h63:n+m≤maxLen) (hbytes:(n+m)*bytes≤140737488355328) (hbase:base≤w.heap.size)
  (h:∀v' w',w'.ownsRow base e size v' (n+m) (xs++news)→w.grownBy w' v.ownBlock→R v' w'):gT P Tr w R ((execOp a.eval o).run P w):=by
 obtain⟨v',w',f,d,b,_⟩:=run_append_own (P:=P) w base t o.type e i z size bytes ht hi hz hsize hby hzs hsz v n xs hown ad m c news hl hnews h1 h63 hbytes hbase;unfold execOp;simp only[ho,resolve,invoke,builtin,Sem.run_bind,Sem.run_pure,Result.andThen_ok,List.map_toArray,List.map_cons,List.map_nil,hs,hx,f];exact⟨trivial,h v' w' d b⟩
theorem Dx(sl x:Operand)(t u:TypeId)(ho:o.op=.call { callee:=.builtin .append,args:=#[sl,x],argTypes:=#[t,u] })
  (base:Nat) (e:TypeId) (i:TypeInfo) (ht:P.underlying t=some (.slice e)) (hu:P.underlying u=some .string) (hi:P.info? e=some i) (hz:i.zero=some (.int .u8 0))
  (hsize:i.size=1) (hby:i.bytes=1)
  (v:Value) (n:Nat) (xs:List Value) (hs:a.eval sl=v) (hown:w.ownsRow base e 1 v n xs) (s:ByteArray) (hx:a.eval x=.string s)
  (h63:n+s.size≤maxLen) (hbytes:n+s.size≤140737488355328) (hbase:base≤w.heap.size)
  (h:∀v' w',w'.ownsRow base e 1 v' (n+s.size) (xs++Lib.strCells s)→w.grownBy w' v.ownBlock→R v' w'):gT P Tr w R ((execOp a.eval o).run P w):=by
 obtain⟨v',w',d,c,b,_⟩:=Lib.run_append_own_string (P:=P) w base t u o.type e i ht hu hi hz hsize hby v n xs hown s h63 hbytes hbase;unfold execOp;simp only[ho,resolve,invoke,builtin,Sem.run_bind,Sem.run_pure,Result.andThen_ok,List.map_toArray,List.map_cons,List.map_nil,hs,hx,d];exact⟨trivial,h v' w' c b⟩
end
theorem BU{w:World}{base:Nat}{e:TypeId}{g n c:Nat}{L:List UInt8}(h:w.ownsRow base e 1 (.slice (some ⟨g,0,none⟩) n c) n (bv L)):∀j u,(bv L)[j]?=some u→w.cell? ((⟨g,0,none⟩:Addr).add j)=some u:=h.cells rfl
theorem wQ(L:List UInt8):∀u∈bv L,u.oneCell'=true:=by
 intro u b;obtain⟨c,_,rfl⟩:=List.mem_map.1 b;rfl
structure Two (w wx:World) (a:Int) (q:ByteArray) (v:Value) (M:List UInt8) (x:Value) (N:List UInt8):Prop where
 enc:Enc w wx a q v M
 row:wx.ownsRow (w.heap.size+1) 5 1 x N.length (bv N)
theorem yA(a:Nat)(q:ByteArray)(w:World)(h:IsC (a:Int) q):Calls prog 86 #[.agg #[.int .i64 (a:Int),.string q]] w (BytesTo w (enc a q.data.toList) 0):=by
 obtain⟨i0,r,u,y,p⟩:=info_parts ku;have E:=(zy w.heap.size w).alloc (zG _) (.cells #[.int .i64 (a:Int),.string q] 122);have S:=Blk.new w 122 #[.int .i64 (a:Int),.string q];have A:(w.alloc (.cells #[.int .i64 (a:Int),.string q] 122)).heap.size=w.heap.size+1:=jz;have c1:=DG (a:Int) q (w.alloc (.cells #[.int .i64 (a:Int),.string q] 122));rw[rC h]at c1;have hq:=h.short;have ha:(a:Int)≤1099511627776:=h.2.1;have Z:=zh E;have H:=zh S;have v:=zh A;clear E S A h;go_enter func86,ntmps86;go_wp2_with fail;refine c1.mono ?_;rintro e Y ⟨rfl,l⟩;have ac:w.heap.size+1≤Y.heap.size:=by have:=l.size;have:=v.out;omega
 have m:Enc w (Y.alloc (.cells #[.int .u8 76,.int .u8 67,.int .u8 1] 5)) (a:Int) q (.slice (some ⟨Y.heap.size,0,none⟩) 3 3) ([76,67,1]:List UInt8):=by
  refine⟨(H.out.below l (by rw[v.out];omega)).alloc _,?_,(Z.out.trans (l.mono (by rw[v.out];omega))).alloc jo _⟩;have:=World.ownsRow_lit (base:=w.heap.size+1) (e:=5) (size:=1) Y #[.int .u8 76,.int .u8 67,.int .u8 1] 3 ac jx rfl;exact this
 have O:=zh m;have W:=m.box.cell 0;have X:=m.box.cell 1;have ak:=m.box.lt;simp at W X;clear c1 l H Z v m;go_wp2_with fail;generalize af:Y.alloc (.cells #[.int .u8 76,.int .u8 67,.int .u8 1] 5)=w2 at *;clear af;have c2:=Aa a 8 w2 jo jo;refine c2.mono ?_;rintro e w3 ⟨v3,rfl,c,D⟩;have H3:=zh (O.out.below D);have ag:=H3.out.box.lt;rw[iP]at c;obtain⟨g3,q3,rfl⟩:=Joins.ownsRow_form c jo;have Hown3:=zh c;clear c2 D c O W X;go_wp2_with (at_builtin;refine vJ _ rfl _ _ 30 rfl (w.heap.size+1) 5 i0 _ 1 1 underlying30 r u y p rfl jd _ 3 _ rfl H3.out.own ⟨g3,0,none⟩ 8 q3 (bv (be 8 a)) rfl (by rw[ij,iP]) (BU Hown3.out) (wQ _) ?d3 ?d4 ?d5 ?_)
 case d3=>unfold maxLen;omega
 case d4=>omega
 case d5=>omega
 intro v4 w4 n V _;have T:=zh (H3.out.put (N:=be 8 a) (iP 8 a) n V);clear n V Hown3 H3;have I:([76,67,1]++be 8 a:List UInt8).length=11:=by rw[zJ,iP];rfl
 have z:pre a q.data.toList=([76,67,1]++be 8 a)++be 2 q.size++q.data.toList:=by
  unfold pre;rw[fB]
 have Hpre:=zh z;have Henc:Hid (enc a q.data.toList=pre a q.data.toList++le4 (crc (pre a q.data.toList))):=zh rfl;clear z;generalize ([76,67,1]++be 8 a:List UInt8)=M at *;have Hln:=zh I;clear I
 go_upto_region 4 with(fail)
 refine kK 9 (fF [(4,⟨Value,fun x=>x,fun x g=>Two w g (a:Int) q v4 M x (be 2 q.size)⟩),(5,⟨Value,fun x=>x,fun x g=>Enc w g (a:Int) q x (M++be 2 q.size)⟩),(8,⟨Value,fun x=>x,fun x g=>Enc w g (a:Int) q x (M++be 2 q.size++q.data.toList)⟩)])
  (fun g=>Blk g w.heap.size 122 #[.int .i64 (a:Int),.string q]) (fun g=>Enc w g (a:Int) q v4 M) jk jk (kN jk) T.out.box ⟨T.out.box,T.out.own,T.out.bel.drew⟩ ?_
 iterate 4
  refine ik _ ?_ rfl jr jr (fun g d=>?_) ?_;rotate_left
  ·have h0:=d.cell 0;have h1:=d.cell 1;simp at h0 h1;go_simp;all_goals with_reducible rfl
  try simp only[Act.put,zD,zE,zF]
 refine kw 5 _ rfl jr jr (fun g d k=>?_) (fun x=>?_)
 ·refine fZ (f:=?_) (args:=?_) ?_ ?_;rotate_left 2
  ·have h0:=d.cell 0;have h1:=d.cell 1;simp at h0 h1;go_simp;all_goals first|with_reducible rfl|(refine⟨?_,?_⟩<;>with_reducible rfl)
  refine(Aa q.size 2 g jo jo).mono ?_;rintro e G ⟨C,rfl,b,U⟩;exact⟨_,rfl,trivial,d.below U d.lt,C,rfl,k.below U,Joins.ownsRow_le b d.lt⟩
 rename Value=>x4
 try simp only[Act.put,zD,zE,zF]
 refine kw 6 _ rfl jr jr (fun g d k=>?_) (fun x=>?_)
 ·have j:=k.row;rw[iP]at j;obtain⟨g9,q9,ad⟩:=Joins.ownsRow_form j jo;have J:x4=.slice (some ⟨g9,0,none⟩) 2 q9:=ad;subst J;refine xz _ _ 30 rfl (w.heap.size+1) 5 i0 _ 1 1 underlying30 r u y p rfl jd v4 M.length (bv M) rfl k.enc.own ⟨g9,0,none⟩ 2 q9 (bv (be 2 q.size)) rfl (by rw[ij,iP]) (BU j) (wQ _) ?d3 ?d4 ?d5 ?_
  case d3=>unfold maxLen;have:=Hln.out;omega
  case d4=>have:=Hln.out;omega
  case d5=>have:=d.lt;omega
  intro C G b i;have hE:=k.enc.put (N:=be 2 q.size) (iP 2 _) b i;exact⟨hE.box,C,rfl,hE⟩
 rename Value=>x5
 try simp only[Act.put,zD,zE,zF]
 iterate 2
  refine ik _ ?_ rfl jr jr (fun g d=>?_) ?_;rotate_left
  ·have h0:=d.cell 0;have h1:=d.cell 1;simp at h0 h1;go_simp;all_goals with_reducible rfl
  try simp only[Act.put,zD,zE,zF]
 refine kw 9 _ rfl jr jr (fun g d k=>?_) (fun x=>?_)
 ·refine Dx _ _ 30 9 rfl (w.heap.size+1) 5 i0 underlying30 underlying9 r u y p x5 (M++be 2 q.size).length (bv (M++be 2 q.size)) rfl k.own q rfl ?d3 ?d4 ?d5 ?_
  case d3=>unfold maxLen;rw[zJ,iP];have:=Hln.out;omega
  case d4=>rw[zJ,iP];have:=Hln.out;omega
  case d5=>have:=d.lt;omega
  intro C G b i;have hE:=k.put (N:=q.data.toList) (fB q) b i;exact⟨hE.box,C,rfl,hE⟩
 rename Value=>x8
 try simp only[Act.put,zD,zE,zF]
 refine kT (fun w7 d k=>?_);have F:Hid (Enc w w7 (a:Int) q x8 (pre a q.data.toList)):=zh (by rw[Hpre.out];exact k);clear k d T;have ab:(pre a q.data.toList).length≤1037:=by rw[vE,fB];omega
 generalize pre a q.data.toList=L at *;have Hlp:=zh ab;obtain⟨A7,c7,rfl,aa⟩:=fT F.out.own;have ah:=F.out.box.lt;have c9:=o7 A7 L.length c7 L w7 aa jo;clear aa ab;go_wp2_with fail;refine c9.mono ?_;rintro e G ⟨rfl,rfl⟩;clear c9;have B:=Cy L;generalize ae:crc L=s at *;clear ae;have aj:(0:Int)≤(s:Int):=jo;have ai:=zh B;clear B;have E:=DC s;have l:=BQ s;have al:(s:Int)/65536%256=((UInt8.ofNat (s/65536)).toNat:Int):=by rw[u8n];omega
 have D:(s:Int)/16777216%256=((UInt8.ofNat (s/16777216)).toNat:Int):=by rw[u8n];omega
 have Hle:Hid (le4 s=[UInt8.ofNat s,UInt8.ofNat (s/256),UInt8.ofNat (s/65536),UInt8.ofNat (s/16777216)]):=zh rfl;generalize UInt8.ofNat s=y0 at *;generalize UInt8.ofNat (s/256)=y1 at *;generalize UInt8.ofNat (s/65536)=y2 at *;generalize UInt8.ofNat (s/16777216)=y3 at *;go_wp2_with (at_builtin;refine vJ _ rfl _ _ 30 rfl (w.heap.size+1) 5 i0 _ 1 1 underlying30 r u y p rfl jd _ _ _ rfl (F.out.own.alloc _) ⟨w7.heap.size,0,none⟩ 4 4 (bv [y0,y1,y2,y3]) rfl rfl ?d1 ?d2 ?d3 ?d4 ?d5 ?_)
 case d1=>exact vH (cs:=#[.int .u8 (y0.toNat:Int),.int .u8 (y1.toNat:Int),.int .u8 (y2.toNat:Int),.int .u8 (y3.toNat:Int)]) (t:=5) (fr:=(0,0)) (vK w7 _)
 case d2=>exact wQ _
 case d3=>unfold maxLen;have:=Hlp.out;omega
 case d4=>have:=Hlp.out;omega
 case d5=>simp;omega
 intro C G b i _;have H9:Hid (Enc w G (a:Int) q C (L ++ [y0,y1,y2,y3])):=zh ((F.out.alloc _).put (N:=[y0,y1,y2,y3]) rfl b i);rw[←Hle.out,←Henc.out]at H9;clear b i F;go_wp2;go_ret2;exact⟨⟨_,rfl,Joins.ownsRow_le H9.out.own jo⟩,H9.out.bel⟩
end Cu

namespace Cu
open Go.RowKit Qy Ph Ev
open Md (DOwnS)
structure Fos (S:Nat→Prop) (w wr:World) (a:Int) (q:ByteArray) (v:Value) (out:List Dc):Prop where
 box:Blk wr w.heap.size 122 #[.int .i64 a,.string q]
 res:Blk wr (w.heap.size+1) 122 #[.int .i64 0,.string ⟨#[]⟩]
 own:DOwnS wr w.heap.size S v out
 bel:zWW w wr
 elder:∀b,S b→b<w.heap.size
section
variable {S:Nat→Prop} {w wr w2:World} {a b:Int} {q:ByteArray} {v v':Value} {out:List Dc}
theorem Fos.below(h:Fos S w wr a q v out)(hb:zWW wr w2):Fos S w w2 a q v out:=⟨h.box.below hb h.box.lt,h.res.below hb h.res.lt,h.own.below hb (fun b c=>zT (h.elder b c) h.bel.size),h.bel.trans (hb.mono h.bel.size),h.elder⟩
theorem Fos.alloc(h:Fos S w wr a q v out)(o:Obj):Fos S w (wr.alloc o) a q v out:=h.below (zRR _)
theorem Fos.drew(h:Fos S w wr a q v out):Fos S w wr.drew a q v out:=h.below (zy _ _).drew
theorem wC(h:DOwnS wr w.heap.size S v out){g:Nat}{cs:Array Value}(hB:Blk wr g 122 cs)(hg:w.heap.size≤g)(hS:∀b,S b→b<w.heap.size)(o:Nat)(u:Value):DOwnS (wr.setCell ⟨g,o,none⟩ u) w.heap.size S v out:=by
 obtain⟨f,k,d,j⟩:=h.ex;exact h.same (fun b i=>vN wr ⟨g,o,none⟩ u b (fun e=>by have e:b=g:=e;subst e;exact absurd ((fO d i).one ⟨_,_,hB⟩) jd)) (fun b c=>⟨c,vN wr ⟨g,o,none⟩ u b (fun e=>by have:=hS b c;have e:b=g:=e;omega)⟩)
theorem Fos.after(h:Fos S w wr a q v out)(b:Int):Fos S w (wr.setCell ⟨w.heap.size,0,none⟩ (.int .i64 b)) b q v out:=
 ⟨by have:=h.box.set_ 0 (.int .i64 b);simpa using this,h.res.far jz _,wC h.own h.box (zG _) h.elder 0 _,h.bel.setCell (p:=⟨w.heap.size,0,none⟩) (zG _) _,h.elder⟩
theorem Fos.put{d:Dc}{u:List Value}{vss:List (List Value)}(h:Fos S w wr a q v out)(h1:vss.length=out.length)(h2:wr.ownsRow w.heap.size 48 3 v out.length vss.flatten)(h3:∀i (h:i<out.length) (h':i<vss.length),DcS wr S out[i] vss[i])
  (hp:w2.ownsRow w.heap.size 48 3 v' (out.length+1) (vss.flatten++u)) (hg:wr.grownBy w2 v.ownBlock) (hd:DcS wr S d u):Fos S w w2 a q v' (out ++ [d]):=by
 have f:∀(g:Nat) (t:TypeId) (l:Array Value),Blk wr g t l→t≠48→some g≠v.ownBlock:=fun g t l n m e=>m ((fO h2 e.symm).one ⟨_,_,n⟩).symm
 have c:∀g,v.ownBlock=some g→w.heap.size≤g:=fun g e=>(h2.lt g e).1
 refine⟨h.box.grown hg (f _ _ _ h.box jd),h.res.grown hg (f _ _ _ h.res jd),Md.Hw h1 h3 hd hp (fun b j=>hg.block b (zT (h.elder b j) h.bel.size) (fun e=>by have:=c b e.symm;have:=h.elder b j;omega)),h.bel.grown hg h.bel.size (fun k o=>c k o),h.elder⟩
theorem Fos.done(h:Fos S w wr a q v out):Blk ((wr.drew.setCell ⟨w.heap.size+1,0,none⟩ (.int .i64 a)).setCell ⟨w.heap.size+1,1,none⟩ (.string q)) (w.heap.size+1) 122 #[.int .i64 a,.string q] ∧
  DOwnS ((wr.drew.setCell ⟨w.heap.size+1,0,none⟩ (.int .i64 a)).setCell ⟨w.heap.size+1,1,none⟩ (.string q)) w.heap.size S v out ∧
  zWW w ((wr.drew.setCell ⟨w.heap.size+1,0,none⟩ (.int .i64 a)).setCell ⟨w.heap.size+1,1,none⟩ (.string q)):=by
 have c:=h.drew.res.set_ 0 (.int .i64 a);have d:=c.set_ 1 (.string q);refine⟨by simpa using d,wC (wC h.drew.own h.drew.res (zZ _) h.elder 0 _) c (zZ _) h.elder 1 _,(h.drew.bel.setCell (p:=⟨w.heap.size+1,0,none⟩) (zZ _) _).setCell (p:=⟨w.heap.size+1,1,none⟩) (zZ _) _⟩
end
def N9(S:Nat→Prop)(w:World)(p:List Dc × Int)(q:ByteArray)(e:Ending)(w':World):Prop:=∃v,e=.returned (.tuple #[v,.agg #[.int .i64 p.2,.string q]])∧DOwnS w' w.heap.size S v p.1∧zWW w w'
theorem Ac(S:Nat→Prop)(w:World)(hS:∀b,S b→b<w.heap.size)(a:Int)(q:ByteArray):Fos S w ((w.alloc (.cells #[.int .i64 a,.string q] 122)).alloc (.cells #[.int .i64 0,.string ⟨#[]⟩] 122)) a q (.slice none 0 0) []:=by
 have d:(w.alloc (.cells #[.int .i64 a,.string q] 122)).heap.size=w.heap.size+1:=jz;have c:=Blk.new (w.alloc (.cells #[.int .i64 a,.string q] 122)) 122 #[.int .i64 0,.string ⟨#[]⟩];rw[d]at c;have e:=(Blk.new w 122 #[.int .i64 a,.string q]).alloc (.cells #[.int .i64 0,.string ⟨#[]⟩] 122);have f:=((zy w.heap.size w).alloc (zG _) (.cells #[.int .i64 a,.string q] 122)).alloc jz (.cells #[.int .i64 0,.string ⟨#[]⟩] 122);exact⟨e,c,Md.DOwnS.start _ _ _,f,hS⟩
theorem Ft(a k l:Int)(q:ByteArray)(A:Option Addr)(n c:Nat)(ds:List Dc)(w:World)(Q S:Nat→Prop)(hD:DocsS w Q S A n ds)(hQ:∀b,Q b→b<w.heap.size)(hS:∀b,S b→b<w.heap.size)(hn:n≤1048576) :
  Calls prog 71 #[.agg #[.int .i64 a,.string q],.int .i64 k,.int .i64 l,.slice A n c] w (N9 S w (gV a k l ds) q):=by
 obtain⟨i0,aB,aC,aE,av⟩:=info_parts Qy.lU;have C:=zh (Ac S w hS a q);have G:=zh hD;have Hl:=zh hD.ln;clear hD;by_cases hl:l<1
 ·have Hfin:=zh (BS (a:=a) (k:=k) ds hl);go_enter func71,ntmps71
  go_upto_region 2 with(fail);generalize V:(w.alloc (.cells #[.int .i64 a,.string q] 122)).alloc (.cells #[.int .i64 0,.string ⟨#[]⟩] 122)=w2 at *;clear V;have r:=C.out.box.cell 0;have B:=C.out.box.cell 1;have I:=C.out.res.cell 0;have M:=C.out.res.cell 1;have af:=C.out.res.frozen 0;have ag:=C.out.res.frozen 1;simp at r B I M;have G:=zh C.out.done;refine kK 2 (fF []) (fun g=>g=w2.drew) (fun _=>True) jk jk (kN jk) rfl trivial ?_
  iterate 2
   refine ik _ ?_ rfl jr jr (fun g f=>?_) ?_;rotate_left
   ·subst f;go_simp;all_goals with_reducible rfl
   try simp only[Act.put,zD,zE,zF]
  refine kT (fun w9 f E=>?_);subst f;clear E;go_wp2;exact zw (nU rfl rfl rfl G.out.1) rfl (by rw[Hfin.out];exact⟨_,rfl,G.out.2.1,G.out.2.2⟩)
 have aJ:1≤l:=jo;go_enter func71,ntmps71;go_wp2_with fail;generalize V:(w.alloc (.cells #[.int .i64 a,.string q] 122)).alloc (.cells #[.int .i64 0,.string ⟨#[]⟩] 122)=w2 at *;clear V;go_loopw [10,11,21] (fun v m i wr=>∃j:Nat,j≤n∧i=.int .i64 (j:Int)∧m=.int .i64 (gU a (sel a k (ds.take j)))∧((sel a k (ds.take j)).length:Int)<l∧Fos S w wr a q v (sel a k (ds.take j))) (fun _ _ i _=>n-(intOf i).toNat)
 case atStart=>exact⟨0,zS _,rfl,rfl,by simp[sel];omega,by simpa[sel]using C.out⟩
 obtain⟨j,hj,rfl,rfl,z,H⟩:=hrel;have aI:(sel a k (ds.take j)).length≤1048576:=zY (B0 ..) (by rw[zK,Hl.out];omega);have r:=H.box.cell 0;have B:=H.box.cell 1;have ay:=H.box.lt;simp at r B;by_cases ax:j<n
 ·have Y:j<ds.length:=by rw[Hl.out];exact ax
  obtain⟨b,o,F,L,J,rfl,W,O,N,ab,hR,aj,aF,ao,aa⟩:=G.out.at_ Y;have O:=(H.bel.cell (p:=⟨b,o+j*3,none⟩) (hQ b W)).trans O;have N:=(H.bel.cell (p:=⟨b,o+j*3+1,none⟩) (hQ b W)).trans N;have ab:=(H.bel.cell (p:=⟨b,o+j*3+2,none⟩) (hQ b W)).trans ab;have Hyes:=zh (Bz a k ds j Y);have Hno:=zh (DI a k ds j Y);have Hstop:=zh (uZ (a:=a) (k:=k) (l:=l) (ds:=ds) (j+1) jo);have am:DcS w S ds[j] [.int .i64 ds[j].seq,.int .i64 ds[j].at_,.slice F L J]:=⟨F,L,J,rfl,hR,aj,aF,ao,aa⟩;have ac:=zh am;clear hR aj am;generalize ar:ds[j]=d at *;clear ar;obtain⟨s,at_,fs⟩:=d
  dsimp only at O N ac Hyes Hno
  have X:=zh (H.alloc (.cells #[.int .i64 s,.int .i64 at_,.slice F L J] 48));have Hdp:=zh (Blk.new wr 48 #[.int .i64 s,.int .i64 at_,.slice F L J])
  have Hrow:Hid (some wr.heap.size≠u10.ownBlock):=zh (fun e=>by
   obtain⟨an,_,T,_⟩:=H.own.ex;have:=(T.lt _ e.symm).2
   omega)
  have ai:=(World.cell?_alloc_lt wr (.cells #[.int .i64 s,.int .i64 at_,.slice F L J] 48) ⟨w.heap.size,0,none⟩ ay).trans r;clear H;by_cases h1:a<s
  ·by_cases h2:s≤k
   ·have ae:¬s≤a:=jo;have aw:¬k<s:=jo
    go_upto_region 9 with(fail);generalize au:wr.alloc (.cells #[.int .i64 s,.int .i64 at_,.slice F L J] 48)=wd at *;clear au;generalize aA:wr.heap.size=dp at *;clear aA;generalize hm:gU a (sel a k (ds.take j))=m at *;have Hm:=zh hm;have R:Hid (gU a (sel a k (ds.take (j+1)))=max m s):=zh (by rw[Hyes.out h1 h2,yd,hm]);have Hys:Hid (sel a k (ds.take (j+1))=sel a k (ds.take j) ++ [⟨s,at_,fs⟩]):=zh (Hyes.out h1 h2);clear hm;generalize sel a k (ds.take j)=out at *
    refine kK 9 (fF [(2,⟨Nat,fun x=>.slice (some ⟨x,0,none⟩) 1 1,fun x g=>Fos S w g a q u10 out∧Blk g x 48 #[.int .i64 s,.int .i64 at_,.slice F L J]⟩),(3,⟨Value,fun x=>x,fun x g=>Fos S w g a q x (out ++ [⟨s,at_,fs⟩])⟩)])
     (fun g=>Blk g dp 48 #[.int .i64 s,.int .i64 at_,.slice F L J]) (fun g=>Fos S w g a q u10 out) jk jk (kN jk) Hdp.out.drew X.out.drew ?_
    iterate 2
     refine ik _ ?_ rfl jr jr (fun g f=>?_) ?_;rotate_left
     ·have g0:=f.cell 0;have g1:=f.cell 1;have T:=f.cell 2;simp at g0 g1 T;go_simp;all_goals with_reducible rfl
     try simp only[Act.put,zD,zE,zF]
    refine kw 3 _ rfl jr jr (fun g f E=>?_) (fun x=>?_)
    ·refine kr (u:=?_) (w':=?_) ?_ trivial ?_;rotate_left 2
     ·go_simp;all_goals first|with_reducible rfl|(refine⟨?_,?_⟩<;>with_reducible rfl)
     exact⟨f.alloc _,g.heap.size,rfl,E.alloc _,Blk.new g _ _⟩
    rename Nat=>x2
    try simp only[Act.put,zD,zE,zF]
    refine kw 4 _ rfl jr jr (fun g f E=>?_) (fun x=>?_)
    ·obtain⟨P,aG⟩:=E;obtain⟨an,g1,T,g3⟩:=P.own.ex;refine xz _ _ 26 rfl w.heap.size 48 i0 _ 3 40 underlying26 aB aC aE av rfl jd u10 out.length an.flatten rfl T ⟨x2,0,none⟩ 1 1 [.int .i64 s,.int .i64 at_,.slice F L J] rfl rfl ?d1 ?d2 ?d3 ?d4 ?d5 ?_
     case d1=>exact vH (cs:=#[.int .i64 s,.int .i64 at_,.slice F L J]) (t:=48) (fr:=(0,0)) aG
     case d2=>intro u hu;simp at hu;rcases hu with rfl|rfl|rfl<;>rfl
     case d3=>unfold maxLen;omega
     case d4=>omega
     case d5=>have:=P.box.lt;omega
     intro v9 w9 Z ad;have aH:DcS g S ⟨s,at_,fs⟩ [.int .i64 s,.int .i64 at_,.slice F L J]:=ac.out.same (fun b hb=>⟨hb,P.bel.block b (hS b hb)⟩);have hE:=P.put g1 T g3 Z ad aH;exact⟨f.grown ad Hrow.out,v9,rfl,hE⟩
    rename Value=>x3
    try simp only[Act.put,zD,zE,zF]
    iterate 5
     refine ik _ ?_ rfl jr jr (fun g f=>?_) ?_;rotate_left
     ·have g0:=f.cell 0;have g1:=f.cell 1;have T:=f.cell 2;simp at g0 g1 T;go_simp;all_goals with_reducible rfl
     try simp only[Act.put,zD,zE,zF]
    refine kT (fun w6 f E=>?_);obtain⟨A6,c6,ah,_⟩:=E.own.read;have ak:x3=.slice A6 (out ++ [(⟨s,at_,fs⟩:Dc)]).length c6:=ah;subst ak;have HI:=zh E;have al:(out ++ [(⟨s,at_,fs⟩:Dc)]).length=out.length+1:=jz;have ap:=zh al;clear E f ah Hno Hyes X Hdp ai r B O N ab al;generalize (out ++ [(⟨s,at_,fs⟩:Dc)])=y at *;rw[Hys.out]at R Hstop;have Hlst2:Hid (gU a y=max m s):=R;have aD:=HI.out.box.cell 0;have az:=HI.out.box.frozen 0;simp at aD;by_cases he:(y.length:Int)=l
    ·have Hfin:Hid (gV a k l ds=(y,max m s)):=zh (by rw[Hstop.out he,Hlst2.out]);have aq:((y.length:Int)==l)=true:=by rw[he];simp
     clear he
     go_upto_region 12 with(fail);have D:=zh (HI.out.after (max m s));clear HI;generalize U:w6.setCell ⟨w.heap.size,0,none⟩ (.int .i64 (max m s))=w7 at *;clear U;have r:=D.out.box.cell 0;have B:=D.out.box.cell 1;have I:=D.out.res.cell 0;have M:=D.out.res.cell 1;have af:=D.out.res.frozen 0;have ag:=D.out.res.frozen 1;simp at r B I M;have G:=zh D.out.done;refine kK 3 (fF []) (fun g=>g=w7.drew) (fun _=>True) jk jk (kN jk) rfl trivial ?_
     iterate 3
      refine ik _ ?_ rfl jr jr (fun g f=>?_) ?_;rotate_left
      ·subst f;go_simp;all_goals with_reducible rfl
      try simp only[Act.put,zD,zE,zF]
     refine kT (fun w9 f E=>?_);subst f;clear E;go_wp2;exact zw (nU rfl rfl rfl G.out.1) rfl (by rw[Hfin.out];exact⟨_,rfl,G.out.2.1,G.out.2.2⟩)
    have aq:((y.length:Int)==l)=false:=by rw[zM];exact he
    have Hlt2:Hid ((y.length:Int)<l):=zh (by have:=ap.out;omega);clear he;go_wp2;go_roundw
    case rel=>exact⟨j+1,jo,ju,by rw[Hys.out,Hlst2.out],by rw[Hys.out];exact Hlt2.out,by rw[Hys.out];exact HI.out⟩
    simp[intOf];omega
   have ae:¬s≤a:=jo;have aw:k<s:=jo;have Hsn:Hid (sel a k (ds.take (j+1))=sel a k (ds.take j)):=zh (Hno.out (fun h=>h2 h.2));have Hlen:=zh z;clear Hyes Hno h2 z;go_wp2;go_roundw
   case rel=>exact⟨j+1,jo,ju,by rw[Hsn.out],by rw[Hsn.out];exact Hlen.out,by rw[Hsn.out];exact X.out⟩
   simp[intOf];omega
  have ae:s≤a:=jo;have Hsn:Hid (sel a k (ds.take (j+1))=sel a k (ds.take j)):=zh (Hno.out (fun h=>h1 h.1));have Hlen:=zh z;clear Hyes Hno h1 z;go_wp2;go_roundw
  case rel=>exact⟨j+1,jo,ju,by rw[Hsn.out],by rw[Hsn.out];exact Hlen.out,by rw[Hsn.out];exact X.out⟩
  simp[intOf];omega
 have Hfin:Hid (gV a k l ds=(sel a k (ds.take j),max a k)):=zh (CG j jo (by rw[Hl.out];omega) z);have X:=zh H;have az:=H.box.frozen 0;obtain⟨A6,c6,rfl,_⟩:=H.own.read;clear H z;generalize hm:gU a (sel a k (ds.take j))=m at *;clear hm;generalize sel a k (ds.take j)=out at *
 go_upto_region 15 with(fail);have D:=zh (X.out.after (max a k));clear X;generalize U:wr.setCell ⟨w.heap.size,0,none⟩ (.int .i64 (max a k))=w7 at *;clear U r B;have r:=D.out.box.cell 0;have B:=D.out.box.cell 1;have I:=D.out.res.cell 0;have M:=D.out.res.cell 1;have af:=D.out.res.frozen 0;have ag:=D.out.res.frozen 1;simp at r B I M;have G:=zh D.out.done;refine kK 3 (fF []) (fun g=>g=w7.drew) (fun _=>True) jk jk (kN jk) rfl trivial ?_
 iterate 3
  refine ik _ ?_ rfl jr jr (fun g f=>?_) ?_;rotate_left
  ·subst f;go_simp;all_goals with_reducible rfl
  try simp only[Act.put,zD,zE,zF]
 refine kT (fun w9 f E=>?_);subst f;clear E;go_wp2;exact zw (nU rfl rfl rfl G.out.1) rfl (by rw[Hfin.out];exact⟨_,rfl,G.out.2.1,G.out.2.2⟩)
end Cu
end Go.Proofs.YtmomjpolkkbhnaaGreat
