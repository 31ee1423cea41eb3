/- (*Model).up, over whatever function value; (*Model).Docs (printed by gen_mdb.py). -/
import Derived.Shelf.GgSortFunc.RowK
import Derived.Sort.OwnSorted
import Derived.Lib.AppendStr
import Derived.Lib.SlBytesConst
import Derived.ArgAppend
import Derived.Laws.OwnMore
import Derived.IntWalk
import Derived.Laws.BytesArg
import Derived.Test.YtmomjpolkkbhnaaGreatQModelRunsRow12
import Derived.Test.YtmomjpolkkbhnaaGreatQModelRunsRow23
set_option linter.unusedSectionVars false
set_option linter.unusedSimpArgs false
set_option linter.unusedVariables false
set_option maxRecDepth 100000
set_option maxHeartbeats 100000000
open Go.Proofs.Tryz
namespace Go.Proofs.YtmomjpolkkbhnaaGreat
namespace Md
open Go.RowKit Ut Tk Qy Qp Ev
theorem At.docs{w:World}{n0 X K:Nat}{v:Value}{m:M}(h:At w n0 X K v m):∃A c,v=.slice A m.ds.length c∧m.ds.length≤c∧(A=none→c=0)∧∀i (hi:i<m.ds.length),∃g o Fa fc,A=some ⟨g,o,none⟩∧g<w.heap.size ∧
  w.cell? ⟨g,o+i*3,none⟩=some (.int .i64 m.ds[i].seq)∧w.cell? ⟨g,o+i*3+1,none⟩=some (.int .i64 m.ds[i].at_)∧w.cell? ⟨g,o+i*3+2,none⟩=some (.slice Fa m.ds[i].fs.length fc)∧FlAt w w.heap.size Fa m.ds[i].fs.length fc m.ds[i].fs:=by
 obtain⟨A,c,rfl,s,l,u⟩:=h.own.read;refine⟨A,c,rfl,l,u,fun i hi=>?_⟩;obtain⟨b,o,F,y,fc,e,a,n,r,q,x,t,k,j,d⟩:=s.at_ hi;subst t;exact⟨b,o,F,fc,e,a.2,n,r,q,⟨x.mono (fun b a=>a.2.lt),rfl,k,j,fun f p=>by have:=((mQ (h.ok.doc i hi).1).2 f p);have:=this.1;omega,d⟩⟩
theorem flg{w w':World}{F:Option Addr}{fn fc:Nat}{fs:List Fl}(h:FlAt w w.heap.size F fn fc fs)(hb:zWW w w'):FlAt w' w'.heap.size F fn fc fs:=(h.keep (fun b o a=>hb.cell (p:=⟨b,o,none⟩) a)).more hb.size
def upL(m:M)(p:Dc→Bool):List Dc:=m.ds.filter (fun d=>decide (m.floor≤d.at_)&&p d)
theorem wK{w:World}{n0 X K:Nat}{v:Value}{m:M}(h:At w n0 X K v m)(hK:K≤60000)(g:Nat)(cb:Array Value)(p:Dc→Bool)(hcf:∀args wx,(callFunc g args).run prog wx=.ok (.enter g args) wx)
  (hG:∀d∈m.ds,∀wx,zWW w wx→∀Fa fc,FlAt wx wx.heap.size Fa d.fs.length fc d.fs→Calls prog g (#[.agg #[.int .i64 d.seq,.int .i64 d.at_,.slice Fa d.fs.length fc]]++cb) wx fun e w'=>e=.returned (.bool (p d))∧zWW wx w') :
  Calls prog 72 #[.pointer (some ⟨X,0,none⟩),.func (.func g) #[] cb] w (pz w (upL m p)):=by
 obtain⟨i0,ar,au,av,al⟩:=info_parts Ev.lU;obtain⟨A8,c8,rfl,aA,aC,ae⟩:=h.docs;have q:=h.blk;have k7:=q.cell 7;simp only[mdC,zA,zB,zC]at k7;have ay:=h.few
 have HG:Hid (∀wx,zWW w wx→∀i (hi:i<m.ds.length),∃g o Fa fc,A8=some ⟨g,o,none⟩∧g<wx.heap.size∧wx.cell? ⟨g,o+i*3,none⟩=some (.int .i64 m.ds[i].seq)∧wx.cell? ⟨g,o+i*3+1,none⟩=some (.int .i64 m.ds[i].at_)∧wx.cell? ⟨g,o+i*3+2,none⟩=some (.slice Fa m.ds[i].fs.length fc)∧FlAt wx wx.heap.size Fa m.ds[i].fs.length fc m.ds[i].fs):=zh (fun wx n i hi=>by
  obtain⟨g,o,Fa,fc,e,hg,q0,q1,q2,hr⟩:=ae i hi
  exact⟨g,o,Fa,fc,e,zT hg n.size,(n.cell hg).trans q0,(n.cell hg).trans q1,(n.cell hg).trans q2,flg hr n⟩)
 have H8:Hid (∀wx,zWW w wx→wx.cell? ⟨X,8,none⟩=some (.int .i64 m.floor)):=zh (fun wx n=>by
  have:=(q.below n q.lt).cell 8
  simpa only[mdC,zA,zB,zC]using this)
 have HC:=zh hG;have ac:=zh h.ok.doc;have an:Hid (upL m p=m.ds.filter (fun d=>decide (m.floor≤d.at_)&&p d)):=zh rfl;generalize hu:upL m p=UU at *;obtain⟨c,a,z,nw,ak⟩:=m;simp only at *;clear h ae hG hu q;go_enter func72,ntmps72;go_wp2_with fail;go_loopw [5,13] (fun v i wr=>∃k:Nat,k≤a.length∧i=.int .i64 (k:Nat)∧Hid (DOwn wr w.heap.size v ((a.take k).filter (fun d=>decide (z≤d.at_)&&p d)))∧Hid (zWW w wr)) (fun _ i _=>a.length-(intOf i).toNat)
 case atStart=>exact⟨0,zS _,rfl,zh (DOwn.start _ _),zh (zy _ _)⟩
 obtain⟨k,hk,rfl,hO,q⟩:=hrel;by_cases O:k<a.length
 ·have ai:(k:Int)<(a.length:Int):=jo;have aD:(0:Int)≤(k:Int):=jo;obtain⟨gb,go,Fa,fc,rfl,hg,q0,q1,q2,hr⟩:=HG.out wr q.out k O
  have U:((a.take k).filter (fun d=>decide (z≤d.at_)&&p d)).length≤k:=by
   refine zY (List.length_filter_le _ _) ?_;rw[zK];omega
  have az:=(mQ (ac.out k O).1).1
  have y:Hid ((a.take (k+1)).filter (fun d=>decide (z≤d.at_)&&p d)=(a.take k).filter (fun d=>decide (z≤d.at_)&&p d)++if(decide (z≤a[k].at_)&&p a[k])=true then[a[k]]else[]):=zh (by
   rw[zL O,List.filter_append];congr 1
   by_cases hp:(decide (z≤a[k].at_)&&p a[k])=true<;>simp[List.filter_cons,hp])
  have CD:Hid (∀wx,zWW wr wx→Calls prog g (#[.agg #[.int .i64 a[k].seq,.int .i64 a[k].at_,.slice Fa a[k].fs.length fc]]++cb) wx fun e w'=>e=.returned (.bool (p a[k]))∧zWW wx w'):=zh (fun wx n=>HC.out _ (za O) wx (q.out.trans (n.mono q.out.size)) Fa fc (flg hr n));have ax:=zh U;clear U;generalize ao:p a[k]=pd at *;generalize a[k]=d at *;generalize (a.take k).filter (fun d=>decide (z≤d.at_)&&p d)=D0 at *;have Y:zWW wr (wr.alloc (.cells #[.int .i64 d.seq,.int .i64 d.at_,.slice Fa d.fs.length fc] 48)):=zRR _;have ad:=Blk.new wr 48 #[.int .i64 d.seq,.int .i64 d.at_,.slice Fa d.fs.length fc];have B:=zh Y;have A:=zh ad;have aj:=zh (flg hr Y);have hw:=q.out.size;clear ao hr ad Y
  go_upto_region 5 with(fail);generalize ap:wr.alloc (.cells #[.int .i64 d.seq,.int .i64 d.at_,.slice Fa d.fs.length fc] 48)=I at *;clear ap q0 q1 q2
  have s:Hid (∀wx,zWW I wx→wx.cell? ⟨wr.heap.size,0,none⟩=some (.int .i64 d.seq)∧wx.cell? ⟨wr.heap.size,1,none⟩=some (.int .i64 d.at_)∧wx.cell? ⟨wr.heap.size,2,none⟩=some (.slice Fa d.fs.length fc)∧wx.cell? ⟨X,8,none⟩=some (.int .i64 z)):=zh (fun wx n=>by
   have r0:=(A.out.below n A.out.lt).cell 0;have r1:=(A.out.below n A.out.lt).cell 1;have r2:=(A.out.below n A.out.lt).cell 2;simp only[zA,zB,zC]at r0 r1 r2
   exact⟨r0,r1,r2,H8.out wx (q.out.trans ((B.out.trans (n.mono B.out.size)).mono q.out.size))⟩)
  by_cases aa:z≤d.at_
  ·have H:decide (z≤d.at_)=true:=zO aa;rw[H,Bool.true_and]at y;have CD1:Hid (∀wx,zWW I wx→Calls prog g (#[.agg #[.int .i64 d.seq,.int .i64 d.at_,.slice Fa d.fs.length fc]]++cb) wx fun e w'=>e=.returned (.bool pd)∧zWW wx w'):=zh (fun wx n=>CD.out wx (B.out.trans (n.mono B.out.size)));clear H;refine iF (fF [(11,⟨Unit,fun _=>(.bool pd),fun _ _=>True⟩)]) (fun wx=>Below (World.heap I).size I wx) (fun I E=>zWW I E) jk jk (fN (fun _ _ _ _ h=>h) (fQ)) (zy _ _).drew ?_
   iterate 11
    refine fG _ ?_ rfl jr jr (fun wx l hD=>?_) ?_;rotate_left
    ·have P:=s.out wx l;go_simp;all_goals with_reducible rfl
    try simp only[Act.put,zD,zE,zF]
   refine fo 12 _ rfl jr jr (fun wx l hD=>?_) (fun x=>?_)
   ·refine fZ (f:=?_) (args:=?_) ?_ ?_;rotate_left 2
    ·have P:=s.out wx l;go_simp;all_goals first|with_reducible rfl|(refine⟨?_,?_⟩<;>with_reducible rfl)
    refine(CD1.out wx l).mono ?_;rintro e w9 ⟨rfl,ag⟩;exact⟨_,rfl,ag,l.trans (ag.mono l.size),(),rfl,trivial⟩
   obtain⟨⟩:=x;try simp only[Act.put,zD,zE,zF]
   refine fG 13 ?_ rfl jr jr (fun wx l hD=>?_) ?_;rotate_left
   ·have P:=s.out wx l;go_simp;all_goals with_reducible rfl
   try simp only[Act.put,zD,zE,zF]
   refine fW (fun E l hF=>?_);have r:=zt B l;have am:=s.out E l;have R:=zh (flg aj.out l);clear hF l CD CD1 s;obtain⟨b0,b1,b2,_⟩:=am
   cases pd with
   | true=>
    rw[zI rfl]at y;have C2:=zh (yQ d Fa d.fs.length fc E R.out.rd rfl jo R.out.nl);go_wp2_with fail;refine C2.out.mono ?_;rintro e w3 ⟨L,N,rfl,T,S,G,aw⟩;have V:zWW wr w3:=r.out.trans (aw.mono r.out.size);have J:zWW wr (w3.alloc (.cells #[.int .i64 d.seq,.int .i64 d.at_,.slice L d.fs.length N] 48)):=V.alloc V.size _;have ab:=hO.out.below J;obtain⟨ah,g1,g2,g3⟩:=ab.ex;have u:=G.alloc (.cells #[.int .i64 d.seq,.int .i64 d.at_,.slice L d.fs.length N] 48)
    have af:DcS (w3.alloc (.cells #[.int .i64 d.seq,.int .i64 d.at_,.slice L d.fs.length N] 48)) (Go.Proofs.YtmomjpolkkbhnaaGreat.Ev.Fd _ w.heap.size) d [.int .i64 d.seq,.int .i64 d.at_,.slice L d.fs.length N]:=
     ⟨L,_,N,rfl,(ReadsS.of_own u).mono (fun b n=>⟨by have:=n.1;have:=r.out.size;omega,fO u n.2.2⟩),rfl,jo,T,S⟩
    have Put:Hid (∀v' Z,Z.ownsRow w.heap.size 48 3 v' (D0.length+1) (ah.flatten ++ [.int .i64 d.seq,.int .i64 d.at_,.slice L d.fs.length N])→_→DOwn Z w.heap.size v' ((a.take (k+1)).filter (fun d=>decide (z≤d.at_)&&p d))):=zh (fun v' Z p1 p2=>by
     rw[y.out]
     exact DOwn.put ⟨ah,g1,g2,g3,rfl⟩ p1 p2 af)
    have G2:=zh g2;have aB:=J.size;have aq:=zh J;have aE:D0.length≤k:=ax.out;clear u J ab g1 g2 g3 af G T S V b0 b1 b2;generalize D0.length=dn at *;go_wp2_with (at_builtin;refine vJ _ rfl _ _ 26 rfl w.heap.size 48 i0 _ 3 40 underlying26 ar au av al rfl jd _ _ _ rfl G2.out ⟨w3.heap.size,0,none⟩ 1 1 [.int .i64 d.seq,.int .i64 d.at_,.slice L d.fs.length N] rfl rfl ?d1 ?d2 ?d3 ?d4 ?d5 ?_)
    case d1=>exact vH (cs:=#[.int .i64 d.seq,.int .i64 d.at_,.slice L d.fs.length N]) (t:=48) (fr:=(0,0)) (vK w3 (.cells #[.int .i64 d.seq,.int .i64 d.at_,.slice L d.fs.length N] 48))
    case d2=>simp[Value.oneCell']
    case d3=>unfold maxLen;omega
    case d4=>omega
    case d5=>first|omega|(simp;omega)
    intro v' Z D W _;have C:=zh (Put.out v' Z D W);have F:Hid (zWW w Z):=zh ((q.out.trans (aq.out.mono q.out.size)).grown W jo (fun j hj=>(G2.out.lt j hj).1));clear D W;go_wp2;go_roundw
    case rel=>exact⟨k+1,jo,ju,C,F⟩
    simp[intOf];omega
   | false=>
    rw[zH jd,List.append_nil]at y;have C:Hid (DOwn E w.heap.size _ ((a.take (k+1)).filter (fun d=>decide (z≤d.at_)&&p d))):=zh (by rw[y.out];exact hO.out.below r.out);have F:Hid (zWW w E):=zh (q.out.trans (r.out.mono q.out.size));go_wp2;go_roundw
    case rel=>exact⟨k+1,jo,ju,C,F⟩
    simp[intOf];omega
  have H:decide (z≤d.at_)=false:=zN aa;rw[H,Bool.false_and,zH jd,List.append_nil]at y;clear H CD;refine iF (fF []) (fun wx=>Below (World.heap I).size I wx) (fun I E=>zWW I E) jk jk (fQ) (zy _ _).drew ?_
  iterate 9
   refine fG _ ?_ rfl jr jr (fun wx l hD=>?_) ?_;rotate_left
   ·have P:=s.out wx l;go_simp;all_goals with_reducible rfl
   try simp only[Act.put,zD,zE,zF]
  refine fK 10 (some false) true rfl jr jr jr ?_;try simp only[Act.put,zD,zE,zF]
  refine fK 11 (some false) true rfl jr jr jr ?_;try simp only[Act.put,zD,zE,zF]
  refine fK 12 (some false) true rfl jr jr jr ?_;try simp only[Act.put,zD,zE,zF]
  refine fG 13 ?_ rfl jr jr (fun wx l hD=>?_) ?_;rotate_left
  ·have P:=s.out wx l;go_simp;all_goals with_reducible rfl
  try simp only[Act.put,zD,zE,zF]
  refine fW (fun E l hF=>?_);have r:=zt B l;have C:Hid (DOwn E w.heap.size _ ((a.take (k+1)).filter (fun d=>decide (z≤d.at_)&&p d))):=zh (by rw[y.out];exact hO.out.below r.out);have F:Hid (zWW w E):=zh (q.out.trans (r.out.mono q.out.size));clear hF l s;go_wp2;go_roundw
  case rel=>exact⟨k+1,jo,ju,C,F⟩
  simp[intOf];omega
 obtain rfl:k=a.length:=jo;have ai:¬(a.length:Int)<(a.length:Int):=jo;rw[List.take_length,←an.out]at hO;go_wp2;go_ret;exact⟨_,rfl,hO.out,q.out⟩
end Md

namespace Ss
open Go.Shelf Go.RowKit Go.Lib Go.Sort
variable {α:Type} [Inhabited α] {enc:α→List Value} {cf:α→α→Int} {tag:α→Nat}
set_option maxRecDepth 1000000 in
theorem FT(hW:SWO (ltOf cf))(k:Nat)(hk2:k=3)(g:Nat)(cb:Array Value)(blk off cap:Nat)(d:Array α)(w0 w:World)(eg:∀args w,(callFunc g args).run prog w=.ok (.enter g args) w)(hC:CmpLays prog g cb enc k cf blk off d.size w0)
  (R:RowK enc k w0 blk off d) (S:SWK enc k w0 blk off d w) (hsz:d.size<1099511627776) (hT:∀x y,x<y→y<d.size→tag d[x]!<tag d[y]!) :
  Calls prog 129 #[.slice (some ⟨blk,off,none⟩) d.size cap,.int .i64 d.size,.func (.func g) #[] cb] w (nO enc cf tag k w0 blk off d 0 d.size):=by
 have S0:Aside (SWK enc k w0 blk off d w):=S;have HC:Aside _:=hC;have HK:=zh hk2;have D:Hid (Pi cf tag d d 20 d.size 0):=zh (Pi.start (zG _) hT);obtain⟨n,O⟩:∃n,d.size=n:=⟨_,rfl⟩;have N1:n≤d.size:=jo;have N2:d.size≤n:=jo;have N:=zh O;rw[O];rw[O]at D;have H:=fun(a b:Nat) (f:Array α) (w:World) (hs:f.size=d.size) (S:SWK enc k w0 blk off f w) (hab:a≤b) (hb:b≤f.size) (hT:∀x y,a≤x→x<y→y<b→tag f[x]!<tag f[y]!)=>EC hW k hk2 g cb blk off cap a b d f w0 w eg hC R hs S hab hb jo hT
 have L:=fun(a m b:Nat) (f:Array α) (w:World) (r:a<m) (j:m<b) (I:MIn enc cf tag k w0 blk off d f a m b w)=>K3 hW k hk2 g cb blk off cap d w0 eg hC R hsz (b-a) a m b f w (zG _) r j I
 have INS:=zh H;have SYM:=zh L;clear S hk2 hC hT H L O;go_enter func129,ntmps129;go_wp2;go_loopw [7,8] (fun X F wr=>∃(c a b:Nat) (f:Array α),a≤n∧b≤a+20∧a+20≤b∧X=.int .i64 (a:Nat)∧F=.int .i64 (b:Nat)∧Hid (a=c*20)∧Aside (SWK enc k w0 blk off f wr)∧Hid (Pi cf tag d f 20 n c)) (fun _ F _=>n+20-(intOf F).toNat)
 case atStart=>exact⟨0,0,20,d,jo,jo,jo,rfl,rfl,zh jo,S0,D⟩
 clear S0 D;obtain⟨c,a,b,f,Z,U,V,rfl,rfl,s,p,i⟩:=hrel;have e:Hid (f.size=d.size):=zh i.out.hs;by_cases E:b≤n
 ·have o:=INS.out a b f wr e.out p.out jo (by have:=e.out;omega) (fun x y r j q=>i.out.tags s.out r j jo);rw[e.out,N.out]at o;have u:=zh o;clear o p;go_wp2_with fail;refine u.out.mono ?_;rintro Y G ⟨rfl,h,t,r,j,q⟩;have C:Aside (SWK enc k w0 blk off h G):=t
  have v:Hid (Pi cf tag d h 20 n (c+1)):=zh (by
   obtain rfl:b=a+20:=jo
   exact i.out.next s.out E j q)
  clear u t r j q i e;go_wp2;go_roundw
  case rel=>exact⟨c+1,b,b+20,h,jo,jo,jo,rfl,ju,zh (by have:=s.out;omega),C,v⟩
  simp[intOf];omega
 have P:¬(b:Int)≤(n:Int):=jo;have o:=INS.out a n f wr e.out p.out jo (by have:=e.out;omega) (fun x y r j q=>i.out.tags s.out r j jo);rw[e.out,N.out]at o;have u:=zh o;clear o p;go_wp2_with fail;refine u.out.mono ?_;rintro Y G ⟨rfl,h,t,r,j,q⟩;have C:Aside (SWK enc k w0 blk off h G):=t;have v:Hid (h.size=d.size∧PermIn 0 n d h∧Tgb tag h 20 n∧Sb cf tag h 20 n):=zh (i.out.last s.out jo Z j q);clear u t r j q i e s;go_wp2;go_loopw [6] (fun T wr=>∃(B:Nat) (l:Array α),0<B∧B≤2*n+20∧T=.int .i64 (B:Nat)∧Aside (SWK enc k w0 blk off l wr)∧Hid (l.size=d.size∧PermIn 0 n d l∧Tgb tag l B n∧Sb cf tag l B n)) (fun T _=>n-(intOf T).toNat)
 case atStart=>exact⟨20,h,jo,jo,rfl,C,v⟩
 clear C v;obtain⟨B,l,ad,hB,rfl,p,z⟩:=hrel;by_cases ae:B<n
 ·have J:Hid (Ph cf tag d l l B n 0):=zh (Ph.start z.out.1 jo z.out.2.1 z.out.2.2.1 z.out.2.2.2);clear z;go_wp2;go_loopw [7,8] (fun X F wr=>∃(c a b:Nat) (f:Array α),a≤n∧b≤a+2*B∧a+2*B≤b∧X=.int .i64 (a:Nat)∧F=.int .i64 (b:Nat)∧Hid (a=c*(2*B))∧Aside (SWK enc k w0 blk off f wr)∧Hid (Ph cf tag d l f B n c)) (fun _ F _=>n+2*B-(intOf F).toNat)
  case atStart=>exact⟨0,0,2*B,l,jo,jo,jo,rfl,ju,zh jo,p,J⟩
  clear p J;obtain⟨c,a,b,f,Z,U,V,rfl,rfl,s,p,i⟩:=hrel;have e:Hid (f.size=d.size):=zh i.out.hs;obtain⟨m,A⟩:∃m,m=a+B:=⟨_,rfl⟩;have m1:m≤a+B:=jo;have m2:a+B≤m:=jo;have M:(a:Int)+(B:Int)=(m:Int):=jo;by_cases E:b≤n
  ·have W:=i.out.wants (a:=a) (b:=b) s.out jo jo;rw[←A]at W;have o:=SYM.out a m b f wr jo jo ⟨e.out,p.out,by have:=e.out;omega,W.1,W.2.1,W.2.2⟩;rw[e.out,N.out]at o;have u:=zh o;clear o p W;have HM:=zh A;clear A;go_wp2_with fail;refine u.out.mono ?_;rintro Y G ⟨rfl,h,t,r,j,q⟩;have C:Aside (SWK enc k w0 blk off h G):=t
   have v:Hid (Ph cf tag d l h B n (c+1)):=zh (by
    obtain rfl:b=a+2*B:=jo
    exact i.out.next s.out E j q)
   clear u t r j q i e M;go_wp2;go_roundw
   case rel=>exact⟨c+1,b,b+2*B,h,jo,jo,jo,rfl,ju,zh (by rw[mg,←s.out];omega),C,v⟩
   simp[intOf];omega
  have P:¬(b:Int)≤(n:Int):=jo;by_cases ac:m<n
  ·have W:=i.out.wants (a:=a) (b:=n) s.out jo jo;rw[←A]at W;have o:=SYM.out a m n f wr jo jo ⟨e.out,p.out,by have:=e.out;omega,W.1,W.2.1,W.2.2⟩;rw[e.out,N.out]at o;have u:=zh o;clear o p W;have HM:=zh A;clear A;go_wp2_with fail;refine u.out.mono ?_;rintro Y G ⟨rfl,h,t,r,j,q⟩;have C:Aside (SWK enc k w0 blk off h G):=t;have v:Hid (h.size=d.size∧PermIn 0 n d h∧Tgb tag h (2*B) n∧Sb cf tag h (2*B) n):=zh (i.out.last s.out jo jo j q);clear u t r j q i e M;go_wp2;go_roundw
   case rel=>exact⟨2*B,h,jo,jo,ju,C,v⟩
   simp[intOf];omega
  have aa:¬(m:Int)<(n:Int):=jo;have v:Hid (f.size=d.size∧PermIn 0 n d f∧Tgb tag f (2*B) n∧Sb cf tag f (2*B) n):=zh (i.out.done s.out jo);have HM:=zh A;clear i e A;go_wp2;go_roundw
  case rel=>exact⟨2*B,f,jo,jo,ju,p,v⟩
  simp[intOf];omega
 have ab:¬(B:Int)<(n:Int):=jo;have Fin:Hid (l.size=d.size∧PermIn 0 n d l∧Srt cf tag l 0 n):=zh ⟨z.out.1,z.out.2.1,z.out.2.2.2.whole jo⟩;clear z;go_wp2
 go_end0
 exact⟨rfl,l,p.out,Fin.out⟩
set_option maxRecDepth 1000000 in
theorem D9(hW:SWO (ltOf cf))(k:Nat)(hk2:k=3)(g:Nat)(cb:Array Value)(blk off cap:Nat)(d:Array α)(w:World)(eg:∀args w,(callFunc g args).run prog w=.ok (.enter g args) w)(hC:CmpLays prog g cb enc k cf blk off d.size w)
  (R:RowK enc k w blk off d) (S:SWK enc k w blk off d w) (hsz:d.size<1099511627776) (hT:∀x y,x<y→y<d.size→tag d[x]!<tag d[y]!) :
  Calls prog 102 #[.slice (some ⟨blk,off,none⟩) d.size cap,.func (.func g) #[] cb] w (nO enc cf tag k w blk off d 0 d.size):=by
 have C:=zh (FT hW k hk2 g cb blk off cap d w w eg hC R S hsz hT);clear hW hk2 hC S hT R eg;go_enter func102,ntmps102;go_wp2_with fail;refine C.out.mono ?_;rintro b a ⟨rfl,H⟩;have F:=zh H;clear H C;go_wp2
 go_end0
 exact⟨rfl,F.out⟩
end Ss

namespace Ss
open Go.RowKit Go.Sort Go.Shelf Go.Lib
variable {α:Type} [Inhabited α] {enc:α→List Value} {k:Nat}
theorem oW(hk:∀x,(enc x).length=k)(l:List α):(l.flatMap enc).length=l.length*k:=by
 induction l with
 | nil=>simp
 | cons x l ih=>rw[List.flatMap_cons,zJ,hk,ih,zV,Nat.add_mul,Nat.one_mul,Nat.add_comm]
theorem JL(hk:∀x,(enc x).length=k)(l:List α)(i j:Nat)(hi:i<l.length)(hj:j<k):(l.flatMap enc)[i*k+j]?=(enc l[i])[j]?:=by
 have:=Qy.iM (k:=k) (vss:=l.map enc) (fun v a=>by obtain⟨x,_,rfl⟩:=List.mem_map.1 a;exact hk x) i j (by simpa using hi) hj;rw[List.getElem_map]at this;rw[List.flatMap_def];exact this
theorem BI(hk:∀x,(enc x).length=k)(h0:0<k)(l:List α):flatK enc k l.toArray=(l.flatMap enc).toArray:=by
 apply Array.ext
 ·simp only[size_flatK,List.size_toArray,oW hk]
 intro i a m;rw[size_flatK]at a;have c:l.toArray.size=l.length:=jz;rw[c]at a;have e:i/k<l.length:=Nat.div_lt_of_lt_mul (by rw[Nat.mul_comm];exact a);have d:(flatK enc k l.toArray)[i]! = (enc l.toArray[i/k]!)[i%k]!:=get_flatK enc k l.toArray i (by rw[c];exact a);rw[getElem!_pos _ i (by rw[size_flatK,c];exact a)]at d;have h:l.toArray[i/k]! = l[i/k]:=by rw[getElem!_pos _ _ (by simpa using e)];simp
 have b:i%k<k:=Nat.mod_lt _ h0;have g:=JL hk l (i/k) (i%k) e b;have j:i/k*k+i%k=i:=by rw[Nat.mul_comm];exact Nat.div_add_mod i k
 rw[j]at g;rw[d,h];have f:i<(l.flatMap enc).length:=by rw[oW hk];exact a
 rw[zU f,zU (by rw[hk];exact b)]at g;injection g with g;rw[getElem!_pos _ _ (by rw[hk];exact b),←g];simp
theorem Mj(hk:∀x,(enc x).length=k)(h0:0<k){w:World}{g:Nat}{cur:Array Value}{e:TypeId}{l:List α}(hb:w.heap[g]?=some (.cells cur e (0,0)))(ht:cur.toList.take (l.length*k)=l.flatMap enc):HoldsK enc k w g 0 l.toArray:=by
 unfold HoldsK;rw[BI hk h0];intro j d;have a:j<(l.flatMap enc).length:=by simpa using d
 have b:j<l.length*k:=by rw[oW hk]at a;exact a
 refine⟨?_,by simp[World.frozen?,hb]⟩;have c:(cur.toList.take (l.length*k))[j]?=(l.flatMap enc)[j]?:=by rw[ht]
 rw[List.getElem?_take_of_lt b]at c;simp only[World.cell?,hb,zi];simp only[Option.isSome_none,Bool.false_eq_true,if_false];rw[←Array.getElem?_toList,c];simp[a,zU a]
theorem Nj{w:World}{g n:Nat}{os:Array Obj}{cur:Array Value}{e:TypeId}{fr:Nat × Nat}(d:Array Value)(hb:w.heap[g]?=some (.cells cur e fr)) :
  (grow (putRow id (Sort.ahead w n) g 0 d) os).heap[g]?=some (.cells (putCells id 0 d cur) e fr):=by
 have a:g<w.heap.size:=(Array.getElem?_eq_some_iff.1 hb).1;rw[heap_grow_old _ _ (by simpa using a)];simp[putRow,mapBlock,Sort.ahead,Array.getElem?_modify,hb,onCells]
theorem Mk{w:World}{g n:Nat}{os:Array Obj}(d:Array α):w.grownBy (sortWorldK enc k w g 0 n d os) (some g):=by
 unfold sortWorldK putRowK;refine⟨rfl,rfl,rfl,jz,fun j b a=>?_⟩;rw[heap_grow_old _ _ (by simpa using b)];have:g≠j:=fun e=>a (by rw[e])
 simp[putRow,mapBlock,Sort.ahead,Array.getElem?_modify,this]
theorem Nk(cur:Array Value)(F:List Value)(h:F.length≤cur.size):(putCells id 0 F.toArray cur).toList.take F.length=F:=by
 apply List.ext_getElem?;intro j;by_cases a:j<F.length
 ·rw[List.getElem?_take_of_lt a,Array.getElem?_toList];simp[putCells,a,show j<cur.size by omega]
 rw[List.getElem?_take_eq_none jo,List.getElem?_eq_none jo]
theorem Ny(hk:∀x,(enc x).length=k)(h0:0<k){w:World}{base g cap n:Nat}{e:TypeId}{os:Array Obj}{cur:Array Value}{l m:List α}(hl:m.length=l.length)(hbase:base≤g)(hb:w.heap[g]?=some (.cells cur e (0,0)))
  (h1:l.length≤cap) (h2:cap≤maxLen) (h3:cur.size=cap*k) :
  (sortWorldK enc k w g 0 n m.toArray os).ownsRow base e k (.slice (some ⟨g,0,none⟩) m.length cap) m.length (m.flatMap enc):=by
 unfold sortWorldK putRowK;rw[BI hk h0];refine⟨oW hk m,.inr ⟨g,cap,_,rfl,hbase,Nj _ hb,jo,h2,by simp[putCells,h3],?_⟩⟩;rw[←oW hk m];exact Nk cur (m.flatMap enc) (by rw[oW hk,h3];exact Nat.mul_le_mul_right k jo)
end Ss

namespace Cu
open Go.RowKit Cr Qp Qy
def IsC(a:Int)(q:ByteArray):Prop:=0≤a∧a≤1099511627776∧∃o,PrsR q.data.toList 0 o
open Classical in
noncomputable def nT (a:Int) (q:ByteArray):Bool:=decide (IsC a q)
open Classical in
theorem rC{a:Int}{q:ByteArray}(h:IsC a q):nT a q=true:=by unfold nT;exact zO h
open Classical in
theorem rJ{a:Int}{q:ByteArray}(h:¬IsC a q):nT a q=false:=by unfold nT;exact zN h
theorem IsC.short{a:Int}{q:ByteArray}(h:IsC a q):q.size≤1024:=by
 obtain⟨_,_,o,b⟩:=h;rw[←fB]
 cases b with
 | ok h _ _ _ _=>exact h
theorem C8{a:Int}{q:ByteArray}{E:Int}{o:Option Q}(hp:PrsR q.data.toList E o):IsC a q↔(0≤a∧a≤1099511627776∧E=0):=
 ⟨fun⟨h1,h2,o',h3⟩=>⟨h1,h2,(hp.det h3).1⟩,fun⟨h1,h2,h3⟩=>⟨h1,h2,o,by rw[←h3];exact hp⟩⟩
theorem Bx(a:Int)(q:ByteArray)(w:World):Calls prog 108 #[.agg #[.int .i64 a,.string q]] w fun e w'=>e=.returned (.bool (nT a q))∧zWW w w':=by
 have m:=(zy w.heap.size w).alloc (zG _) (.cells #[.int .i64 a,.string q] 122);have l:=Blk.new w 122 #[.int .i64 a,.string q];have k:(w.alloc (.cells #[.int .i64 a,.string q] 122)).heap.size=w.heap.size+1:=jz;have F:=pg q (w.alloc (.cells #[.int .i64 a,.string q] 122));generalize z:nT a q=b;have C:=zh z;have n:=zh m;have j:=zh l;have c:=zh k;clear z m l k;go_enter func108,ntmps108;go_wp2_with fail;refine F.mono ?_;rintro e N ⟨E,G,A,D,y,I,u,rfl,B,d⟩;have g:=(j.out.below d (by rw[c.out];omega)).alloc (.cells #[A,D,y,I] 60);have t:=d.size;have Hfin:=zh ((n.out.trans (d.mono (by rw[c.out];omega))).alloc (by have:=c.out;omega) (.cells #[A,D,y,I] 60));have p:=zh (C8 (a:=a) u);have s:=g.cell 0;have r:=g.cell 1;have M:w.heap.size<N.heap.size:=by have:=c.out;omega
 obtain⟨V,R,X,T,S,Y,J⟩:=B.four;simp only[zQ,and_true]at J;obtain⟨rfl,rfl,rfl,rfl⟩:=J;simp at s r;clear F u B d g t j n c;generalize (G.getD noQ).kind=W at *;generalize (G.getD noQ).name=U at *
 have f:Hid (∀x:Bool,(x=true↔(0≤a∧a≤1099511627776∧E=0))→x=b):=zh (fun x v=>by
  rw[←C.out];by_cases h:IsC a q
  ·rw[rC h];exact v.2 (p.out.1 h)
  rw[rJ h]
  cases x with
  | false=>rfl
  | true=>exact absurd (p.out.2 (v.1 rfl)) h)
 clear p C;by_cases L:0≤a
 ·by_cases H:a≤1099511627776
  ·by_cases o:E=0
   ·subst o;go_wp2;go_ret;exact⟨by rw[←f.out true (by simp[L,H])];rfl,Hfin.out⟩
   have O:(E==0)=false:=by rw[zM];exact o
   have i:=zh (f.out false (by simp[o]));clear o;go_wp2;go_ret;exact⟨by rw[←i.out];rfl,Hfin.out⟩
  have i:=zh (f.out false (by simp[H]));have P:1099511627776<a:=jo;go_wp2;go_ret;exact⟨by rw[←i.out];rfl,Hfin.out⟩
 have i:=zh (f.out false (by simp[L]));have P:a<0:=jo;go_wp2;go_ret;exact⟨by rw[←i.out];rfl,Hfin.out⟩
end Cu

namespace Cr
open Go.RowKit
def bv(L:List UInt8):List Value:=L.map fun c=>.int .u8 (c.toNat:Int)
theorem ij(L:List UInt8):(bv L).length=L.length:=by unfold bv;rw[List.length_map]
theorem wO(L M:List UInt8):bv (L++M)=bv L++bv M:=by unfold bv;rw[List.map_append]
theorem TabAt.get{w wr:World}{g k:Nat}(h:TabAt w wr g k){j:Nat}(hj:j<k):wr.cell? ⟨g,j,none⟩=some (.int .u32 (tab j:Nat)):=by
 obtain⟨e,rfl,d,a,c,b⟩:=h;rw[a.cell];exact b j hj
theorem rD(x:Nat)(h:x<2 ^ 32):bits .xor .u32 IntKind.u32.max (x:Int)=((iU x:Nat):Int):=by
 have:=p7 4294967295 x jo h;rw[show IntKind.u32.max=((4294967295:Nat):Int) by rfl,this,Nat.xor_comm];rfl
theorem p8(s:Nat)(A:Option Addr)(n c:Nat)(L:List UInt8)(w:World)(hs:s<2 ^ 32)(hR:Reads w w.heap.size 1 A n (bv L))(hn:n≤140737488351232) :
  Calls prog 135 #[.int .u32 (s:Int),.slice A n c] w fun e w'=>e=.returned (.int .u32 (iU (run (iU s) L):Nat))∧zWW w w':=by
 have d:L.length=n:=by have:=hR.1;rw[ij]at this;omega
 have Hln:=zh d;have D:=zh hR;have O:(0:Int)≤(s:Int):=jo;have M:(s:Int)≤4294967295:=jo;have l:=vC hs;have a:=rD s hs;have V:IntKind.u32.signed=false:=rfl;have P:=rX l ([]:List UInt8);clear hR d;have C:=Hk w;go_enter func135,ntmps135;go_wp2_with fail;refine C.mono ?_;rintro e Y ⟨g,rfl,m⟩;have v:=m.bel;have B:g=w.heap.size:=m.ge;have r:=zh (D.out.below v);have F:=zh m;have R:=zh v;clear C m v D B;go_wp2_with fail;clear a
 go_loop [6,14] (fun x i=>∃k:Nat,k≤n∧i=.int .i64 k∧x=.int .u32 (run (iU s) (L.take k):Nat)) (fun _ i=>n-(intOf i).toNat)
 case atStart=>exact⟨0,zS _,rfl,rfl⟩
 obtain⟨k,Z,rfl,rfl⟩:=hrel;have z:=rX l (L.take k);by_cases h:k<n
 ·have p:k<L.length:=by rw[Hln.out];exact h
  obtain⟨b,o,X,rfl,S,u⟩:=r.out.at_map h
  have j:run (iU s) (L.take (k+1))=on (run (iU s) (L.take k)) L[k]:=by
   rw[zL p,BN]
  have Hts:=zh j;clear j;generalize run (iU s) (L.take k)=x at *;generalize L[k]=q at *;have T:=q.toNat_lt
  have W:bits .xor .u8 ((x:Int)%256) (q.toNat:Int)=(((x%256) ^^^ q.toNat:Nat):Int):=by
   have:=u8_xor_nat (x%256) q.toNat jo T;rw[←this];rfl
  have J:(x%256) ^^^ q.toNat<256:=Nat.xor_lt_two_pow (n:=8) jo jo;have H:=zh (Jc x q);generalize (x%256) ^^^ q.toNat=y at *;have B:=F.out.get J;have t:=Cx (x:=y) jo
  have G:bits .xor .u32 (tab y:Int) ((x:Int)/256)=((on x q:Nat):Int):=by
   rw[show (x:Int)/256=((x/256:Nat):Int) by omega,p7 _ _ t jo,H.out]
  generalize tab y=ty at *;have I:(0:Int)≤(x:Int):=jo;have N:(x:Int)≤4294967295:=jo;have U:(y:Int)<256:=jo;go_wp2
  go_round
  case rel=>exact⟨k+1,jo,ju,by rw[Hts.out]⟩
  simp[intOf];omega
 obtain rfl:k=n:=jo;have Fin:Hid (L.take k=L):=zh (zR (by rw[Hln.out];exact zG _));have a:=rD _ z;rw[Fin.out]at z a ⊢;generalize f:run (iU s) L=x at *;have E:=zh f;clear f;go_wp2;go_ret;rw[E.out];exact⟨rfl,R.out⟩
theorem AY:iU 0=4294967295:=by decide
theorem LQ(p:Nat)(A:Option Addr)(n c c1:Nat)(L:List UInt8)(w:World)(hp:w.cell? ⟨p,0,none⟩=some (.slice A n c))(hpl:p<w.heap.size)(hR:Reads w w.heap.size 1 A n (bv L))(hn:n≤140737488351232) :
  Calls prog 109 #[.slice (some ⟨p,0,none⟩) 1 c1] w fun e w'=>e=.returned (.int .u32 (crc L:Nat))∧zWW w w':=by
 have c1:=p8 0 A n c L w jo hR hn;rw[AY]at c1;have a:crc L=iU (run 4294967295 L):=rfl;rw[←a]at c1;generalize crc L=r at *;clear a hR;go_enter func109,ntmps109;go_wp2_with fail;go_loopw [3,8] (fun x i wr=>(i=.int .i64 0∧x=.int .u32 0∧wr=w)∨(i=.int .i64 1∧x=.int .u32 (r:Int)∧zWW w wr)) (fun _ i _=>1-(intOf i).toNat)
 case atStart=>exact .inl ⟨rfl,rfl,rfl⟩
 rcases hrel with⟨rfl,rfl,rfl⟩|⟨rfl,rfl,b⟩
 ·go_wp2_with fail;refine c1.mono ?_;rintro e f ⟨rfl,b⟩;have d:=zh b;clear b c1;go_wp2;go_roundw
  case rel=>exact .inr ⟨rfl,rfl,d.out⟩
  simp[intOf]
 have d:=zh b;clear b;go_wp2;go_ret;exact⟨rfl,d.out⟩
end Cr

namespace Cu
open Go.RowKit Cr Qp Qy
structure BytesTo (w:World) (L:List UInt8) (E:Int) (e:Ending) (w':World):Prop where
 ex:∃v,e=.returned (.tuple #[v,.int .i64 E])∧w'.ownsRow w.heap.size 5 1 v L.length (bv L)
 bel:zWW w w'
structure Enc (w wr:World) (a:Int) (q:ByteArray) (v:Value) (M:List UInt8):Prop where
 box:Blk wr w.heap.size 122 #[.int .i64 a,.string q]
 own:wr.ownsRow (w.heap.size+1) 5 1 v M.length (bv M)
 bel:zWW w wr
theorem Enc.alloc{w wr:World}{a:Int}{q:ByteArray}{v:Value}{M:List UInt8}(h:Enc w wr a q v M)(o:Obj):Enc w (wr.alloc o) a q v M:=
 ⟨h.box.alloc o,h.own.alloc o,h.bel.alloc h.bel.size o⟩
theorem Enc.below{w wr w2:World}{a:Int}{q:ByteArray}{v:Value}{M:List UInt8}(h:Enc w wr a q v M)(hb:zWW wr w2):Enc w w2 a q v M:=
 ⟨h.box.below hb h.box.lt,h.own.kept (fH hb none) (by cases v.ownBlock<;>simp),h.bel.trans (hb.mono h.bel.size)⟩
theorem Enc.put{w wr w2:World}{a:Int}{q:ByteArray}{v v':Value}{M N:List UInt8}{n:Nat}(h:Enc w wr a q v M)(hn:N.length=n)(hown:w2.ownsRow (w.heap.size+1) 5 1 v' (M.length+n) (bv M++bv N))(hg:wr.grownBy w2 v.ownBlock):Enc w w2 a q v' (M++N):=by
 subst hn;refine⟨h.box.grown hg (fun e=>?_),?_,h.bel.grown hg h.bel.size (fun b e=>?_)⟩
 ·have:=(h.own.lt _ e.symm).1;omega
 ·rw[zJ,wO];exact hown
 have:=(h.own.lt _ e).1;omega
structure Lit3 (w wr:World) (a:Int) (q:ByteArray) (v:Value):Prop where
 box:Blk wr w.heap.size 122 #[.int .i64 a,.string q]
 ex:∃g,v=.slice (some ⟨g,0,none⟩) 3 3∧∀j u,(bv [76,67,1])[j]?=some u→wr.cell? ⟨g,j,none⟩=some u
 bel:zWW w wr
theorem Lit3.alloc{w wr:World}{a:Int}{q:ByteArray}{v:Value}(h:Lit3 w wr a q v)(o:Obj):Lit3 w (wr.alloc o) a q v:=by
 obtain⟨c,⟨g,e,d⟩,b⟩:=h;exact⟨c.alloc o,⟨g,e,fun j u f=>Lib.cell?_alloc_marked o (d j u f)⟩,b.alloc b.size o⟩
theorem Lit3.put{w wr w2:World}{a:Int}{q:ByteArray}{v v':Value}{N:List UInt8}{n base:Nat}(h:Lit3 w wr a q v)(hn:N.length=n)(hb:w.heap.size+1≤base)(hown:w2.ownsRow base 5 1 v' (3+n) (bv [76,67,1]++bv N))(hg:wr.grownBy w2 none):Enc w w2 a q v' ([76,67,1]++N):=by
 subst hn;refine⟨h.box.grown hg jz,?_,h.bel.grown hg h.bel.size (fun b e=>by cases e)⟩;rw[zJ,wO];exact Joins.ownsRow_le hown hb
theorem ku:(prog.info? 5).map (fun i=>(i.zero,i.size,i.bytes))=some (some (.int .u8 0),1,1):=by kernel_rfl
theorem be2(n:Nat):be 2 n=[UInt8.ofNat (n/256),UInt8.ofNat n]:=by simp[be,List.range,List.range.loop]
theorem Je(n k:Nat)(h:k<4):(le4 n).take (k+1)=(le4 n).take k ++ [UInt8.ofNat (n/2 ^ (8*k))]:=by
 match k,h with
 | 0,_=>simp[le4]
 | 1,_=>rfl
 | 2,_=>rfl
 | 3,_=>rfl
theorem vh(n m:Nat):(n:Int)/2 ^ m%256=((UInt8.ofNat (n/2 ^ m)).toNat:Int):=by
 rw[u8n,Int.natCast_emod,Int.natCast_ediv,Int.natCast_pow];rfl
theorem BQ(n:Nat):(n:Int)/256%256=((UInt8.ofNat (n/256)).toNat:Int):=by
 rw[u8n];omega
theorem DC(n:Nat):(n:Int)%256=((UInt8.ofNat n).toNat:Int):=by
 rw[u8n];omega
theorem yX(a:Nat)(q:ByteArray)(w:World)(h:IsC (a:Int) q):Calls prog 69 #[.agg #[.int .i64 (a:Int),.string q]] w (BytesTo w (enc a q.data.toList) 0):=by
 obtain⟨i0,E,F,G,D⟩:=info_parts ku;have am:=(zy w.heap.size w).alloc (zG _) (.cells #[.int .i64 (a:Int),.string q] 122);have ab:=Blk.new w 122 #[.int .i64 (a:Int),.string q];have J:(w.alloc (.cells #[.int .i64 (a:Int),.string q] 122)).heap.size=w.heap.size+1:=jz;have c1:=Bx (a:Int) q (w.alloc (.cells #[.int .i64 (a:Int),.string q] 122));rw[rC h]at c1;have hq:=h.short;have ha:(a:Int)≤1099511627776:=h.2.1;have ap:=zh am;have ae:=zh ab;have H:=zh J;clear am ab J h;go_enter func69,ntmps69;go_wp2_with fail;refine c1.mono ?_;rintro e w1 ⟨rfl,I⟩;have aG:w.heap.size+1≤w1.heap.size:=by have:=I.size;have:=H.out;omega
 have al:Lit3 w (w1.alloc (.cells #[.int .u8 76,.int .u8 67,.int .u8 1] 5 (3,4))) (a:Int) q (.slice (some ⟨w1.heap.size,0,none⟩) 3 3):=by
  refine⟨(ae.out.below I (by rw[H.out];omega)).alloc _,⟨_,rfl,fun j u r=>?_⟩,(ap.out.trans (I.mono (by rw[H.out];omega))).alloc jo _⟩;rw[World.cell?_alloc_mark];rw[←r];simp[bv]
 have kc:=fun(w:World) (C:Array Value) (n c:Nat)=>Lib.run_convert_bytes_const (P:=prog) w 30 5 C n c underlying30 underlying5
 have ax:=zh al;clear c1 I ae ap H al;go_wp2_with fail;clear kc;generalize ar:w1.alloc (.cells #[.int .u8 76,.int .u8 67,.int .u8 1] 5 (3,4))=w2 at *;clear ar;go_loopw [4,5] (fun v i wr=>∃k:Nat,k≤8∧i=.int .i64 (7-(k:Int))∧((k=0∧Lit3 w wr (a:Int) q v)∨(0<k∧Enc w wr (a:Int) q v ([76,67,1]++(be 8 a).take k)))) (fun _ i _=>(intOf i+1).toNat)
 case atStart=>exact⟨0,jo,rfl,.inl ⟨rfl,ax.out⟩⟩
 obtain⟨k,hk,rfl,f⟩:=hrel;by_cases V:k<8
 ·have aF:(0:Int)≤7-(k:Int):=jo;have U:=vh a (8*(7-k));have Hs:Hid ((be 8 a).take (k+1)=(be 8 a).take k ++ [UInt8.ofNat (a/2 ^ (8*(7-k)))]):=zh (Bw 8 a k V);generalize UInt8.ofNat (a/2 ^ (8*(7-k)))=x at *;rcases f with⟨rfl,f⟩|⟨av,f⟩
  ·have A:=f.box.cell 0;have z:=f.box.cell 1;have ad:=f.box.lt;have p:=zh f;obtain⟨g,rfl,_⟩:=f.ex;simp at A z;simp at U;have aC:(a:Int)/72057594037927936=(x.toNat:Int):=jo;clear U;clear f;go_wp2_with (at_builtin;refine wpList_append_grows _ rfl _ _ 30 rfl 5 i0 _ 1 1 underlying30 E F G D rfl jd _ 3 3 (bv [76,67,1]) rfl (fun h=>by cases h) rfl ?h1 ⟨wr.heap.size,0,none⟩ 1 1 [.int .u8 (x.toNat:Int)] rfl rfl ?d1 ?d2 ?d6 ?d3 ?d4 ?_)
   case h1=>
    intro b hb j u r;obtain⟨g',e',aq⟩:=(p.out.alloc (.cells #[.int .u8 (x.toNat:Int)] 5)).ex;injection hb with hb;injection e' with e' _ _;injection e' with e';injection e' with e';subst hb;rw[Addr.add_lit,zi,e'];exact aq j u r
   case d1=>exact vH (cs:=#[.int .u8 (x.toNat:Int)]) (t:=5) (fr:=(0,0)) (vK wr _)
   case d2=>intro u r;simp at r;subst r;rfl
   case d6=>omega
   case d3=>unfold maxLen;omega
   case d4=>omega
   intro v' w5 d m;have Fin:=zh ((p.out.alloc (.cells #[.int .u8 (x.toNat:Int)] 5)).put (N:=[x]) rfl jo d m);clear d m;go_wp2;go_roundw
   case rel=>exact⟨1,jo,jr,.inr ⟨jo,by have:=Hs.out;simp at this;rw[this];exact Fin.out⟩⟩
   simp[intOf]
  have A:=f.box.cell 0;have z:=f.box.cell 1;have ad:=f.box.lt;have p:=zh f;simp at A z
  have o:([76,67,1]++(be 8 a).take k:List UInt8).length≤11:=by
   rw[zJ,zK,iP];simp;omega
  have Happ:Hid ([76,67,1]++(be 8 a).take (k+1)=([76,67,1]++(be 8 a).take k) ++ [x]):=zh (by rw[Hs.out,List.append_assoc]);obtain⟨A4,c4,rfl,_⟩:=fT f.own;clear f;generalize ([76,67,1]++(be 8 a).take k:List UInt8)=M at *;have Hln:=zh o;clear o;go_wp2_with (at_builtin;refine vJ _ rfl _ _ 30 rfl (w.heap.size+1) 5 i0 _ 1 1 underlying30 E F G D rfl jd _ _ _ rfl (p.out.alloc (.cells #[.int .u8 (x.toNat:Int)] 5)).own ⟨wr.heap.size,0,none⟩ 1 1 [.int .u8 (x.toNat:Int)] rfl rfl ?d1 ?d2 ?d3 ?d4 ?d5 ?_)
  case d1=>exact vH (cs:=#[.int .u8 (x.toNat:Int)]) (t:=5) (fr:=(0,0)) (vK wr _)
  case d2=>intro u r;simp at r;subst r;rfl
  case d3=>unfold maxLen;have:=Hln.out;omega
  case d4=>have:=Hln.out;omega
  case d5=>have:=p.out.box.lt;simp;omega
  intro v' w5 d m _;have Fin:=zh ((p.out.alloc (.cells #[.int .u8 (x.toNat:Int)] 5)).put (N:=[x]) rfl d m);clear d m;go_wp2;go_roundw
  case rel=>exact⟨k+1,jo,by congr 1;omega,.inr ⟨jo,by rw[Happ.out];exact Fin.out⟩⟩
  simp[intOf];omega
 have aB:7-(k:Int)<0:=jo
 have y:Enc w wr (a:Int) q u4 ([76,67,1]++be 8 a):=by
  rcases f with⟨rfl,f⟩|⟨av,f⟩
  ·omega
  rw[zR (by rw[iP];omega)]at f;exact f
 have p:=zh y;have A:=y.box.cell 0;have z:=y.box.cell 1;have ad:=y.box.lt;simp at A z;have o:([76,67,1]++be 8 a:List UInt8).length=11:=by rw[zJ,iP];rfl
 obtain⟨A4,c4,rfl,_⟩:=fT y.own;have ay:(q.size:Int)/256=((UInt8.ofNat (q.size/256)).toNat:Int):=by have:=BQ q.size;omega
 have aw:=DC q.size
 have S:pre a q.data.toList=([76,67,1]++be 8 a) ++ [UInt8.ofNat (q.size/256),UInt8.ofNat q.size]++q.data.toList:=by
  unfold pre;rw[fB,be2]
 have Hpre:=zh S;have Henc:Hid (enc a q.data.toList=pre a q.data.toList++le4 (crc (pre a q.data.toList))):=zh rfl;clear f y S;generalize UInt8.ofNat (q.size/256)=X at *;generalize UInt8.ofNat q.size=Z at *;generalize ([76,67,1]++be 8 a:List UInt8)=M at *;have Hln:=zh o;clear o;go_wp2_with (at_builtin;refine vJ _ rfl _ _ 30 rfl (w.heap.size+1) 5 i0 _ 1 1 underlying30 E F G D rfl jd _ _ _ rfl (p.out.alloc (.cells #[.int .u8 (X.toNat:Int),.int .u8 (Z.toNat:Int)] 5)).own ⟨wr.heap.size,0,none⟩ 2 2 [.int .u8 (X.toNat:Int),.int .u8 (Z.toNat:Int)] rfl rfl ?d1 ?d2 ?d3 ?d4 ?d5 ?_)
 case d1=>exact vH (cs:=#[.int .u8 (X.toNat:Int),.int .u8 (Z.toNat:Int)]) (t:=5) (fr:=(0,0)) (vK wr _)
 case d2=>intro u r;simp at r;rcases r with rfl|rfl<;>rfl
 case d3=>unfold maxLen;have:=Hln.out;omega
 case d4=>have:=Hln.out;omega
 case d5=>have:=p.out.box.lt;simp;omega
 intro v' w5 d m _;have W:=zh ((p.out.alloc (.cells #[.int .u8 (X.toNat:Int),.int .u8 (Z.toNat:Int)] 5)).put (N:=[X,Z]) rfl d m);clear d m;have ao:=W.out.box.cell 0;have ai:=W.out.box.cell 1;have aE:=W.out.box.lt;simp at ao ai;have R:(M ++ [X,Z]).length=13:=by rw[zJ,Hln.out];rfl
 obtain⟨A6,c6,rfl,_⟩:=fT W.out.own;generalize (M ++ [X,Z])=M6 at *;have Hln6:=zh R;clear A z p R ay aw;go_wp2_with (at_builtin;refine Lib.wpList_append_own_string _ rfl _ _ 30 9 rfl (w.heap.size+1) 5 i0 underlying30 underlying9 E F G D _ _ _ rfl W.out.own q rfl ?d3 ?d4 ?d5 ?_)
 case d3=>unfold maxLen;have:=Hln6.out;omega
 case d4=>have:=Hln6.out;omega
 case d5=>omega
 intro v7 T B aa _;have H7:=zh (W.out.put (N:=q.data.toList) (fB q) B aa);clear B aa;rw[←Hpre.out]at H7;have ak:(pre a q.data.toList).length≤1037:=by rw[vE,fB];omega
 generalize pre a q.data.toList=L at *;have Hlp:=zh ak;obtain⟨A7,c7,rfl,aj⟩:=fT H7.out.own;have az:=H7.out.box.lt;have H8:=zh (H7.out.alloc (.cells #[.slice A7 L.length c7] 30));have Hp:=zh (Blk.new T 30 #[.slice A7 L.length c7]);have ag:Hid ((T.alloc (.cells #[.slice A7 L.length c7] 30)).heap.size=T.heap.size+1):=zh jz;have Y:=(zy T.heap.size T).alloc (zG _) (.cells #[.slice A7 L.length c7] 30);have af:=zh ((aj.below Y).more Y.size);clear aj H7 W ao ai ak Y;go_wp2_with fail;generalize au:T.alloc (.cells #[.slice A7 L.length c7] 30)=w8 at *;clear au;have c9:=LQ T.heap.size A7 L.length c7 1 L w8 (Hp.out.cell 0) (by rw[ag.out];omega) af.out (by have:=Hlp.out;omega);refine c9.mono ?_;rintro e w9 ⟨rfl,an⟩;have H9:=zh (H8.out.below an);have O:=Cy L;clear c9 an H8 af Hp ag;generalize ac:crc L=s at *;have aI:=zh ac;clear ac;have aH:(0:Int)≤(s:Int):=jo;have aD:=zh O;clear O;go_wp2_with fail;go_loopw [4,45] (fun v i wr=>∃k:Nat,k≤4∧i=.int .i64 (k:Int)∧Enc w wr (a:Int) q v (L++(le4 s).take k)) (fun _ i _=>4-(intOf i).toNat)
 case atStart=>exact⟨0,jo,rfl,by simpa using H9.out⟩
 obtain⟨j,hj,rfl,f⟩:=hrel;have p:=zh f;have aA:=f.box.lt;obtain⟨A4,c4,rfl,_⟩:=fT f.own;clear f;by_cases V:j<4
 ·have U:=vh s (8*j)
  have o:(L++(le4 s).take j).length≤1041:=by
   rw[zJ,zK,vD];have:=Hlp.out;omega
  have Happ:Hid (L++(le4 s).take (j+1)=(L++(le4 s).take j) ++ [UInt8.ofNat (s/2 ^ (8*j))]):=zh (by rw[Je s j V,List.append_assoc]);generalize UInt8.ofNat (s/2 ^ (8*j))=x at *;generalize (L++(le4 s).take j)=M4 at *;have Hln4:=zh o;clear o;go_wp2_with (at_builtin;refine vJ _ rfl _ _ 30 rfl (w.heap.size+1) 5 i0 _ 1 1 underlying30 E F G D rfl jd _ _ _ rfl (p.out.alloc (.cells #[.int .u8 (x.toNat:Int)] 5)).own ⟨wr.heap.size,0,none⟩ 1 1 [.int .u8 (x.toNat:Int)] rfl rfl ?d1 ?d2 ?d3 ?d4 ?d5 ?_)
  case d1=>exact vH (cs:=#[.int .u8 (x.toNat:Int)]) (t:=5) (fr:=(0,0)) (vK wr _)
  case d2=>intro u r;simp at r;subst r;rfl
  case d3=>unfold maxLen;have:=Hln4.out;omega
  case d4=>have:=Hln4.out;omega
  case d5=>have:=p.out.box.lt;simp;omega
  intro v' w5 d m _;have Fin:=zh ((p.out.alloc (.cells #[.int .u8 (x.toNat:Int)] 5)).put (N:=[x]) rfl d m);clear d m;go_wp2;go_roundw
  case rel=>exact⟨j+1,jo,ju,by rw[Happ.out];exact Fin.out⟩
  simp[intOf];omega
 have ah:Hid (Enc w wr (a:Int) q (.slice A4 (L++(le4 s).take j).length c4) (enc a q.data.toList)):=zh (by
  have:=p.out;rw[zR (l:=le4 s) (by rw[vD];omega)]at this ⊢;rw[Henc.out]
  exact this)
 clear p;go_wp2;go_ret2;exact⟨⟨_,rfl,Joins.ownsRow_le ah.out.own jo⟩,ah.out.bel⟩
end Cu

namespace Cr
open Go.RowKit
theorem M3(s:Nat)(q:UInt8)(w:World)(hs:s<2 ^ 32):Calls prog 174 #[.int .u32 (s:Int),.int .u8 (q.toNat:Int)] w fun e w'=>e=.returned (.int .u32 (on s q:Nat))∧w=w':=by
 have A:=q.toNat_lt;have a:=p7 s q.toNat hs jo;have d:s ^^^ q.toNat<2 ^ 32:=Nat.xor_lt_two_pow hs jo;have h:Hid (on s q=ons 8 (s ^^^ q.toNat)):=zh rfl;generalize on s q=r at *;generalize s ^^^ q.toNat=z at *;have u:(0:Int)≤(s:Int):=jo;have g:(s:Int)≤4294967295:=jo;have i:(q.toNat:Int)<256:=jo;go_enter func174,ntmps174;go_wp2_with fail;clear a
 go_loop [0,5] (fun x n=>∃m:Nat,m≤8∧n=.int .i64 m∧x=.int .u32 (ons m z:Nat)) (fun _ n=>8-(intOf n).toNat)
 case atStart=>exact⟨0,jo,rfl,rfl⟩
 obtain⟨m,y,rfl,rfl⟩:=hrel;have v:=Cz m d;have b:Hid (ons (m+1) z=on1 (ons m z)):=zh rfl;have f:Hid (m=8→ons m z=r):=zh (fun e=>by rw[e,h.out]);generalize ons m z=x at *;have k:(0:Int)≤(x:Int):=jo;have j:(x:Int)≤4294967295:=jo;by_cases l:m<8
 ·have p:(m:Int)<8:=jo;rcases Nat.mod_two_eq_zero_or_one x with h2|h2
  ·have o:(x:Int)%2=0:=jo;have Fin:Hid (on1 x=x/2):=zh (by unfold on1;rw[zH jo]);clear h2;go_wp2
   go_round
   case rel=>exact⟨m+1,jo,ju,by rw[b.out,Fin.out,sU]⟩
   simp[intOf];omega
  have o:(x:Int)%2=1:=jo
  have a:bits .xor .u32 ((x:Int)/2) 3988292384=((on1 x:Nat):Int):=by
   rw[←sU,show (3988292384:Int)=((3988292384:Nat):Int)from rfl,p7 _ _ jo jo];unfold on1;rw[zI h2]
  clear h2;go_wp2
  go_round
  case rel=>exact⟨m+1,jo,ju,by rw[b.out]⟩
  simp[intOf];omega
 obtain rfl:m=8:=jo;have c:=f.out rfl;have t:=zh c;clear c;go_wp2;go_ret;rw[t.out];exact⟨rfl,rfl⟩
theorem Hu(s:Nat)(A:Option Addr)(n c:Nat)(L:List UInt8)(w:World)(hs:s<2 ^ 32)(hR:Reads w w.heap.size 1 A n (bv L))(hn:n≤140737488351232) :
  Calls prog 148 #[.int .u32 (s:Int),.slice A n c] w fun e w'=>e=.returned (.int .u32 (iU (run (iU s) L):Nat))∧w=w':=by
 have g:L.length=n:=by have:=hR.1;rw[ij]at this;omega
 have Hln:=zh g;have y:=zh hR;have B:(0:Int)≤(s:Int):=jo;have u:(s:Int)≤4294967295:=jo;have l:=vC hs;have a:=rD s hs;have z:IntKind.u32.signed=false:=rfl;clear hR g;go_enter func148,ntmps148;go_wp2_with fail;clear a
 go_loop [0,5] (fun x i=>∃k:Nat,k≤n∧i=.int .i64 k∧x=.int .u32 (run (iU s) (L.take k):Nat)) (fun _ i=>n-(intOf i).toNat)
 case atStart=>exact⟨0,zS _,rfl,rfl⟩
 obtain⟨k,D,rfl,rfl⟩:=hrel;have j:=rX l (L.take k);by_cases d:k<n
 ·have p:k<L.length:=by rw[Hln.out];exact d
  obtain⟨b,o,C,rfl,v,m⟩:=y.out.at_map d
  have f:run (iU s) (L.take (k+1))=on (run (iU s) (L.take k)) L[k]:=by
   rw[zL p,BN]
  have Hts:=zh f;clear f;generalize run (iU s) (L.take k)=x at *;generalize L[k]=q at *;have r:=M3 x q w j;go_wp2_with fail;refine r.mono ?_;rintro e w' ⟨rfl,rfl⟩;clear r;go_wp2
  go_round
  case rel=>exact⟨k+1,jo,ju,by rw[Hts.out]⟩
  simp[intOf];omega
 obtain rfl:k=n:=jo;have Fin:Hid (L.take k=L):=zh (zR (by rw[Hln.out];exact zG _));have a:=rD _ j;rw[Fin.out]at j a ⊢;generalize h:run (iU s) L=x at *;have t:=zh h;clear h;go_wp2;go_ret;rw[t.out];exact⟨rfl,rfl⟩
theorem o7(A:Option Addr)(n c:Nat)(L:List UInt8)(w:World)(hR:Reads w w.heap.size 1 A n (bv L))(hn:n≤140737488351232) :
  Calls prog 122 #[.slice A n c] w fun e w'=>e=.returned (.int .u32 (crc L:Nat))∧w=w':=by
 have b:=Hu 0 A n c L w jo hR hn;rw[AY]at b;have a:crc L=iU (run 4294967295 L):=rfl;rw[←a]at b;generalize crc L=r at *;clear a hR;go_enter func122,ntmps122;go_wp2_with fail;refine b.mono ?_;rintro e w' ⟨rfl,rfl⟩;clear b;go_wp2;go_ret;exact⟨rfl,rfl⟩
end Cr

namespace Md
open Go.RowKit Ut Tk Qy Ev Qp
structure DOwnS (w:World) (base:Nat) (S:Nat→Prop) (v:Value) (ds:List Dc):Prop where
 ex:∃vss:List (List Value),vss.length=ds.length∧w.ownsRow base 48 3 v ds.length vss.flatten∧∀i (h:i<ds.length) (h':i<vss.length),DcS w S ds[i] vss[i]
section
variable {w w':World} {base:Nat} {S S':Nat→Prop} {v v':Value} {ds:List Dc}
theorem DOwnS.start(w:World)(base:Nat)(S:Nat→Prop):DOwnS w base S (.slice none 0 0) []:=⟨[],rfl,vO _ _ _ _,fun i h=>absurd h (by simp)⟩
theorem DOwnS.same(h:DOwnS w base S v ds)(hk:∀b,v.ownBlock=some b→w'.heap[b]?=w.heap[b]?)(hS:∀b,S b→S' b∧w'.heap[b]?=w.heap[b]?):DOwnS w' base S' v ds:=by
 obtain⟨c,e,f,d⟩:=h.ex;exact⟨c,e,gz f hk,fun i a b=>(d i a b).same hS⟩
theorem DOwnS.below(h:DOwnS w base S v ds)(hb:zWW w w')(hS:∀b,S b→b<w.heap.size):DOwnS w' base S v ds:=by
 obtain⟨d,g,c,f⟩:=h.ex;exact h.same (fun b e=>hb.block b (fO c e).lt) (fun b a=>⟨a,hb.block b (hS b a)⟩)
theorem DOwnS.mono{base':Nat}(h:DOwnS w base S v ds)(hb:base'≤base):DOwnS w base' S v ds:=by
 obtain⟨a,c,d,b⟩:=h.ex;exact⟨a,c,lH d hb,b⟩
theorem DOwnS.read(h:DOwnS w base S v ds):∃A c,v=.slice A ds.length c∧DocsS w (fun b=>base≤b∧b<w.heap.size) S A ds.length ds∧ds.length≤c∧(A=none→c=0):=by
 obtain⟨a,g,d,f⟩:=h.ex;obtain⟨A,c,rfl,_,i,j,_⟩:=Ev.fP d;exact⟨A,c,rfl,⟨rfl,a,g,(ReadsS.of_own d).mono (fun b e=>⟨e.1,e.2.1⟩),f⟩,i,j⟩
theorem DOwnS.row{g:Nat}{cs:Array Value}(h:DOwnS w base S v ds)(hg:Blk w g 42 cs)(hS:∀b,S b→b≠g)(cs':Array Value):DOwnS (w.setRow g cs') base S v ds:=by
 obtain⟨d,j,c,i⟩:=h.ex;exact h.same (fun b f=>vL w g b cs' (fun e=>by subst e;exact absurd ((fO c f).one ⟨_,_,hg⟩) jd)) (fun b a=>⟨a,vL w g b cs' (hS b a)⟩)
theorem BV{R:Nat→Prop}{A:Option Addr}{n:Nat}(h:DocsS w R S A n ds)(hR:∀b,R b→b<w.heap.size)(hS:∀b,S b→b<w.heap.size):DocsAt w w.heap.size A n ds:=by
 obtain⟨c,j,f,d⟩:=h.ex
 exact⟨h.ln,c,j,f.reads hR,fun i a b=>by
  obtain⟨F,m,l,e,k,g⟩:=(d i a b).ex
  exact⟨F,m,l,e,k.reads hS,g⟩⟩
theorem uJ{vss:List (List Value)}{d:Dc}{u:List Value}{k:Nat}(h1:vss.length=ds.length)(h3:∀i (h:i<ds.length) (h':i<vss.length),DcS w S ds[i] vss[i])(hd:DcS w S d u)(hk:k≤ds.length)
  (hp:w'.ownsRow base 48 3 v' (ds.length+1) ((vss.take k).flatten++u++(vss.drop k).flatten)) (hS:∀b,S b→w'.heap[b]?=w.heap[b]?):DOwnS w' base S v' (ds.take k ++ [d]++ds.drop k):=by
 have j:(ds.take k ++ [d]++ds.drop k).length=ds.length+1:=jm;refine⟨vss.take k ++ [u]++vss.drop k,jm,?_,fun i a b=>?_⟩
 ·rw[j];simpa using hp
 refine DcS.same ?_ (fun b g=>⟨g,hS b g⟩);by_cases l:i<k
 ·have c:(ds.take k ++ [d]++ds.drop k)[i]=ds[i]'jo:=by
   rw[zl jm,zl jm,List.getElem_take]
  have e:(vss.take k ++ [u]++vss.drop k)[i]=vss[i]'jo:=by
   rw[zl jm,zl jm,List.getElem_take]
  rw[c,e];exact h3 i jo jo
 by_cases f:i=k
 ·subst f
  have c:(ds.take i ++ [d]++ds.drop i)[i]=d:=by
   rw[zl jm,zn jm];simp[zK,Nat.min_eq_left hk]
  have e:(vss.take i ++ [u]++vss.drop i)[i]=u:=by
   rw[zl jm,zn jm];simp[zK,h1,Nat.min_eq_left hk]
  rw[c,e];exact hd
 have c:(ds.take k ++ [d]++ds.drop k)[i]=ds[i-1]'jo:=by
  rw[zn jm,List.getElem_drop];congr 1;simp;omega
 have e:(vss.take k ++ [u]++vss.drop k)[i]=vss[i-1]'jo:=by
  rw[zn jm,List.getElem_drop];congr 1;simp;omega
 rw[c,e];exact h3 (i-1) jo jo
end
theorem Hw{w w5:World}{base:Nat}{S:Nat→Prop}{v':Value}{ds:List Dc}{d:Dc}{u:List Value}{vss:List (List Value)}(h1:vss.length=ds.length)(h3:∀i (h:i<ds.length) (h':i<vss.length),DcS w S ds[i] vss[i])(hd:DcS w S d u)
  (hp:w5.ownsRow base 48 3 v' (ds.length+1) (vss.flatten++u)) (hS:∀b,S b→w5.heap[b]?=w.heap[b]?):DOwnS w5 base S v' (ds ++ [d]):=by
 have h:=uJ (k:=ds.length) h1 h3 hd (zG _) (by rw[←h1,List.take_length,List.drop_length];rw[h1];simpa using hp) hS
 simpa using h
end Md

namespace Cu
open Go.RowKit Cr Qp Qy
def DecR(L:List UInt8)(a:Int)(q:ByteArray)(E:Int):Prop:=
 (∃n:Nat,a=n∧IsC a q∧L=enc n q.data.toList∧E=0)∨((∀(n:Nat) (q':ByteArray),IsC n q'→L≠enc n q'.data.toList)∧a=0∧q=⟨#[]⟩∧E=250)
theorem wR{q q':ByteArray}(h:q.data.toList=q'.data.toList):q=q':=by
 cases q;cases q';congr 1;exact Array.toList_inj.1 h
theorem IsC.enc_inj{n n':Nat}{q q':ByteArray}(h:IsC n q)(h':IsC n' q')(e:enc n q.data.toList=enc n' q'.data.toList):n=n'∧q=q':=by
 have d:=h.short;have b:=h'.short;obtain⟨c,a⟩:=Cu.enc_inj (by have:=h.2.1;omega) (by have:=h'.2.1;omega) (by rw[fB];omega) (by rw[fB];omega) e;exact⟨c,wR a⟩
theorem DecR.det{L:List UInt8}{a a':Int}{q q':ByteArray}{E E':Int}(h:DecR L a q E)(h':DecR L a' q' E'):a=a'∧q=q'∧E=E':=by
 rcases h with⟨n,rfl,d,b,f⟩|⟨m,d,b,f⟩<;>rcases h' with⟨i,rfl,e,c,g⟩|⟨k,e,c,g⟩
 ·obtain⟨j,l⟩:=d.enc_inj e (b.symm.trans c);exact⟨by rw[j],l,f.trans g.symm⟩
 ·exact absurd b (k n q d)
 ·exact absurd c (m i q' e)
 exact⟨d.trans e.symm,b.trans c.symm,f.trans g.symm⟩
def sJ(w:World)(L:List UInt8)(e:Ending)(w':World):Prop:=∃(a:Int) (q:ByteArray) (E:Int),DecR L a q E∧e=.returned (.tuple #[.agg #[.int .i64 a,.string q],.int .i64 E])∧zWW w w'
theorem CH{L:List UInt8}{z:Int}{q:ByteArray}(hz:aOf L<9223372036854775808→z=aOf L)(hq:q.data.toList=qOf L∨q.data.toList=mq L):(∃n:Nat,z=n∧IsC z q∧enc n q.data.toList=L)∨∀(n:Nat) (q':ByteArray),IsC n q'→L≠enc n q'.data.toList:=by
 by_cases h:∃(n:Nat) (q':ByteArray),IsC n q'∧L=enc n q'.data.toList
 ·obtain⟨n,q',a,rfl⟩:=h;left;have g:=a.short;have f:n≤1099511627776:=by have:=a.2.1;omega
  have b:=vG n q'.data.toList jo;rw[b]at hz;have d:=hz jo
  have e:q=q':=by
   rcases hq with hq|hq
   ·rw[vW n q'.data.toList (by rw[fB];omega)]at hq;exact wR hq
   rw[Jd n q'.data.toList]at hq;exact wR hq
  subst d e;exact⟨n,rfl,a,rfl⟩
 right;intro n q' a c;exact h ⟨n,q',a,c⟩
theorem Fu(L:List UInt8):strOfNums (L.map fun x=>(x.toNat:Int))=⟨L.toArray⟩:=by
 have h:(L.map fun x=>(x.toNat:Int)).map (fun n=>UInt8.ofNat n.toNat)=L:=by
  rw[List.map_map]
  conv=>rhs;rw[←List.map_id L]
  apply List.map_congr_left;intro x _;simp
 unfold strOfNums;rw[h]
theorem nG{w:World}{A:Option Addr}{n:Nat}(c:Nat){L:List UInt8}{B:Nat}(hR:Reads w B 1 A n (bv L)):(convert 30 9 (.slice A n c)).run prog w=.ok (.string ⟨L.toArray⟩) w:=by
 have d:L.length=n:=by have:=hR.1;rw[ij]at this;omega
 by_cases e:n=0
 ·subst e;obtain rfl:=List.eq_nil_of_length_eq_zero d
  cases A with
  | none=>exact run_convert_bytes_nil w 30 5 underlying30 underlying5 0 c 9 underlying9
  | some a=>
   rw[run_convert_bytes_string w 30 9 5 _ 0 c underlying30 underlying5 underlying9,
    run_bytesToString w a 0 c [] (by simp[loadCells,loadCellsFrom])]
   rfl
 obtain⟨b,o,rfl,_,f⟩:=hR.2 jo
 have:=run_convert_bytes_arg w 30 5 underlying30 underlying5 b o n c (L.map fun x=>(x.toNat:Int)) (by rw[List.length_map,d]) (fun i g=>by
  rw[f i (.int .u8 ((L[i]'jo).toNat:Int)) (by unfold bv;rw[List.getElem?_map,zU jo];rfl)]
  simp[List.getD,List.getElem?_map,zU (show i<L.length by omega)]) 9 underlying9
 rw[this,Fu]
end Cu

namespace Rg
open Go.RowKit
theorem add_lit(b o n:Nat):(⟨b,o,none⟩:Addr).add n=⟨b,o+n,none⟩:=by unfold Addr.add;split<;>simp_all
section
variable {w:World} {B n c p k:Nat} {A:Option Addr} {X:List Value}
end
structure Row (T:TypeId) (k B:Nat) (w wr:World) (v:Value) (n:Nat) (X:List Value):Prop where
 own:wr.ownsRow B T k v n X
 bel:Below B w wr
section
variable {T:TypeId} {k B n:Nat} {w wr w':World} {v:Value} {X:List Value}
theorem Row.start(hb:Below B w wr):Row T k B w wr (.slice none 0 0) 0 []:=⟨vO _ _ _ _,hb⟩
theorem Row.empty(T:TypeId)(k:Nat)(hk:0<k)(w:World):Row T k w.heap.size w (w.alloc (.cells #[] T)) (.slice (some ⟨w.heap.size,0,none⟩) 0 0) 0 []:=
 ⟨World.ownsRow_lit (base:=w.heap.size) (e:=T) (size:=k) w #[] 0 jz jx jz,zRR _⟩
theorem Row.below(h:Row T k B w wr v n X)(hB:B≤wr.heap.size)(hb:zWW wr w'):Row T k B w w' v n X:=
 ⟨h.own.kept (fH hb none) (by cases v.ownBlock<;>simp),h.bel.trans (hb.mono hB)⟩
theorem Row.alloc(h:Row T k B w wr v n X)(hB:B≤wr.heap.size)(o:Obj):Row T k B w (wr.alloc o) v n X:=h.below hB (zRR _)
theorem Row.app{w5:World}{v5:Value}{m:Nat}{Y:List Value}(h:Row T k B w wr v n X)(hB:B≤wr.heap.size)(ho:w5.ownsRow B T k v5 (n+m) (X++Y))(hg:wr.grownBy w5 v.ownBlock):Row T k B w w5 v5 (n+m) (X++Y):=
 ⟨ho,h.bel.grown hg hB (fun b a=>(h.own.lt b a).1)⟩
theorem J2{w:World}{B B' n:Nat}{T:TypeId}{v:Value}{xs:List Value}(h:w.ownsRow B T k v n xs)(hB:B'≤B):w.ownsRow B' T k v n xs:=by
 obtain⟨d,e|⟨g,b,a,i,j,f⟩⟩:=h
 ·exact⟨d,.inl e⟩
 exact⟨d,.inr ⟨g,b,a,i,jo,f⟩⟩
theorem Row.over{w2:World}(h:Row T k B wr w2 v n X)(hw:zWW w wr)(hB:w.heap.size≤B):Row T k w.heap.size w w2 v n X:=⟨J2 h.own hB,hw.trans (h.bel.mono hB)⟩
theorem CZ(w:World)(T:TypeId)(cs:List Value)(m:Nat)(hl:cs.length=m*k)(h0:0<m):Reads (w.alloc (.cells cs.toArray T)) (w.alloc (.cells cs.toArray T)).heap.size k (some ⟨w.heap.size,0,none⟩) m cs:=
 ⟨hl,fun _=>⟨_,0,rfl,jz,fun j u a=>by
  rw[zi,(Blk.new w T cs.toArray).cell j]
  simpa using a⟩⟩
end
end Rg
end Go.Proofs.YtmomjpolkkbhnaaGreat
