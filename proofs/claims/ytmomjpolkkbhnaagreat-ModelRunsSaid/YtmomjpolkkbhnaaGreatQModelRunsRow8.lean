/- token.word, loggiaref07.cut: the walks. -/
import Derived.Deep.Onto
import Derived.Deep.DeepCutAuto
import Derived.Lib.IndexLaws
import Derived.Laws.BitsAllLaws
import Derived.Test.YtmomjpolkkbhnaaGreatQModelRunsRow6
import Derived.Test.YtmomjpolkkbhnaaGreatQModelRunsRow2
set_option maxRecDepth 20000
set_option maxHeartbeats 100000000
set_option linter.unusedSimpArgs false
open Go.Proofs.Tryz
namespace Go.Proofs.YtmomjpolkkbhnaaGreat
namespace Tk
open Go.RowKit Ut
theorem EB{T e:TypeId}{B b:Nat}{bs:List Value}{w w':World}(h:Lib.IsBuilder T e B b bs w)(hb:zWW w w'):Lib.IsBuilder T e B b bs w':=by
 have g:∀p,Lib.BuilderAt T e B b p bs w→Lib.BuilderAt T e B b p bs w':=fun p h=>by
  have c:=h.lt;obtain⟨i,v,f,a,d⟩:=h;exact⟨i,v,(hb.block b c).trans f,a.kept (fH hb none) (by cases hv:v.ownBlock<;>simp),d⟩
 exact h.imp (g _) (g _)
structure Wr (w wr:World) (a:List UInt8):Prop where
 bu:Lib.IsBuilder 228 5 w.heap.size w.heap.size (Lib.byteCells a) wr
 bel:zWW w wr
theorem Wr.below{w wr w2:World}{a:List UInt8}(h:Wr w wr a)(hb:zWW wr w2):Wr w w2 a:=⟨EB h.bu hb,h.bel.trans (hb.mono h.bel.size)⟩
theorem Wr.start(w:World):Wr w (w.alloc (.cells #[.pointer none,.slice none 0 0] 228)) []:=⟨Lib.fresh_isBuilder _ _ w,zRR _⟩
theorem Ko{w wr:World}{a:List UInt8}(h:Wr w wr a):Calls prog 185 #[.pointer (some ⟨w.heap.size,0,none⟩)] wr fun e w'=>e=.returned (.int .i64 (a.length:Nat))∧wr=w':=
 (Tryz.Builder_Len _ _ _ wr h.bu).mono fun _ _ ⟨he,hw⟩=>⟨by rw[he];simp[Lib.byteCells],hw.symm⟩
theorem GR{w wr:World}{a:List UInt8}(h:Wr w wr a)(s:List UInt8)(hl:a.length+s.length≤100000):Calls prog 186 #[.pointer (some ⟨w.heap.size,0,none⟩),.string (str s)] wr fun e w'=>
  e=.returned (.tuple #[.int .i64 (s.length:Nat),.nilIface])∧Wr w w' (a++s):=by
 have c:=Ec w.heap.size w.heap.size (Lib.byteCells a) (str s) wr h.bu (by rw[ni];simp[Lib.byteCells];omega) h.bel.size;refine c.mono fun e w' ⟨he,hb,hw⟩=>⟨by rw[he,ni],?_,h.bel.trans hw⟩
 have b:Lib.byteCells a++Lib.strCells (str s)=Lib.byteCells (a++s):=by
  simp[Lib.byteCells,Lib.strCells,str]
 rw[←b];exact .inr hb
theorem yK{w wr:World}{a:List UInt8}(h:Wr w wr a):Calls prog 187 #[.pointer (some ⟨w.heap.size,0,none⟩)] wr fun e w'=>e=.returned (.string (str a))∧zWW w w':=
 (Tryz.Builder_String_any _ _ a wr h.bu h.bel.size).mono fun _ _ ⟨he,hw⟩=>⟨he,h.bel.trans hw⟩
theorem yL(w:World)(t:TypeId)(z:Int):Reads (w.alloc (.cells #[.int .i64 z] t)) (w.alloc (.cells #[.int .i64 z] t)).heap.size 1 (some ⟨w.heap.size,0,none⟩) 1 ([z].map (Value.int .i64)):=by
 refine⟨jz,fun _=>⟨_,_,rfl,jz,fun j u a=>?_⟩⟩
 match j,a with
 | 0,a=>
  simp only[List.map_cons,List.map_nil,zB,Option.some.injEq]at a;subst a;exact(Blk.new w t #[.int .i64 z]).cell 0
theorem yM(z:Int):gh [z]=enc z:=by simp[gh]
theorem GU(A:Option Addr)(n c:Nat)(l:List Nat)(w:World)(hR:Reads w w.heap.size 1 A n (rv l))(hn:n≤4398046511104) :
  Calls prog 166 #[.slice A n c] w fun e w'=>e=.returned (.string (str (fu l)))∧zWW w w':=by
 have h:l.length=n:=by have:=hR.1;simpa[rv]using this
 have U:=zh hR;have O:=zh h;have W:=zh (Wr.start w);clear hR h;go_enter func166,ntmps166;go_wp2;go_loopw [9] (fun i wr=>∃(k:Nat) (a:List UInt8),k≤n∧i=.int .i64 k∧a.length≤32∧fu l=kD a (l.drop k)∧Wr w wr a) (fun i _=>n-(intOf i).toNat)
 case atStart=>exact⟨0,[],zS _,rfl,jz,rfl,W.out⟩
 obtain⟨k,a,hk,rfl,Z,b,q⟩:=hrel;by_cases E:k<n
 ·obtain⟨S,R,C,rfl,I,u⟩:=Reads.at_map (f:=fun r:Nat=>Value.int .i64 (r:Int)) U.out E;have X:=(q.bel.cell (p:=⟨S,R+k,none⟩) I).trans u;rw[zf C,nD]at b;have M:=GG (l[k]:Int) wr;have Y:=zh q;have Hwd:=zh b;have V:=nI (lower (l[k]:Int));clear b u q;generalize lower (l[k]:Int)=z at *;generalize (l[k]:Int)=r at *;go_wp2_with fail;refine M.mono ?_;rintro e N ⟨rfl,v⟩;have m:=(Y.out.below v).below ((zy _ _).alloc (zG N.heap.size) (.cells #[.int .i64 z] 3));have D:=qa _ 1 1 [z] _ (yL N 3 z) jo;rw[yM]at D;have G:=zh m;clear m v M;go_wp2_with fail;refine D.mono ?_;rintro e w3 ⟨rfl,o⟩;have d:=G.out.below o;have H:=Ko d;have F:=GR d (enc z) jo;have y:=yK d;have T:=zh y;have P:=ni (enc z);generalize enc z=s at *;clear o D d y;by_cases g:32<a.length+s.length
  ·have x:(32:Int)<(a.length:Int)+(s.length:Int):=jo;have Fin:Hid (fu l=a):=zh (by rw[Hwd.out,zI g]);clear g F;go_wp2_with fail;refine H.mono ?_;rintro e w' ⟨rfl,rfl⟩;go_wp2_with (go_at_call 187;refine T.out.mono ?_;rintro e J ⟨rfl,j⟩);go_ret;exact⟨by rw[Fin.out];rfl,j⟩
  have x:(a.length:Int)+(s.length:Int)≤32:=jo;have Fin:Hid (fu l=kD (a++s) (l.drop (k+1))):=zh (by rw[Hwd.out,zH g]);clear g;go_wp2_with fail;refine H.mono ?_;rintro e w' ⟨rfl,rfl⟩;go_wp2_with fail;refine F.mono ?_;rintro e J ⟨rfl,t⟩;have B:=zh t;clear t H F;go_wp2;go_roundw
  case rel=>exact⟨k+1,a++s,jo,ju,by rw[zJ];omega,Fin.out,B.out⟩
  simp[intOf];omega
 have L:l.drop k=[]:=List.drop_eq_nil_of_le (by rw[O.out];omega);rw[L]at b;have Fin:Hid (fu l=a):=zh b;have y:=yK q;clear b L q;go_wp2_with (go_at_call 187;refine y.mono ?_;rintro e J ⟨rfl,j⟩);go_ret;exact⟨by rw[Fin.out];rfl,j⟩
def Dm(x:List UInt8 × Int):List Value:=[.string (str x.1),.int .i64 x.2]
def iN(ws:List (List UInt8 × Int)):List Value:=ws.flatMap Dm
theorem GV(ws:List (List UInt8 × Int))(x:List UInt8 × Int):iN (ws ++ [x])=iN ws++Dm x:=by simp[iN]
def gm(ws:List (List UInt8)):List (List UInt8 × Int):=ws.zipIdx.map fun p=>(p.1,(p.2:Int))
theorem yN(ws:List (List UInt8)):(gm ws).length=ws.length:=by simp[gm]
theorem Ed(ws:List (List UInt8))(x:List UInt8):gm (ws ++ [x])=gm ws ++ [(x,(ws.length:Int))]:=by
 simp[gm,List.zipIdx_append]
theorem Au:(prog.info? 206).map (fun i=>(i.zero,i.size,i.bytes))=some (some (.agg #[.string ByteArray.empty,.int .i64 0]),2,24):=by kernel_rfl
theorem uB:(prog.info? 3).map (fun i=>(i.zero,i.size,i.bytes))=some (some (.int .i64 0),1,8):=by kernel_rfl
def rG(w:World)(ws:List (List UInt8))(e:Ending)(w':World):Prop:=
 ∃v,e=.returned v∧w'.ownsRow w.heap.size 206 2 v ws.length (iN (gm ws))∧zWW w w'
structure Toks (w wr:World) (v:Value) (ws:List (List UInt8)):Prop where
 own:wr.ownsRow w.heap.size 206 2 v ws.length (iN (gm ws))
 bel:zWW w wr
theorem Toks.below{w wr w2:World}{v:Value}{ws:List (List UInt8)}(h:Toks w wr v ws)(hb:zWW wr w2):Toks w w2 v ws:=
 ⟨h.own.kept (fH hb none) (by cases hv:v.ownBlock<;>simp),h.bel.trans (hb.mono h.bel.size)⟩
theorem Toks.start(w wr:World)(hb:zWW w wr):Toks w wr (.slice none 0 0) []:=⟨vO _ _ _ _,hb⟩
theorem Toks.put{w wr w2:World}{v v':Value}{ws:List (List UInt8)}{x:List UInt8}(h:Toks w wr v ws)
  (hp:w2.ownsRow w.heap.size 206 2 v' (ws.length+1) (iN (gm ws) ++ [.string (str x),.int .i64 (ws.length:Int)])) (hg:wr.grownBy w2 v.ownBlock):Toks w w2 v' (ws ++ [x]):=by
 refine⟨?_,h.bel.grown hg h.bel.size (fun k a=>(h.own.lt k a).1)⟩;rw[Ed,GV,zJ];exact hp
end Tk

namespace Tk
open Go.RowKit Ut
structure Far (l L:List Nat) (k f:Nat) (ws:List (List UInt8)):Prop where
 le:f≤k
 eq:(iC [] l).map fu=ws++(iC ((L.take k).drop f) (L.drop k)).map fu
 all:∀r∈(L.take k).drop f,gA (r:Int)=true
theorem Far.start(l:List Nat):Far l (l ++ [32]) 0 0 []:=⟨zG _,by
 rw[List.drop_zero,List.nil_append,List.drop_zero,List.take_zero,uN l [] 32 Io],jz⟩
theorem Far.word_{l L:List Nat}{k f:Nat}{ws:List (List UInt8)}(h:Far l L k f ws)(hk:k<L.length)(hw:gA (L[k]:Int)=true):Far l L (k+1) f ws:=by
 have e:(L.take (k+1)).drop f=(L.take k).drop f ++ [L[k]]:=by
  rw[zL hk,List.drop_append_of_le_length (by rw[zK];have:=h.le;omega)]
 refine⟨by have:=h.le;omega,?_,?_⟩
 ·rw[h.eq,zf hk,lD,hw,zI rfl,e]
 intro r hr;rw[e]at hr;rcases List.mem_append.1 hr with hr|hr
 ·exact h.all r hr
 simp only[List.mem_singleton]at hr;subst hr;exact hw
theorem Far.gap{l L:List Nat}{k f:Nat}{ws:List (List UInt8)}(h:Far l L k f ws)(hk:k<L.length)(hw:gA (L[k]:Int)=false)(hf:¬f<k):Far l L (k+1) (k+1) ws:=by
 have c:=h.le;obtain rfl:f=k:=jo;have e:(L.take f).drop f=[]:=List.drop_eq_nil_of_le jw;have a:(L.take (f+1)).drop (f+1)=[]:=List.drop_eq_nil_of_le jw;refine⟨zG _,?_,by rw[a];intro r b;cases b⟩;rw[h.eq,zf hk,lD,hw,zH jd,e,a];rfl
theorem Far.end_{l L:List Nat}{k f:Nat}{ws:List (List UInt8)}(h:Far l L k f ws)(hk:k<L.length)(hw:gA (L[k]:Int)=false)(hf:f<k):Far l L (k+1) (k+1) (ws ++ [fu ((L.take k).drop f)]):=by
 have a:(L.take (k+1)).drop (k+1)=[]:=List.drop_eq_nil_of_le jw
 have b:(L.take k).drop f≠[]:=by
  intro e;have:=congrArg List.length e;rw[zP,zK,List.length_nil]at this;omega
 refine⟨zG _,?_,by rw[a];intro r c;cases c⟩;rw[h.eq,zf hk,lD,hw,zH jd,a];simp[last,b]
theorem Far.done{l:List Nat}{f:Nat}{ws:List (List UInt8)}(h:Far l (l ++ [32]) (l ++ [32]).length f ws):(iC [] l).map fu=ws:=by
 have b:=h.all;rw[h.eq,List.drop_length,mN];rw[List.take_length]at b ⊢
 have c:(l ++ [32]).drop f=[]:=by
  rcases zj f (l ++ [32]).length with hf|hf
  ·exfalso
   have a:(32:Nat)∈(l ++ [32]).drop f:=by
    rw[List.drop_append_of_le_length (by simp at hf;omega)];simp
   have:=b 32 a
   revert this
   decide
  exact List.drop_eq_nil_of_le hf
 rw[c];simp[last]
theorem _root_.Go.Proofs.YtmomjpolkkbhnaaGreat.Reads.sub{w:World}{B g o n m k:Nat}{xs:List Value}(h:Reads w B 1 (some ⟨g,o,none⟩) n xs)(hm:m≤k)(hk:k≤n):Reads w B 1 (some ⟨g,o+m,none⟩) (k-m) ((xs.take k).drop m):=by
 have i:=h.1;refine⟨by rw[zP,zK];omega,fun l=>?_⟩;obtain⟨b,f,e,d,c⟩:=h.2 jo;injection e with e;injection e with e1 e2;subst e1 e2;refine⟨g,o+m,rfl,d,fun j u a=>?_⟩;rw[List.getElem?_drop,List.getElem?_take]at a
 split at a
 ·have:=c (m+j) u a;rw[←Nat.add_assoc]at this;exact this
 cases a
theorem xd(s:ByteArray)(w:World)(hs:s.size≤1048576):Calls prog 142 #[.string s] w (rG w (words s.data.toList)):=by
 obtain⟨i0,ag,ah,al,ac⟩:=info_parts Au;obtain⟨j0,am,Y,an,aj⟩:=info_parts uB;have c0:=GK s w jo;have ad:=uA s.data.toList;rw[fB]at ad;have Fin:Hid (words s.data.toList=(iC [] (gq s.data.toList)).map fu):=rfl;generalize words s.data.toList=aa at *;generalize gq s.data.toList=l at *;go_enter func142,ntmps142;go_wp2
 go_step3
 go_wp2_with fail;refine c0.mono ?_;rintro e w1 ⟨v,rfl,o,z⟩;have U:=z.size;go_wp2_with (at_builtin;refine wpList_append_lies _ rfl _ _ 27 rfl w.heap.size 3 j0 (.int .i64 0) 1 8 underlying27 am Y an aj rfl jd _ _ _ rfl (o.alloc _) ⟨w1.heap.size,0,none⟩ 1 1 [.int .i64 32] rfl rfl ?c1 ?c2 ?c0 ?c3 ?c4 ?c5 (w1.heap.size+1) ?c6 ?_)
 case c1=>exact vH (cs:=#[.int .i64 32]) (t:=3) (fr:=(0,0)) (vK w1 _)
 case c2=>intro u R;simp at R;subst R;rfl
 case c0=>omega
 case c3=>unfold maxLen;omega
 case c4=>omega
 case c5=>simp;omega
 case c6=>simp
 intro g E y a J _ au
 have X:l.length+1≤E:=by
  rcases a.2 with⟨V,_⟩|⟨g',ar,ax,V,_,_,ay,_⟩
  ·cases V
  injection V with _ _ V;omega
 have hL:rv l ++ [Value.int .i64 32]=rv (l ++ [32]):=by simp[rv]
 rw[hL]at a;have T:zWW w y:=(z.alloc U _).grown J jm (fun j hj=>(o.lt _ hj).1);have O:(l ++ [32]).length=l.length+1:=jz;have hR:=Reads.of_own a;have S0:Toks y y (.slice none 0 0) []:=Toks.start y y (zy _ _);have F0:=Far.start l;have HR:=zh hR;have af:=zh S0;have ai:=zh F0;have M:=zh T;have W:=zh O;have S:=fun f ws=>Far.done (l:=l) (f:=f) (ws:=ws)
 have Hfd:=zh S;clear hL a o J hR S0 F0 T O z c0 S;generalize l ++ [32]=L at *;go_wp2_with fail
 go_step3
 go_wp2_with fail;go_loopw [3,5,14] (fun v f i wr=>∃(k m:Nat) (ws:List (List UInt8)),k≤l.length+1∧i=.int .i64 k∧f=.int .i64 m∧Far l L k m ws∧ws.length≤k∧Toks y wr v ws) (fun _ _ i _=>l.length+1-(intOf i).toNat)
 case atStart=>exact⟨0,0,[],zS _,rfl,rfl,ai.out,jz,af.out⟩
 obtain⟨k,m,ws,hk,rfl,rfl,D,az,G⟩:=hrel;by_cases ae:k<l.length+1
 ·obtain⟨ab,ao,B,e,aq,F⟩:=Reads.at_map (f:=fun r:Nat=>Value.int .i64 (r:Int)) HR.out ae;injection e with e;injection e with e1 e2;subst e1 e2;have ak:=(G.bel.cell (p:=⟨g,0+k,none⟩) aq).trans F;rw[zi]at ak;have c1:=Ip (L[k]:Int) wr;have C:=zh G;have HF:=zh D;have aw:=D.le;clear F G D;by_cases P:gA (L[k]:Int)=true
  ·have q:=zh (HF.out.word_ B P);rw[P]at c1;clear P;generalize (L[k]:Int)=r at *;go_wp2_with fail;refine c1.mono ?_;rintro e w3 ⟨rfl,c⟩;have b:=zh (C.out.below c);clear c1 c;go_wp2;go_roundw
   case rel=>exact⟨k+1,m,ws,jo,ju,rfl,q.out,jo,b.out⟩
   simp[intOf];omega
  have d:gA (L[k]:Int)=false:=by simpa using P
  rw[d]at c1;clear P;by_cases hf:m<k
  ·have q:=zh (HF.out.end_ B d hf);clear d;generalize (L[k]:Int)=r at *;go_wp2_with fail;refine c1.mono ?_;rintro e w3 ⟨rfl,c⟩;have b:=zh (C.out.below c);clear c1 c;have A:=(HR.out.below b.out.bel).sub (m:=m) (k:=k) jo jo;have I:((rv L).take k).drop m=rv ((L.take k).drop m):=by unfold rv;rw[←List.map_take,←List.map_drop]
   rw[I,zi]at A;have c2:=GU (some ⟨g,m,none⟩) (k-m) (E-m) _ w3 (A.more b.out.bel.size) jo;obtain⟨A3,d3,rfl,_⟩:=fT b.out.own;clear A I;generalize fu ((L.take k).drop m)=wd at *;go_wp2_with fail;refine c2.mono ?_;rintro e w4 ⟨rfl,N⟩;have x:=b.out.below N;have n:=x.own;have av:=x.bel.size;have ap:=zh x;clear c2 N x;go_wp2_with (at_builtin;refine vJ _ rfl _ _ 189 rfl y.heap.size 206 i0 _ 2 24 underlying189 ag ah al ac rfl jd _ _ _ rfl (n.alloc _) ⟨w4.heap.size,0,none⟩ 1 1 [.string (str wd),.int .i64 (ws.length:Int)] rfl rfl ?d1 ?d2 ?d3 ?d4 ?d5 ?_)
   case d1=>exact vH (cs:=#[.string (str wd),.int .i64 (ws.length:Int)]) (t:=206) (fr:=(0,0)) (vK w4 _)
   case d2=>intro u R;simp at R;rcases R with rfl|rfl<;>rfl
   case d3=>unfold maxLen;omega
   case d4=>omega
   case d5=>simp;omega
   intro v' w5 h H _;have Z:=zh ((ap.out.below (zRR _)).put h H);clear h H n;go_wp2;go_roundw
   case rel=>exact⟨k+1,k+1,_,jo,ju,ju,q.out,by rw[zJ];simp;omega,Z.out⟩
   simp[intOf];omega
  have q:=zh (HF.out.gap B d hf);clear d;generalize (L[k]:Int)=r at *;go_wp2_with fail;refine c1.mono ?_;rintro e w3 ⟨rfl,c⟩;have b:=zh (C.out.below c);clear c1 c;go_wp2;go_roundw
  case rel=>exact⟨k+1,k+1,ws,jo,ju,ju,q.out,jo,b.out⟩
  simp[intOf];omega
 obtain rfl:k=l.length+1:=jo;rw[←W.out]at D;have Fin2:=zh (Hfd.out _ _ D);have C:=zh G;clear D G;go_wp2;rw[Exit.noGoto_ret];go_ret;have e:aa=ws:=by rw[Fin.out,Fin2.out]
 have hz:=M.out.size;exact⟨_,rfl,by rw[e];exact C.out.own.mono hz,M.out.trans (C.out.bel.mono hz)⟩
theorem FI(s:ByteArray)(w:World)(hs:s.size≤1048576):Calls prog 142 #[.string s] w (rG w (words s.data.toList)):=
 xd s w jo
end Tk

namespace Tk
open Go.RowKit Ut
theorem tl(s:ByteArray):s.toList=s.data.toList:=ByteArray.toList_eq s
theorem Av:∀(l:List (List UInt8 × Int)) (k:Nat) (h:k<l.length),(iN l)[k*2]?=some (.string (str l[k].1))∧(iN l)[k*2+1]?=some (.int .i64 l[k].2)
 | x::l,0,_=>⟨rfl,rfl⟩
 | x::l,k+1,h=>by
  have ih:=Av l k (by simpa using h);have b:(k+1)*2=k*2+2:=jo;have a:(k+1)*2+1=(k*2+1)+2:=jo;rw[a,b];exact ih
theorem FJ(ws:List (List UInt8))(k:Nat)(h:k<ws.length):(gm ws)[k]'(by rw[yN];exact h)=(ws[k],(k:Int)):=by
 simp[gm]
theorem mR{w:World}{B n:Nat}{A:Option Addr}{ws:List (List UInt8)}(h:Reads w B 2 A n (iN (gm ws)))(hn:ws.length=n){k:Nat}(hk:k<ws.length) :
  ∃b o,A=some ⟨b,o,none⟩∧b<B∧w.cell? ⟨b,o+k*2,none⟩=some (.string (str ws[k]))∧w.cell? ⟨b,o+k*2+1,none⟩=some (.int .i64 (k:Int)):=by
 obtain⟨b,o,e,c,a⟩:=h.2 jo;have g:=Av (gm ws) k (by rw[yN];exact hk);rw[FJ ws k hk]at g;refine⟨b,o,e,c,a _ _ g.1,?_⟩;have:=a _ _ g.2;rw[←Nat.add_assoc]at this;exact this
def sv(ws:List (List UInt8)):List Value:=(ws.map str).map Value.string
theorem Kq(ws:List (List UInt8))(x:List UInt8):sv (ws ++ [x])=sv ws ++ [.string (str x)]:=by simp[sv]
theorem MS(ws:List (List UInt8)):(sv ws).length=ws.length:=by simp[sv]
def Bf(w:World)(ws:List (List UInt8))(e:Ending)(w':World):Prop:=
 ∃v,e=.returned v∧w'.ownsRow w.heap.size 9 1 v ws.length (sv ws)∧zWW w w'
structure Strs (w wr:World) (v:Value) (ws:List (List UInt8)):Prop where
 own:wr.ownsRow w.heap.size 9 1 v ws.length (sv ws)
 bel:zWW w wr
theorem Strs.below{w wr w2:World}{v:Value}{ws:List (List UInt8)}(h:Strs w wr v ws)(hb:zWW wr w2):Strs w w2 v ws:=
 ⟨h.own.kept (fH hb none) (by cases hv:v.ownBlock<;>simp),h.bel.trans (hb.mono h.bel.size)⟩
theorem Strs.put{w wr w2:World}{v v':Value}{ws:List (List UInt8)}{x:List UInt8}(h:Strs w wr v ws)
  (hp:w2.ownsRow w.heap.size 9 1 v' (ws.length+1) (sv ws ++ [.string (str x)])) (hg:wr.grownBy w2 v.ownBlock):Strs w w2 v' (ws ++ [x]):=by
 refine⟨?_,h.bel.grown hg h.bel.size (fun k a=>(h.own.lt k a).1)⟩;rw[Kq,zJ];exact hp
theorem qx:(prog.info? 9).map (fun i=>(i.zero,i.size,i.bytes))=some (some (.string ByteArray.empty),1,16):=by kernel_rfl
theorem nY(s:ByteArray):(words s.data.toList).length≤s.size:=by
 have b:∀(l c:List Nat),(iC c l).length≤l.length+1∧(c=[]→(iC c l).length≤l.length):=by
  intro l
  induction l with
  | nil=>
   intro c;rw[mN];unfold last
   split<;>simp_all
  | cons r t ih=>
   intro c;rw[lD];have b:=ih (c ++ [r]);have a:=(ih []).2 rfl
   split
   ·refine⟨jm,fun _=>jm⟩
   have f:(last c).length≤1:=by unfold last;split<;>simp
   have d:c=[]→(last c).length=0:=by rintro rfl;rfl
   rw[zJ,zV];exact⟨jo,fun e=>by have:=d e;omega⟩
 unfold words;rw[List.length_map];have:=(b (gq s.data.toList) []).2 rfl;have a:=uA s.data.toList;rw[fB]at a;omega
theorem Nw(w:World)(o o':Obj):((w.alloc o).alloc o').heap[w.heap.size+1]?=some o':=by
 have:=vK (w.alloc o) o'
 simpa using this
theorem z8(s:ByteArray)(w:World)(hs:s.size≤1048576):Calls prog 198 #[.string s] w (Bf w (words s.data.toList)):=by
 obtain⟨R,F,G,I,E⟩:=info_parts qx;have N:=xd s w jo;have V:=nY s;generalize words s.data.toList=d at *;go_enter func198,ntmps198;go_wp2_with fail;refine N.mono ?_;rintro e C ⟨v,rfl,a,m⟩;obtain⟨A,c,rfl,L⟩:=fT a;have M:Strs C C (.slice none 0 0) []:=⟨vO _ _ _ _,zy _ _⟩;have S:=zh L;have D:=zh M;have j:=zh m;clear a L M N m;go_wp2_with fail;go_loopw [3,9] (fun v i wr=>∃k:Nat,k≤d.length∧i=.int .i64 k∧Strs C wr v (d.take k)) (fun _ i _=>d.length-(intOf i).toNat)
 case atStart=>exact⟨0,zS _,rfl,D.out⟩
 obtain⟨k,Z,rfl,g⟩:=hrel;by_cases n:k<d.length
 ·obtain⟨b,o,rfl,O,l,z⟩:=mR S.out rfl n;have T:=(g.bel.cell (p:=⟨b,o+k*2,none⟩) O).trans l;have W:=(g.bel.cell (p:=⟨b,o+k*2+1,none⟩) O).trans z;have q:d.take (k+1)=d.take k ++ [d[k]]:=by rw[zL n]
  have Hts:=zh q;have P:(d.take k).length≤d.length:=jw;have a:=g.own;have U:=g.bel.size;have B:=zh g;clear q l z g;generalize d[k]=x at *;generalize d.take k=y at *;go_wp2_with (at_builtin;refine vJ _ rfl _ _ 57 rfl C.heap.size 9 R _ 1 16 underlying57 F G I E rfl jd _ _ _ rfl ((a.alloc _).alloc _) ⟨wr.heap.size+1,0,none⟩ 1 1 [.string (str x)] rfl rfl ?d1 ?d2 ?d3 ?d4 ?d5 ?_)
  case d1=>exact vH (cs:=#[.string (str x)]) (t:=9) (fr:=(0,0)) (Nw wr _ _)
  case d2=>intro u J;simp at J;subst J;rfl
  case d3=>unfold maxLen;omega
  case d4=>omega
  case d5=>simp;omega
  intro Y X f r _;have H:=zh (((B.out.below (zRR _)).below (zRR _)).put f r);clear f r a;go_wp2;go_roundw
  case rel=>exact⟨k+1,jo,ju,by rw[Hts.out];exact H.out⟩
  simp[intOf];omega
 have h:d.take k=d:=zR jo;rw[h]at g;have B:=zh g;clear g h;go_wp2;go_ret;exact⟨_,rfl,B.out.own.mono j.out.size,j.out.trans (B.out.bel.mono j.out.size)⟩
theorem Bg(x:List UInt8)(s:ByteArray):((str x).toList==s.toList)=(x==s.data.toList):=by rw[tl,tl,gM]
theorem xe(c:UInt8):(kU c=true∧((c.toNat=95)∨(48≤c.toNat∧c.toNat≤57)∨(97≤c.toNat∧c.toNat≤122))) ∨
  (kU c=false∧c.toNat≠95∧(c.toNat<48∨(57<c.toNat∧c.toNat<97)∨122<c.toNat)):=by
 by_cases h:kU c=true
 ·refine .inl ⟨h,?_⟩;unfold kU at h;simp at h;omega
 refine .inr ⟨by simpa using h,?_⟩;unfold kU at h;simp at h;omega
theorem xg(s:ByteArray)(w:World)(hs:s.size≤140737488351232):Calls prog 149 #[.string s] w fun e w'=>e=.returned (.bool (isN s.data.toList))∧zWW w w':=by
  obtain⟨v,C,A,p,o⟩:=qY (P:=prog) 9 30 5 s underlying9 underlying30 underlying5;have Fin:Hid (isN s.data.toList=(decide (1≤s.data.toList.length)&&decide (s.data.toList.length≤32)&&s.data.toList.all kU)):=rfl;rw[fB]at Fin;go_enter func149,ntmps149;go_wp2;go_loopw [8] (fun i wr=>∃k:Nat,k≤s.size∧i=.int .i64 k∧(s.data.toList.take k).all kU=true∧zWW w wr∧(∀j (h:j<s.size),wr.cell? ⟨w.heap.size,j,none⟩=some (.int .u8 ((s[j]).toNat:Int)))) (fun i _=>s.size-(intOf i).toNat)
  case atStart=>
    refine⟨0,zS _,rfl,rfl,(zRR _).drew,fun j t=>?_⟩;exact(World.cell?_alloc_mark w _ _ _ j).trans (o w j t)
  obtain⟨k,D,rfl,a,m,b⟩:=hrel;by_cases d:k<s.size
  · have y:=b k d;have B:=(s[k]).toNat_lt;have f:=nW s k d
    have c:s[k]∈s.data.toList:=by
      have:s.data.toList[k]'(by rw[fB];exact d)=s[k]:=rfl;rw[←this];exact za _
    have Hcl:=zh b;have n:=zh m;have Hal:=zh a;rcases xe s[k]with⟨g,h⟩|⟨g,x,h⟩
    · have Hnx:Hid ((s.data.toList.take (k+1)).all kU=true):=zh (by rw[f,List.all_append,Hal.out];simp[g]);clear b o m a f c g;generalize (s[k]).toNat=z at *;rcases h with rfl|h|h
      all_goals
        have x:True∨True:=.inl trivial;go_wp2
        all_goals first
          | (go_roundw
             case rel=>exact⟨k+1,jo,ju,Hnx.out,n.out,Hcl.out⟩
             simp[intOf];omega)
          | (exfalso;simp only[bne_iff_ne,ne_eq,bne_eq_false_iff_eq,zg]at *;omega)
    have Fin2:Hid (isN s.data.toList=false):=zh (by
      rw[Fin.out];have:s.data.toList.all kU=false:=List.all_eq_false.2 ⟨_,c,by rw[g];decide⟩
      rw[this,Bool.and_false])
    clear b o m a f c g;generalize (s[k]).toNat=z at *;have u:((z:Int) != 95)=true:=by rw[bne_iff_ne];omega
    rcases h with h|h|h
    all_goals
      go_wp2;go_ret;exact⟨by rw[Fin2.out];rfl,n.out⟩
  obtain rfl:k=s.size:=jo;have l:s.data.toList.take s.size=s.data.toList:=zR (Nat.le_of_eq (fB s));rw[l]at a;have Fin2:Hid (isN s.data.toList=(decide (1≤s.size)&&decide (s.size≤32))):=zh (by rw[Fin.out,a,Bool.and_true]);have n:=zh m;clear b o m a l;by_cases r:1≤s.size
  · have q:(1:Int)≤(s.size:Int):=jo;rw[zO r,Bool.true_and]at Fin2;go_wp2;go_ret;exact⟨by rw[Fin2.out];simp;omega,n.out⟩
  have q:(s.size:Int)<1:=jo;rw[zN r,Bool.false_and]at Fin2;go_wp2;go_ret;exact⟨by rw[Fin2.out];rfl,n.out⟩
theorem FK(s:ByteArray)(w:World)(hs:s.size≤1048576):Calls prog 149 #[.string s] w fun e w'=>e=.returned (.bool (isN s.data.toList))∧zWW w w':=
 xg s w jo
end Tk

namespace Tk
open Go.RowKit Ut
def atC(c:UInt8)(l:List UInt8):Nat:=l.findIdx (· == c)
theorem rH(c:UInt8)(l:List UInt8):Lib.indexByte l c=if atC c l<l.length then((atC c l:Nat):Int)else -1:=by
 unfold atC
 induction l with
 | nil=>rfl
 | cons x l ih=>
  rw[Lib.indexByte,List.findIdx_cons];by_cases d:(x==c)=true
  ·rw[d];simp
  have a:(x==c)=false:=by simpa using d
  rw[a,ih];simp only[Bool.false_eq_true,if_false,cond_false,zV];generalize l.findIdx (fun x=>x==c)=n;by_cases h:n<l.length
  ·have b:n+1<l.length+1:=jo;rw[zI h,zI b,zH jz];simp
  have b:¬n+1<l.length+1:=jo;rw[zH h,zH b];simp
def lM(c:UInt8):ByteArray:=⟨#[c]⟩
theorem AA(c:UInt8)(s:ByteArray)(w:World):Calls prog 215 #[.string s,.string (lM c)] w fun e w'=>e=.returned (.int .i64 (if atC c s.data.toList<s.size then((atC c s.data.toList:Nat):Int)else -1))∧w=w':=
 (Tryz.stringslite_Index_one s c w).mono fun _ _ ⟨he,hw⟩=>⟨by rw[he,rH,fB],hw.symm⟩
def lN(c:UInt8)(s:ByteArray):ByteArray:=s.extract 0 (atC c s.data.toList)
def lQ(c:UInt8)(s:ByteArray):ByteArray:=s.extract (atC c s.data.toList+1) s.size
theorem AB(c:UInt8)(s:ByteArray):(lN c s).data.toList=s.data.toList.take (atC c s.data.toList):=by unfold lN;rw[Lib.extract_data];simp
theorem GX(c:UInt8)(s:ByteArray):(lQ c s).data.toList=s.data.toList.drop (atC c s.data.toList+1):=by
 unfold lQ;rw[Lib.extract_data,zR (by rw[zP,fB];omega)]
theorem GY(c:UInt8)(s:ByteArray):(lN c s).size≤s.size:=by unfold lN;rw[ByteArray.size_extract];omega
theorem GZ(c:UInt8)(s:ByteArray):(lQ c s).size≤s.size:=by unfold lQ;rw[ByteArray.size_extract];omega
theorem Ga(c:UInt8)(s:ByteArray)(w:World)(hs:s.size≤1048576)(h:atC c s.data.toList<s.size):Calls prog 209 #[.string s,.string (lM c)] w fun e w'=>e=.returned (.tuple #[.string (lN c s),.string (lQ c s),.bool true])∧zWW w w':=by
 have a:=AA c s w;rw[zI h]at a;have f:Hid (lN c s=s.extract 0 (atC c s.data.toList)):=rfl;have d:Hid (lQ c s=s.extract (atC c s.data.toList+1) s.size):=rfl;have b:(lM c).size=1:=rfl;generalize atC c s.data.toList=k at *;generalize lN c s=x at *;generalize lQ c s=y at *;generalize lM c=g at *;have n:(0:Int)≤(k:Int):=jo;have m:(k:Int)≤(s.size:Int):=jo;have l:IntKind.i64.wrap ((k:Int)+1)=(k:Int)+1:=IntWalk.i64_in _ jo;have i:(0:Int)≤(k:Int)+1:=jo;have j:(k:Int)+1≤(s.size:Int):=jo;go_enter func209,ntmps209;go_wp2_with (go_at_call 215;refine a.mono ?_;rintro e w' ⟨rfl,rfl⟩);go_region;go_wp2
 go_ret3
 rw[f.out,d.out];exact⟨rfl,(zy _ _).drew⟩
theorem Iy(c:UInt8)(s:ByteArray)(w:World)(h:¬atC c s.data.toList<s.size):Calls prog 209 #[.string s,.string (lM c)] w fun e w'=>e=.returned (.tuple #[.string s,.string ByteArray.empty,.bool false])∧zWW w w':=by
 have a:=AA c s w;rw[zH h]at a;clear h;generalize lM c=b at *;go_enter func209,ntmps209;go_wp2_with (go_at_call 215;refine a.mono ?_;rintro e w' ⟨rfl,rfl⟩)
 go_ret3
 exact⟨rfl,zy _ _⟩
theorem Aw(c:UInt8)(s:ByteArray)(w:World)(hs:s.size≤1048576)(h:atC c s.data.toList<s.size):Calls prog 194 #[.string s,.string (lM c)] w fun e w'=>e=.returned (.tuple #[.string (lN c s),.string (lQ c s),.bool true])∧zWW w w':=by
 have b:=Ga c s w hs h;generalize lM c=d at *;go_enter func194,ntmps194;go_wp2_with (go_at_call 209;refine b.mono ?_;rintro e f ⟨rfl,a⟩)
 go_ret3
 exact⟨rfl,a⟩
theorem Kr(c:UInt8)(s:ByteArray)(w:World)(h:¬atC c s.data.toList<s.size):Calls prog 194 #[.string s,.string (lM c)] w fun e w'=>e=.returned (.tuple #[.string s,.string ByteArray.empty,.bool false])∧zWW w w':=by
 have b:=Iy c s w h;generalize lM c=d at *;go_enter func194,ntmps194;go_wp2_with (go_at_call 209;refine b.mono ?_;rintro e f ⟨rfl,a⟩)
 go_ret3
 exact⟨rfl,a⟩
def mb(c:UInt8)(s:ByteArray):ByteArray:=if atC c s.data.toList<s.size then lN c s else s
theorem FL(c:UInt8)(s:ByteArray):(mb c s).data.toList=s.data.toList.take (atC c s.data.toList):=by
 unfold mb
 split
 ·exact AB c s
 rw[zR (by rw[fB];omega)]
def Kt(c:UInt8)(s:ByteArray)(w:World)(e:Ending)(w':World):Prop:=∃(y:ByteArray) (b:Bool),e=.returned (.tuple #[.string (mb c s),.string y,.bool b])∧zWW w w'
theorem Gb(c:UInt8)(s:ByteArray)(w:World)(hs:s.size≤1048576):Calls prog 194 #[.string s,.string (lM c)] w (Kt c s w):=by
 by_cases h:atC c s.data.toList<s.size
 ·refine(Aw c s w hs h).mono fun e w' ⟨he,hb⟩=>⟨lQ c s,true,?_,hb⟩
  rw[he];unfold mb;rw[zI h]
 refine(Kr c s w h).mono fun e w' ⟨he,hb⟩=>⟨ByteArray.empty,false,?_,hb⟩
 rw[he];unfold mb;rw[zH h]
def sO(c:UInt8)(s:ByteArray):Bool:=decide (atC c s.data.toList<s.size)
theorem Gc(c:UInt8)(s:ByteArray)(w:World):Calls prog 195 #[.string s,.string (lM c)] w fun e w'=>e=.returned (.bool (sO c s))∧w=w':=
 (Tryz.strings_Contains_one s c w).mono fun _ _ ⟨he,hw⟩=>⟨by
  rw[he,rH,fB];unfold sO;congr 2
  split
  ·rename_i h;rw[zO h];simp
  rename_i h
  rw[zN h];rfl,hw.symm⟩
end Tk

section

end

namespace Qp
open Go.RowKit Ut Tk Qy
abbrev P:=List UInt8
def il(c:UInt8):Bool:=c==32 || c==9
def iJ(c:UInt8):Bool:=c==32 || c==9 || c==40 || c==41 || c==34
def ic(s:P):Nat:=s.findIdx (· == 34)
def fw(s:P):Nat:=if ic s.tail<s.tail.length then ic s.tail+2 else 0
def gB(s:P):Nat:=s.findIdx iJ
def fL(s:P):Nat:=
 if s.head?=some 40∨s.head?=some 41 then 1
 else if s.head?=some 34 then fw s
 else if s[gB s]?=some 34∧s[gB s-1]?=some 58 then(if fw (s.drop (gB s))=0 then 0 else gB s+fw (s.drop (gB s)))
 else gB s
def l4:Nat→P→Option (List P)
 | 0,_=>some []
 | _+1,[]=>some []
 | n+1,c::t=>if il c then l4 n t else if fL (c::t)=0 then none else(l4 n ((c::t).drop (fL (c::t)))).map (fun l=>(c::t).take (fL (c::t))::l)
def fI(s:P):Option (List P):=l4 s.length s
theorem EN:∀(n:Nat) (s:P),s.length≤n→l4 n s=l4 s.length s:=by
 intro n
 induction n using Nat.strongRecOn with
 | ind n ih=>
  intro s h
  match n,s,ih,h with
  | 0,[],_,_=>rfl
  | n+1,[],_,_=>rfl
  | n+1,c::t,ih,h=>
   rw[zV]at h ⊢;by_cases b:n=t.length
   ·rw[b]
   have e:((c::t).drop (fL (c::t))).length≤t.length+1-fL (c::t):=jz;have d:=ih n jo t jo;show (if il c then l4 n t else _)=(if il c then l4 t.length t else _);rw[d]
   split
   ·rfl
   by_cases a:fL (c::t)=0
   ·rw[zI a,zI a]
   rw[zH a,zH a,ih n jo _ jo,ih t.length jo ((c::t).drop (fL (c::t))) jo]
theorem oO:fI []=some []:=rfl
theorem qV(c:UInt8)(t:P)(h:il c=true):fI (c::t)=fI t:=by
 show (if il c then l4 t.length t else _)=_;rw[zI h];rfl
theorem qX(c:UInt8)(t:P)(h:il c=false):fI (c::t)=if fL (c::t)=0 then none else(fI ((c::t).drop (fL (c::t)))).map (fun l=>(c::t).take (fL (c::t))::l):=by
 show (if il c then l4 t.length t else if fL (c::t)=0 then none else(l4 t.length ((c::t).drop (fL (c::t)))).map (fun l=>(c::t).take (fL (c::t))::l))=_;rw[h,zH jd];by_cases a:fL (c::t)=0
 ·rw[zI a,zI a]
 rw[zH a,zH a,EN t.length _ jm];rfl
theorem tP(p:UInt8→Bool)(s:P):(∀x∈s.take (s.findIdx p),p x=false)∧(∀h:s.findIdx p<s.length,p s[s.findIdx p]=true)∧s.findIdx p≤s.length:=by
 refine⟨fun x b=>?_,fun h=>List.findIdx_getElem (w:=h),List.findIdx_le_length⟩;obtain⟨i,a,rfl⟩:=List.getElem_of_mem b;rw[zK]at a;rw[List.getElem_take];exact List.not_of_lt_findIdx (p:=p) (xs:=s) (i:=i) jo
theorem pV(p:UInt8→Bool)(s:P)(k:Nat)(h1:∀x∈s.take k,p x=false)(hk:k≤s.length)(h2:∀h:k<s.length,p s[k]=true):s.findIdx p=k:=by
 rcases zj k s.length with h|h
 ·refine(List.findIdx_eq h).2 ⟨h2 h,fun j a=>?_⟩;exact h1 _ (zu.2 ⟨j,jw,by rw[List.getElem_take]⟩)
 have e:k=s.length:=jo;subst e;rw[List.take_length]at h1;exact List.findIdx_eq_length.2 h1
theorem qg(s:P):fw s≤s.length:=by
 unfold fw
 split
 ·rename_i h;rw[List.length_tail]at h;omega
 omega
theorem uE(s:P):fL s≤s.length:=by
 unfold fL
 split
 ·rename_i h
  cases s with
  | nil=>simp at h
  | cons c t=>simp
 split
 ·exact qg s
 have a:=(tP iJ s).2.2;have b:=qg (s.drop (gB s));rw[zP]at b;unfold gB at *
 split
 ·split
  ·omega
  omega
 exact a
structure Pc (s:P):Prop where
 ne:s≠[]
 qt:ic s<s.length→ic s+2≤s.length
theorem Gz(c:UInt8)(t:P)(hb:il c=false)(h:fL (c::t)≠0):Pc ((c::t).take (fL (c::t))):=by
 have r:=uE (c::t);have a:((c::t).take (fL (c::t))).length=fL (c::t):=jw;refine⟨fun e=>by rw[e]at a;simp at a;omega,fun b=>?_⟩
 have n:∀(l:P),(∀x∈l,iJ x=false)→ic l=l.length:=fun l u=>by
  unfold ic;refine List.findIdx_eq_length.2 fun x o=>?_
  have:=u x o;unfold iJ at this;simp only[Bool.or_eq_false_iff]at this;exact this.2
 rw[a];unfold fL at b h a ⊢;by_cases j:(c::t).head?=some 40∨(c::t).head?=some 41
 ·rw[zI j]at b a ⊢;exfalso;simp only[zX,List.take_zero]at b;simp only[List.head?_cons,Option.some.injEq]at j;rcases j with rfl|rfl<;>simp[ic,List.findIdx_cons]at b
 rw[zH j]at b h a ⊢;by_cases i:(c::t).head?=some 34
 ·rw[zI i]at b h a ⊢;simp only[List.head?_cons,Option.some.injEq]at i;subst i;unfold fw at h ⊢;by_cases d:ic ((34:UInt8)::t).tail<((34:UInt8)::t).tail.length
  ·rw[zI d];have:ic ((34:UInt8)::t).tail+2=(ic t+1)+1:=rfl;rw[this,zX];simp[ic,List.findIdx_cons]
  rw[zH d]at h;exact absurd rfl h
 rw[zH i]at b h a ⊢;have m:=tP iJ (c::t);by_cases d:(c::t)[gB (c::t)]?=some 34∧(c::t)[gB (c::t)-1]?=some 58
 ·rw[zI d]at b h a ⊢;by_cases f:fw ((c::t).drop (gB (c::t)))=0
  ·rw[zI f]at h;exact absurd rfl h
  rw[zH f]at b h a ⊢
  have k:gB (c::t)<(c::t).length:=by
   rcases zj (gB (c::t)) (c::t).length with hh|hh
   ·exact hh
   rw[List.getElem?_eq_none hh]at d;simp at d
  have s:2≤fw ((c::t).drop (gB (c::t))):=by
   unfold fw at f ⊢
   split
   ·omega
   rename_i hh;rw[zH hh]at f;exact absurd rfl f
  have q:ic ((c::t).take (gB (c::t)+fw ((c::t).drop (gB (c::t)))))≤gB (c::t):=by
   rcases zj (gB (c::t)) (ic ((c::t).take (gB (c::t)+fw ((c::t).drop (gB (c::t))))))with hh|hh
   ·exfalso;have:=List.not_of_lt_findIdx (p:=(· == (34:UInt8))) hh;rw[List.getElem_take]at this;have g:=d.1;rw[zU k,Option.some.injEq]at g;rw[g]at this;simp at this
   exact hh
  omega
 rw[zH d]at b h a ⊢;exfalso;have:=n _ m.1;unfold gB at b;omega
theorem uF:∀(n:Nat) (s:P) (l:List P),s.length≤n→fI s=some l→∀x∈l,Pc x∧x.length≤s.length:=by
 intro n
 induction n with
 | zero=>
  intro s l h e x hx;have:s=[]:=List.length_eq_zero_iff.1 jo;subst this;rw[oO]at e;injection e with e;subst e
  cases hx
 | succ n ih=>
  intro s l h e x hx
  cases s with
  | nil=>
   rw[oO]at e;injection e with e;subst e
   cases hx
  | cons c t=>
   rw[zV]at h ⊢;by_cases d:il c=true
   ·rw[qV c t d]at e;have:=ih t l jo e x hx;exact⟨this.1,jo⟩
   have a:il c=false:=by simpa using d
   rw[qX c t a]at e;by_cases b:fL (c::t)=0
   ·rw[zI b]at e;cases e
   rw[zH b]at e;obtain⟨j,i,g⟩:=Option.map_eq_some_iff.1 e;subst g;rcases List.mem_cons.1 hx with rfl|hx
   ·exact⟨Gz c t a b,by rw[zK,zV];omega⟩
   have:=ih _ j jm i x hx;refine⟨this.1,?_⟩;have f:=this.2;rw[zP,zV]at f;omega
theorem tF:∀(n:Nat) (s:P) (l:List P),s.length≤n→fI s=some l→l.length≤s.length:=by
 intro n
 induction n with
 | zero=>
  intro s l h e;have:s=[]:=List.length_eq_zero_iff.1 jo;subst this;rw[oO]at e;injection e with e;subst e;simp
 | succ n ih=>
  intro s l h e
  cases s with
  | nil=>
   rw[oO]at e;injection e with e;subst e;simp
  | cons c t=>
   rw[zV]at h ⊢;by_cases b:il c=true
   ·rw[qV c t b]at e;have:=ih t l jo e;omega
   have a:il c=false:=by simpa using b
   rw[qX c t a]at e;by_cases d:fL (c::t)=0
   ·rw[zI d]at e;cases e
   rw[zH d]at e;obtain⟨i,g,f⟩:=Option.map_eq_some_iff.1 e;subst f;have:=ih _ i jm g;simp at this ⊢;omega
def NOT:P:=[78,79,84]
def AND:P:=[65,78,68]
def OR:P:=[79,82]
def LP:P:=[40]
def RP:P:=[41]
def msg:P:=[109,115,103]
def gW(nm:P)(l:List P):Option Q:=if l=[]then none else if l.length=1 then some (.mk 2 (str nm) (l.map str) [])else some (.mk 4 (str nm) (l.map str) [])
def gH(s:P):Nat:=s.findIdx (fun c=>c==58 || c==34)
def jF(s:P):Bool:=s[gH s]? == some 58
def kE(s:P):P:=if jF s then s.take (gH s)else msg
def gK(s:P):P:=if jF s then s.drop (gH s+1)else s
def fU(s:P):Option Q:=
 if s=[42]then some (.mk 1 ByteArray.empty [] [])
 else if isN (kE s)=false∨gK s=[]then none
 else if(gK s).head?=some 34 then gW (kE s) (words (((gK s).take ((gK s).length-1)).drop 1))
 else if(gK s).getLast?=some 42 then
  (if(gK s).length=1 then some (.mk 3 (str (kE s)) [ByteArray.empty] [])else if(words (gK s).dropLast).length=1 then some (.mk 3 (str (kE s)) ((words (gK s).dropLast).map str) [])else none)
 else gW (kE s) (words (gK s))
def sQ(q:Q):Q:=.mk 7 ByteArray.empty [] [q]
def fg(k:Int)(l:List Q):Q:=match l with | [q]=>q|l=>.mk k ByteArray.empty [] l
inductive Md where
 | part|and (a:List Q)|or (a:List Q)|andT (a:List Q)|orT (a:List Q)
def oI(s:P):Bool:=s != NOT&&s != LP&&s != RP&&s != AND&&s != OR
def closed:Option (Q × List P)→Option (Q × List P)
 | some (q,s::r)=>if s=RP then some (q,r)else none
 | _=>none
def lL(l:List P):Bool:=match l with | []=>true|s::_=>s==RP || s==OR
inductive R:Md→List P→Option (Q × List P)→Prop
 | pnil:R .part [] none
 | pnot {s t o} (hs:s=NOT) (h:R .part t o):R .part (s::t) (o.map fun x=>(sQ x.1,x.2))
 | plp {s t o} (hs:s=LP) (h:R (.or []) t o):R .part (s::t) (closed o)
 | pbad {s t} (hs:s=RP∨s=AND∨s=OR):R .part (s::t) none
 | pleaf {s t} (hs:oI s=true):R .part (s::t) ((fU s).map fun q=>(q,t))
 | and0 {a l} (h:R .part l none):R (.and a) l none
 | and1 {a l q r o} (h:R .part l (some (q,r))) (h2:R (.andT (a ++ [q])) r o):R (.and a) l o
 | andE {a l} (h:lL l=true):R (.andT a) l (some (fg 5 a,l))
 | andA {a s t o} (hs:s=AND) (h:R (.and a) t o):R (.andT a) (s::t) o
 | andN {a s t o} (hs:lL (s::t)=false) (hn:s≠AND) (h:R (.and a) (s::t) o):R (.andT a) (s::t) o
 | or0 {a l} (h:R (.and []) l none):R (.or a) l none
 | or1 {a l q r o} (h:R (.and []) l (some (q,r))) (h2:R (.orT (a ++ [q])) r o):R (.or a) l o
 | orE {a l} (h:l.head?≠some OR):R (.orT a) l (some (fg 6 a,l))
 | orO {a s t o} (hs:s=OR) (h:R (.or a) t o):R (.orT a) (s::t) o
theorem R.det{m:Md}{l:List P}{o:Option (Q × List P)}(h:R m l o):∀o',R m l o'→o=o':=by
 have c:∀s,oI s=true→s≠NOT∧s≠LP∧s≠RP∧s≠AND∧s≠OR:=fun s a=>by
  refine⟨?_,?_,?_,?_,?_⟩<;>(rintro rfl;revert a;decide)
 induction h with
 | pnil=>intro o' b;cases b;rfl
 | pnot a h ih=>
  intro o' b
  cases b with
  | pnot _ h=>rw[ih _ h]
  | plp hs' _=>rw[a]at hs';exact absurd hs' jd
  | pbad hs'=>rw[a]at hs';exact absurd hs' jd
  | pleaf hs'=>exact absurd a (c _ hs').1
 | plp a h ih=>
  intro o' b
  cases b with
  | plp _ h=>rw[ih _ h]
  | pnot hs' _=>rw[a]at hs';exact absurd hs' jd
  | pbad hs'=>rw[a]at hs';exact absurd hs' jd
  | pleaf hs'=>exact absurd a (c _ hs').2.1
 | pbad a=>
  intro o' b
  cases b with
  | pbad _=>rfl
  | pnot hs' _=>rw[hs']at a;exact absurd a jd
  | plp hs' _=>rw[hs']at a;exact absurd a jd
  | pleaf hs'=>
   have:=c _ hs';rcases a with e|e|e
   ·exact absurd e this.2.2.1
   ·exact absurd e this.2.2.2.1
   exact absurd e this.2.2.2.2
 | pleaf a=>
  intro o' b;have:=c _ a
  cases b with
  | pleaf _=>rfl
  | pnot hs' _=>exact absurd hs' this.1
  | plp hs' _=>exact absurd hs' this.2.1
  | pbad hs'=>
   rcases hs' with e|e|e
   ·exact absurd e this.2.2.1
   ·exact absurd e this.2.2.2.1
   exact absurd e this.2.2.2.2
 | and0 h ih=>
  intro o' b
  cases b with
  | and0 _=>rfl
  | and1 h _=>exact absurd (ih _ h) jz
 | and1 h h2 ih ih2=>
  intro o' b
  cases b with
  | and0 h=>exact absurd (ih _ h) jz
  | and1 h h2=>
   have:=ih _ h;simp only[Option.some.injEq,Prod.mk.injEq]at this;obtain⟨rfl,rfl⟩:=this;exact ih2 _ h2
 | andE h=>
  intro o' b
  cases b with
  | andE _=>rfl
  | andA a _=>rw[a]at h;exact absurd h (by simp[lL];decide)
  | andN a _ _=>rw[h]at a;cases a
 | andA a h ih=>
  intro o' b
  cases b with
  | andE h=>rw[a]at h;exact absurd h (by simp[lL];decide)
  | andA _ h=>exact ih _ h
  | andN _ hn _=>exact absurd a hn
 | andN a hn h ih=>
  intro o' b
  cases b with
  | andE h=>rw[h]at a;cases a
  | andA a _=>exact absurd a hn
  | andN _ _ h=>exact ih _ h
 | or0 h ih=>
  intro o' b
  cases b with
  | or0 _=>rfl
  | or1 h _=>exact absurd (ih _ h) jz
 | or1 h h2 ih ih2=>
  intro o' b
  cases b with
  | or0 h=>exact absurd (ih _ h) jz
  | or1 h h2=>
   have:=ih _ h;simp only[Option.some.injEq,Prod.mk.injEq]at this;obtain⟨rfl,rfl⟩:=this;exact ih2 _ h2
 | orE h=>
  intro o' b
  cases b with
  | orE _=>rfl
  | orO a _=>rw[a]at h;exact absurd rfl h
 | orO a h ih=>
  intro o' b
  cases b with
  | orE h=>rw[a]at h;exact absurd rfl h
  | orO _ h=>exact ih _ h
theorem R.less{m:Md}{l:List P}{o:Option (Q × List P)}(h:R m l o):∀q r,o=some (q,r)→(∃k,r=l.drop k∧k≤l.length∧((m=.part∨(∃a,m=.and a)∨∃a,m=.or a)→1≤k)):=by
 induction h with
 | pnil=>intro q r e;cases e
 | pnot hs h ih=>
  intro q r e;obtain⟨⟨c,i⟩,b,d⟩:=Option.map_eq_some_iff.1 e;simp only[Prod.mk.injEq]at d;obtain⟨_,rfl⟩:=d;obtain⟨k,rfl,g,_⟩:=ih c _ b;exact⟨k+1,rfl,jm,fun _=>jo⟩
 | @plp s t o hs h ih=>
  intro q r e
  match o,e,ih with
  | some (c,s'::i),e,ih=>
   by_cases p:s'=RP
   ·have n:closed (some (c,s'::i))=some (c,i):=zI p;rw[n]at e;simp only[Option.some.injEq,Prod.mk.injEq]at e;obtain⟨rfl,rfl⟩:=e;obtain⟨k,b,g,_⟩:=ih c _ rfl;refine⟨k+2,?_,?_,fun _=>jo⟩
    ·show _=t.drop (k+1);rw[←List.drop_drop,←b];rfl
    have:=congrArg List.length b;simp at this ⊢;omega
   have n:closed (some (c,s'::i))=none:=zH p;rw[n]at e
   cases e
  | some (c,[]),e,_=>cases e
  | none,e,_=>cases e
 | pbad hs=>intro q r e;cases e
 | pleaf hs=>
  intro q r e;obtain⟨c,b,d⟩:=Option.map_eq_some_iff.1 e;simp only[Prod.mk.injEq]at d;obtain⟨_,rfl⟩:=d;exact⟨1,rfl,jz,fun _=>jo⟩
 | and0 h ih=>intro q r e;cases e
 | and1 h d ih ih2=>
  intro q r e;obtain⟨k,rfl,g,b⟩:=ih _ _ rfl;obtain⟨j,rfl,f,_⟩:=ih2 q r e;rw[zP]at f;have:=b (.inl rfl);exact⟨k+j,by rw[List.drop_drop],jo,fun _=>jo⟩
 | andE h=>intro q r e;simp only[Option.some.injEq,Prod.mk.injEq]at e;obtain⟨_,rfl⟩:=e;exact⟨0,rfl,jo,fun h=>by simp at h⟩
 | andA hs h ih=>intro q r e;obtain⟨k,rfl,g,_⟩:=ih q r e;exact⟨k+1,rfl,jm,fun _=>jo⟩
 | andN hs hn h ih=>intro q r e;obtain⟨k,rfl,g,_⟩:=ih q r e;exact⟨k,rfl,g,fun h=>by simp at h⟩
 | or0 h ih=>intro q r e;cases e
 | or1 h d ih ih2=>
  intro q r e;obtain⟨k,rfl,g,b⟩:=ih _ _ rfl;obtain⟨j,rfl,f,_⟩:=ih2 q r e;rw[zP]at f;have:=b (.inr (.inl ⟨_,rfl⟩));exact⟨k+j,by rw[List.drop_drop],jo,fun _=>jo⟩
 | orE h=>intro q r e;simp only[Option.some.injEq,Prod.mk.injEq]at e;obtain⟨_,rfl⟩:=e;exact⟨0,rfl,jo,fun h=>by simp at h⟩
 | orO hs h ih=>intro q r e;obtain⟨k,rfl,g,_⟩:=ih q r e;exact⟨k+1,rfl,jm,fun _=>jo⟩
end Qp
end Go.Proofs.YtmomjpolkkbhnaaGreat
