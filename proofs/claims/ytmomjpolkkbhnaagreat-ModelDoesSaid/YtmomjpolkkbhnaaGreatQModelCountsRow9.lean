/- token.word, loggiaref07.cut: the walks. -/
import Derived.Deep.Onto
import Derived.Deep.DeepCutAuto
import Derived.Test.YtmomjpolkkbhnaaGreatQModelCountsRow6
import Derived.Test.YtmomjpolkkbhnaaGreatQModelCountsRow4
set_option maxRecDepth 20000
set_option maxHeartbeats 100000000
set_option linter.unusedSimpArgs false
open Go.Proofs.Tryz
namespace Go.Proofs.YtmomjpolkkbhnaaGreat
namespace Tk
open Go.RowKit Ut
theorem AK{T e:TypeId}{B b:Nat}{bs:List Value}{w w':World}(h:Lib.IsBuilder T e B b bs w)(hb:zWW w w'):Lib.IsBuilder T e B b bs w':=by
 have go:∀p,Lib.BuilderAt T e B b p bs w→Lib.BuilderAt T e B b p bs w':=fun p h=>by
  have hlt:=h.lt;obtain⟨hB,v,hbk,hown,hne⟩:=h;exact⟨hB,v,(hb.block b hlt).trans hbk,hown.kept (aJ hb none) (by cases hv:v.ownBlock<;>simp),hne⟩
 exact h.imp (go _) (go _)
structure Wr (w wr:World) (a:List UInt8):Prop where
 bu:Lib.IsBuilder 228 5 w.heap.size w.heap.size (Lib.byteCells a) wr
 bel:zWW w wr
theorem Wr.below{w wr w2:World}{a:List UInt8}(h:Wr w wr a)(hb:zWW wr w2):Wr w w2 a:=⟨AK h.bu hb,h.bel.trans (hb.mono h.bel.size)⟩
theorem Wr.start(w:World):Wr w (w.alloc (.cells #[.pointer none,.slice none 0 0] 228)) []:=⟨Lib.fresh_isBuilder _ _ w,zRR _⟩
theorem G0{w wr:World}{a:List UInt8}(h:Wr w wr a):Calls prog 185 #[.pointer (some ⟨w.heap.size,0,none⟩)] wr fun e w'=>e=.returned (.int .i64 (a.length:Nat))∧wr=w':=
 (Tryz.Builder_Len _ _ _ wr h.bu).mono fun _ _ ⟨he,hw⟩=>⟨by rw[he];simp[Lib.byteCells],hw.symm⟩
theorem DD{w wr:World}{a:List UInt8}(h:Wr w wr a)(s:List UInt8)(hl:a.length+s.length≤100000):Calls prog 186 #[.pointer (some ⟨w.heap.size,0,none⟩),.string (str s)] wr fun e w'=>
  e=.returned (.tuple #[.int .i64 (s.length:Nat),.nilIface])∧Wr w w' (a++s):=by
 have c:=Ao w.heap.size w.heap.size (Lib.byteCells a) (str s) wr h.bu (by rw[iZ];simp[Lib.byteCells];omega) h.bel.size;refine c.mono fun e w' ⟨he,hb,hw⟩=>⟨by rw[he,iZ],?_,h.bel.trans hw⟩
 have e2:Lib.byteCells a++Lib.strCells (str s)=Lib.byteCells (a++s):=by
  simp[Lib.byteCells,Lib.strCells,str]
 rw[←e2];exact .inr hb
theorem sw{w wr:World}{a:List UInt8}(h:Wr w wr a):Calls prog 187 #[.pointer (some ⟨w.heap.size,0,none⟩)] wr fun e w'=>e=.returned (.string (str a))∧zWW w w':=
 (Tryz.Builder_String_any _ _ a wr h.bu h.bel.size).mono fun _ _ ⟨he,hw⟩=>⟨he,h.bel.trans hw⟩
theorem sx(w:World)(t:TypeId)(z:Int):Reads (w.alloc (.cells #[.int .i64 z] t)) (w.alloc (.cells #[.int .i64 z] t)).heap.size 1 (some ⟨w.heap.size,0,none⟩) 1 ([z].map (Value.int .i64)):=by
 refine⟨jz,fun _=>⟨_,_,rfl,jz,fun j u hu=>?_⟩⟩
 match j,hu with
 | 0,hu=>
  simp only[List.map_cons,List.map_nil,zB,Option.some.injEq]at hu;subst hu;exact(Blk.new w t #[.int .i64 z]).cell 0
theorem tC(z:Int):bQ [z]=enc z:=by simp[bQ]
theorem DF(A:Option Addr)(n c:Nat)(l:List Nat)(w:World)(hR:Reads w w.heap.size 1 A n (rv l))(hn:n≤4398046511104) :
  Calls prog 166 #[.slice A n c] w fun e w'=>e=.returned (.string (str (ai l)))∧zWW w w':=by
 have hlen:l.length=n:=by have:=hR.1;simpa[rv]using this
 have HR:=zh hR;have Hl:=zh hlen;have St:=zh (Wr.start w);clear hR hlen;go_enter func166,ntmps166;go_wp2;go_loopw [9] (fun i wr=>∃(k:Nat) (a:List UInt8),k≤n∧i=.int .i64 k∧a.length≤32∧ai l=dW a (l.drop k)∧Wr w wr a) (fun i _=>n-(intOf i).toNat)
 case atStart=>exact⟨0,[],zS _,rfl,jz,rfl,St.out⟩
 obtain⟨k,a,hk,rfl,ha,hwd,hW⟩:=hrel;by_cases hlt:k<n
 ·obtain⟨ab,ao,hkl,rfl,hab,hcw⟩:=Reads.at_map (f:=fun r:Nat=>Value.int .i64 (r:Int)) HR.out hlt;have hcx:=(hW.bel.cell (p:=⟨ab,ao+k,none⟩) hab).trans hcw;rw[zc hkl,iA]at hwd;have c1:=Cs (l[k]:Int) wr;have HW:=zh hW;have Hwd:=zh hwd;have hel:=iG (lower (l[k]:Int));clear hwd hcw hW;generalize lower (l[k]:Int)=z at *;generalize (l[k]:Int)=r at *;go_wp2_with fail;refine c1.mono ?_;rintro e w2 ⟨rfl,hb2⟩;have hW2:=(HW.out.below hb2).below ((zw _ _).alloc (zG w2.heap.size) (.cells #[.int .i64 z] 3));have c2:=li _ 1 1 [z] _ (sx w2 3 z) jo;rw[tC]at c2;have HW2:=zh hW2;clear hW2 hb2 c1;go_wp2_with fail;refine c2.mono ?_;rintro e w3 ⟨rfl,hb3⟩;have hW3:=HW2.out.below hb3;have c3:=G0 hW3;have c4:=DD hW3 (enc z) jo;have c5:=sw hW3;have C5:=zh c5;have hsz:=iZ (enc z);generalize enc z=s at *;clear hb3 c2 hW3 c5;by_cases h32:32<a.length+s.length
  ·have h32':(32:Int)<(a.length:Int)+(s.length:Int):=jo;have Fin:Hid (ai l=a):=zh (by rw[Hwd.out,zI h32]);clear h32 c4;go_wp2_with fail;refine c3.mono ?_;rintro e w' ⟨rfl,rfl⟩;go_wp2_with (go_at_call 187;refine C5.out.mono ?_;rintro e w4 ⟨rfl,hb4⟩);go_ret;exact⟨by rw[Fin.out];rfl,hb4⟩
  have h32':(a.length:Int)+(s.length:Int)≤32:=jo;have Fin:Hid (ai l=dW (a++s) (l.drop (k+1))):=zh (by rw[Hwd.out,zH h32]);clear h32;go_wp2_with fail;refine c3.mono ?_;rintro e w' ⟨rfl,rfl⟩;go_wp2_with fail;refine c4.mono ?_;rintro e w4 ⟨rfl,hW4⟩;have HW4:=zh hW4;clear hW4 c3 c4;go_wp2;go_roundw
  case rel=>exact⟨k+1,a++s,jo,ju,by rw[zJ];omega,Fin.out,HW4.out⟩
  simp[intOf];omega
 have hd:l.drop k=[]:=List.drop_eq_nil_of_le (by rw[Hl.out];omega);rw[hd]at hwd;have Fin:Hid (ai l=a):=zh hwd;have c5:=sw hW;clear hwd hd hW;go_wp2_with (go_at_call 187;refine c5.mono ?_;rintro e w4 ⟨rfl,hb4⟩);go_ret;exact⟨by rw[Fin.out];rfl,hb4⟩
def yh(x:List UInt8 × Int):List Value:=[.string (str x.1),.int .i64 x.2]
def cG(ws:List (List UInt8 × Int)):List Value:=ws.flatMap yh
theorem DG(ws:List (List UInt8 × Int))(x:List UInt8 × Int):cG (ws ++ [x])=cG ws++yh x:=by simp[cG]
def bR(ws:List (List UInt8)):List (List UInt8 × Int):=ws.zipIdx.map fun p=>(p.1,(p.2:Int))
theorem tE(ws:List (List UInt8)):(bR ws).length=ws.length:=by simp[bR]
theorem Ap(ws:List (List UInt8))(x:List UInt8):bR (ws ++ [x])=bR ws ++ [(x,(ws.length:Int))]:=by
 simp[bR,List.zipIdx_append]
theorem uz:(prog.info? 206).map (fun i=>(i.zero,i.size,i.bytes))=some (some (.agg #[.string ByteArray.empty,.int .i64 0]),2,24):=by kernel_rfl
theorem ou:(prog.info? 3).map (fun i=>(i.zero,i.size,i.bytes))=some (some (.int .i64 0),1,8):=by kernel_rfl
def mS(w:World)(ws:List (List UInt8))(e:Ending)(w':World):Prop:=
 ∃v,e=.returned v∧w'.ownsRow w.heap.size 206 2 v ws.length (cG (bR ws))∧zWW w w'
structure Toks (w wr:World) (v:Value) (ws:List (List UInt8)):Prop where
 own:wr.ownsRow w.heap.size 206 2 v ws.length (cG (bR ws))
 bel:zWW w wr
theorem Toks.below{w wr w2:World}{v:Value}{ws:List (List UInt8)}(h:Toks w wr v ws)(hb:zWW wr w2):Toks w w2 v ws:=
 ⟨h.own.kept (aJ hb none) (by cases hv:v.ownBlock<;>simp),h.bel.trans (hb.mono h.bel.size)⟩
theorem Toks.start(w wr:World)(hb:zWW w wr):Toks w wr (.slice none 0 0) []:=⟨vM _ _ _ _,hb⟩
theorem Toks.put{w wr w2:World}{v v':Value}{ws:List (List UInt8)}{x:List UInt8}(h:Toks w wr v ws)
  (hp:w2.ownsRow w.heap.size 206 2 v' (ws.length+1) (cG (bR ws) ++ [.string (str x),.int .i64 (ws.length:Int)])) (hg:wr.grownBy w2 v.ownBlock):Toks w w2 v' (ws ++ [x]):=by
 refine⟨?_,h.bel.grown hg h.bel.size (fun k hk=>(h.own.lt k hk).1)⟩;rw[Ap,DG,zJ];exact hp
end Tk

namespace Tk
open Go.RowKit Ut
structure Far (l L:List Nat) (k f:Nat) (ws:List (List UInt8)):Prop where
 le:f≤k
 eq:(bY [] l).map ai=ws++(bY ((L.take k).drop f) (L.drop k)).map ai
 all:∀r∈(L.take k).drop f,au (r:Int)=true
theorem Far.start(l:List Nat):Far l (l ++ [32]) 0 0 []:=⟨zG _,by
 rw[List.drop_zero,List.nil_append,List.drop_zero,List.take_zero,pJ l [] 32 Eg],jz⟩
theorem Far.word_{l L:List Nat}{k f:Nat}{ws:List (List UInt8)}(h:Far l L k f ws)(hk:k<L.length)(hw:au (L[k]:Int)=true):Far l L (k+1) f ws:=by
 have e:(L.take (k+1)).drop f=(L.take k).drop f ++ [L[k]]:=by
  rw[zL hk,List.drop_append_of_le_length (by rw[zK];have:=h.le;omega)]
 refine⟨by have:=h.le;omega,?_,?_⟩
 ·rw[h.eq,zc hk,ez,hw,zI rfl,e]
 intro r hr;rw[e]at hr;rcases List.mem_append.1 hr with hr|hr
 ·exact h.all r hr
 simp only[List.mem_singleton]at hr;subst hr;exact hw
theorem Far.gap{l L:List Nat}{k f:Nat}{ws:List (List UInt8)}(h:Far l L k f ws)(hk:k<L.length)(hw:au (L[k]:Int)=false)(hf:¬f<k):Far l L (k+1) (k+1) ws:=by
 have hl:=h.le;obtain rfl:f=k:=jo;have e:(L.take f).drop f=[]:=List.drop_eq_nil_of_le jw;have e2:(L.take (f+1)).drop (f+1)=[]:=List.drop_eq_nil_of_le jw;refine⟨zG _,?_,by rw[e2];intro r hr;cases hr⟩;rw[h.eq,zc hk,ez,hw,zH jd,e,e2];rfl
theorem Far.end_{l L:List Nat}{k f:Nat}{ws:List (List UInt8)}(h:Far l L k f ws)(hk:k<L.length)(hw:au (L[k]:Int)=false)(hf:f<k):Far l L (k+1) (k+1) (ws ++ [ai ((L.take k).drop f)]):=by
 have e2:(L.take (k+1)).drop (k+1)=[]:=List.drop_eq_nil_of_le jw
 have hn:(L.take k).drop f≠[]:=by
  intro e;have:=congrArg List.length e;rw[zP,zK,List.length_nil]at this;omega
 refine⟨zG _,?_,by rw[e2];intro r hr;cases hr⟩;rw[h.eq,zc hk,ez,hw,zH jd,e2];simp[last,hn]
theorem Far.done{l:List Nat}{f:Nat}{ws:List (List UInt8)}(h:Far l (l ++ [32]) (l ++ [32]).length f ws):(bY [] l).map ai=ws:=by
 have ha:=h.all;rw[h.eq,List.drop_length,gL];rw[List.take_length]at ha ⊢
 have hn:(l ++ [32]).drop f=[]:=by
  rcases zg f (l ++ [32]).length with hf|hf
  ·exfalso
   have h32:(32:Nat)∈(l ++ [32]).drop f:=by
    rw[List.drop_append_of_le_length (by simp at hf;omega)];simp
   have:=ha 32 h32
   revert this
   decide
  exact List.drop_eq_nil_of_le hf
 rw[hn];simp[last]
theorem _root_.Go.Proofs.YtmomjpolkkbhnaaGreat.Reads.sub{w:World}{B g o n m k:Nat}{xs:List Value}(h:Reads w B 1 (some ⟨g,o,none⟩) n xs)(hm:m≤k)(hk:k≤n):Reads w B 1 (some ⟨g,o+m,none⟩) (k-m) ((xs.take k).drop m):=by
 have hl:=h.1;refine⟨by rw[zP,zK];omega,fun hn=>?_⟩;obtain⟨b,o',e,hb,hc⟩:=h.2 jo;injection e with e;injection e with e1 e2;subst e1 e2;refine⟨g,o+m,rfl,hb,fun j u hu=>?_⟩;rw[List.getElem?_drop,List.getElem?_take]at hu
 split at hu
 ·have:=hc (m+j) u hu;rw[←Nat.add_assoc]at this;exact this
 cases hu
theorem ru(s:ByteArray)(w:World)(hs:s.size≤1048576):Calls prog 142 #[.string s] w (mS w (words s.data.toList)):=by
 obtain⟨i0,hi0,hz0,hz1,hz2⟩:=info_parts uz;obtain⟨j0,hj0,hy0,hy1,hy2⟩:=info_parts ou;have c0:=Cx s w jo;have hrl:=om s.data.toList;rw[aB]at hrl;have Fin:Hid (words s.data.toList=(bY [] (bT s.data.toList)).map ai):=rfl;generalize words s.data.toList=wds at *;generalize bT s.data.toList=l at *;go_enter func142,ntmps142;go_wp2
 go_step3
 go_wp2_with fail;refine c0.mono ?_;rintro e w1 ⟨v,rfl,hown,hb1⟩;have hsz1:=hb1.size;go_wp2_with (at_builtin;refine wpList_append_lies _ rfl _ _ 27 rfl w.heap.size 3 j0 (.int .i64 0) 1 8 underlying27 hj0 hy0 hy1 hy2 rfl jd _ _ _ rfl (hown.alloc _) ⟨w1.heap.size,0,none⟩ 1 1 [.int .i64 32] rfl rfl ?c1 ?c2 ?c0 ?c3 ?c4 ?c5 (w1.heap.size+1) ?c6 ?_)
 case c1=>exact zy (cs:=#[.int .i64 32]) (t:=3) (fr:=(0,0)) (vI w1 _)
 case c2=>intro u hu;simp at hu;subst hu;rfl
 case c0=>omega
 case c3=>unfold maxLen;omega
 case c4=>omega
 case c5=>simp;omega
 case c6=>simp
 intro g cap w2 hown2 hg2 _ hlt2
 have hlcap:l.length+1≤cap:=by
  rcases hown2.2 with⟨hv,_⟩|⟨g',cap',cur,hv,_,_,hnc,_⟩
  ·cases hv
  injection hv with _ _ hv;omega
 have hL:rv l ++ [Value.int .i64 32]=rv (l ++ [32]):=by simp[rv]
 rw[hL]at hown2;have hb2:zWW w w2:=(hb1.alloc hsz1 _).grown hg2 jm (fun j hj=>(hown.lt _ hj).1);have hLl:(l ++ [32]).length=l.length+1:=jz;have hR:=Reads.of_own hown2;have S0:Toks w2 w2 (.slice none 0 0) []:=Toks.start w2 w2 (zw _ _);have F0:=Far.start l;have HR:=zh hR;have HS0:=zh S0;have HF0:=zh F0;have Hb2:=zh hb2;have HLl:=zh hLl;have hfd:=fun f ws=>Far.done (l:=l) (f:=f) (ws:=ws)
 have Hfd:=zh hfd;clear hL hown2 hown hg2 hR S0 F0 hb2 hLl hb1 c0 hfd;generalize l ++ [32]=L at *;go_wp2_with fail
 go_step3
 go_wp2_with fail;go_loopw [3,5,14] (fun v f i wr=>∃(k m:Nat) (ws:List (List UInt8)),k≤l.length+1∧i=.int .i64 k∧f=.int .i64 m∧Far l L k m ws∧ws.length≤k∧Toks w2 wr v ws) (fun _ _ i _=>l.length+1-(intOf i).toNat)
 case atStart=>exact⟨0,0,[],zS _,rfl,rfl,HF0.out,jz,HS0.out⟩
 obtain⟨k,m,ws,hk,rfl,rfl,hF,hwl,hT⟩:=hrel;by_cases hlt:k<l.length+1
 ·obtain⟨ab,ao,hkl,e,hab,hcw⟩:=Reads.at_map (f:=fun r:Nat=>Value.int .i64 (r:Int)) HR.out hlt;injection e with e;injection e with e1 e2;subst e1 e2;have hcx:=(hT.bel.cell (p:=⟨g,0+k,none⟩) hab).trans hcw;rw[zf]at hcx;have c1:=Eh (L[k]:Int) wr;have HT:=zh hT;have HF:=zh hF;have hml:=hF.le;clear hcw hT hF;by_cases hw:au (L[k]:Int)=true
  ·have HF2:=zh (HF.out.word_ hkl hw);rw[hw]at c1;clear hw;generalize (L[k]:Int)=r at *;go_wp2_with fail;refine c1.mono ?_;rintro e w3 ⟨rfl,hb3⟩;have HT3:=zh (HT.out.below hb3);clear c1 hb3;go_wp2;go_roundw
   case rel=>exact⟨k+1,m,ws,jo,ju,rfl,HF2.out,jo,HT3.out⟩
   simp[intOf];omega
  have hw':au (L[k]:Int)=false:=by simpa using hw
  rw[hw']at c1;clear hw;by_cases hf:m<k
  ·have HF2:=zh (HF.out.end_ hkl hw' hf);clear hw';generalize (L[k]:Int)=r at *;go_wp2_with fail;refine c1.mono ?_;rintro e w3 ⟨rfl,hb3⟩;have HT3:=zh (HT.out.below hb3);clear c1 hb3;have hRs:=(HR.out.below HT3.out.bel).sub (m:=m) (k:=k) jo jo;have hmp:((rv L).take k).drop m=rv ((L.take k).drop m):=by unfold rv;rw[←List.map_take,←List.map_drop]
   rw[hmp,zf]at hRs;have c2:=DF (some ⟨g,m,none⟩) (k-m) (cap-m) _ w3 (hRs.more HT3.out.bel.size) jo;obtain⟨A3,d3,rfl,_⟩:=aU HT3.out.own;clear hRs hmp;generalize ai ((L.take k).drop m)=wd at *;go_wp2_with fail;refine c2.mono ?_;rintro e w4 ⟨rfl,hb4⟩;have hT4:=HT3.out.below hb4;have hown4:=hT4.own;have hbs4:=hT4.bel.size;have HT4:=zh hT4;clear c2 hb4 hT4;go_wp2_with (at_builtin;refine vH _ rfl _ _ 189 rfl w2.heap.size 206 i0 _ 2 24 underlying189 hi0 hz0 hz1 hz2 rfl jd _ _ _ rfl (hown4.alloc _) ⟨w4.heap.size,0,none⟩ 1 1 [.string (str wd),.int .i64 (ws.length:Int)] rfl rfl ?d1 ?d2 ?d3 ?d4 ?d5 ?_)
   case d1=>exact zy (cs:=#[.string (str wd),.int .i64 (ws.length:Int)]) (t:=206) (fr:=(0,0)) (vI w4 _)
   case d2=>intro u hu;simp at hu;rcases hu with rfl|rfl<;>rfl
   case d3=>unfold maxLen;omega
   case d4=>omega
   case d5=>simp;omega
   intro v' w5 hown5 hg5 _;have HT5:=zh ((HT4.out.below (zRR _)).put hown5 hg5);clear hown5 hg5 hown4;go_wp2;go_roundw
   case rel=>exact⟨k+1,k+1,_,jo,ju,ju,HF2.out,by rw[zJ];simp;omega,HT5.out⟩
   simp[intOf];omega
  have HF2:=zh (HF.out.gap hkl hw' hf);clear hw';generalize (L[k]:Int)=r at *;go_wp2_with fail;refine c1.mono ?_;rintro e w3 ⟨rfl,hb3⟩;have HT3:=zh (HT.out.below hb3);clear c1 hb3;go_wp2;go_roundw
  case rel=>exact⟨k+1,k+1,ws,jo,ju,ju,HF2.out,jo,HT3.out⟩
  simp[intOf];omega
 obtain rfl:k=l.length+1:=jo;rw[←HLl.out]at hF;have Fin2:=zh (Hfd.out _ _ hF);have HT:=zh hT;clear hF hT;go_wp2;rw[Exit.noGoto_ret];go_ret;have e:wds=ws:=by rw[Fin.out,Fin2.out]
 have hz:=Hb2.out.size;exact⟨_,rfl,by rw[e];exact HT.out.own.mono hz,Hb2.out.trans (HT.out.bel.mono hz)⟩
theorem Bb(s:ByteArray)(w:World)(hs:s.size≤1048576):Calls prog 142 #[.string s] w (mS w (words s.data.toList)):=
 ru s w jo
end Tk

namespace Qp
open Go.RowKit Ut Tk Qy
abbrev P:=List UInt8
def dE(c:UInt8):Bool:=c==32 || c==9
def cE(c:UInt8):Bool:=c==32 || c==9 || c==40 || c==41 || c==34
def dC(s:P):Nat:=s.findIdx (· == 34)
def aj(s:P):Nat:=if dC s.tail<s.tail.length then dC s.tail+2 else 0
def av(s:P):Nat:=s.findIdx cE
def aL(s:P):Nat:=
 if s.head?=some 40∨s.head?=some 41 then 1
 else if s.head?=some 34 then aj s
 else if s[av s]?=some 34∧s[av s-1]?=some 58 then(if aj (s.drop (av s))=0 then 0 else av s+aj (s.drop (av s)))
 else av s
def fu:Nat→P→Option (List P)
 | 0,_=>some []
 | _+1,[]=>some []
 | n+1,c::t=>if dE c then fu n t else if aL (c::t)=0 then none else(fu n ((c::t).drop (aL (c::t)))).map (fun l=>(c::t).take (aL (c::t))::l)
def aK(s:P):Option (List P):=fu s.length s
theorem AZ:∀(n:Nat) (s:P),s.length≤n→fu n s=fu s.length s:=by
 intro n
 induction n using Nat.strongRecOn with
 | ind n ih=>
  intro s h
  match n,s,ih,h with
  | 0,[],_,_=>rfl
  | n+1,[],_,_=>rfl
  | n+1,c::t,ih,h=>
   rw[zV]at h ⊢;by_cases hn:n=t.length
   ·rw[hn]
   have hd:((c::t).drop (aL (c::t))).length≤t.length+1-aL (c::t):=jz;have e1:=ih n jo t jo;show (if dE c then fu n t else _)=(if dE c then fu t.length t else _);rw[e1]
   split
   ·rfl
   by_cases h0:aL (c::t)=0
   ·rw[zI h0,zI h0]
   rw[zH h0,zH h0,ih n jo _ jo,ih t.length jo ((c::t).drop (aL (c::t))) jo]
theorem jD:aK []=some []:=rfl
theorem lf(c:UInt8)(t:P)(h:dE c=true):aK (c::t)=aK t:=by
 show (if dE c then fu t.length t else _)=_;rw[zI h];rfl
theorem lg(c:UInt8)(t:P)(h:dE c=false):aK (c::t)=if aL (c::t)=0 then none else(aK ((c::t).drop (aL (c::t)))).map (fun l=>(c::t).take (aL (c::t))::l):=by
 show (if dE c then fu t.length t else if aL (c::t)=0 then none else(fu t.length ((c::t).drop (aL (c::t)))).map (fun l=>(c::t).take (aL (c::t))::l))=_;rw[h,zH jd];by_cases h0:aL (c::t)=0
 ·rw[zI h0,zI h0]
 rw[zH h0,zH h0,AZ t.length _ jm];rfl
theorem oO(p:UInt8→Bool)(s:P):(∀x∈s.take (s.findIdx p),p x=false)∧(∀h:s.findIdx p<s.length,p s[s.findIdx p]=true)∧s.findIdx p≤s.length:=by
 refine⟨fun x hx=>?_,fun h=>List.findIdx_getElem (w:=h),List.findIdx_le_length⟩;obtain⟨i,hi,rfl⟩:=List.getElem_of_mem hx;rw[zK]at hi;rw[List.getElem_take];exact List.not_of_lt_findIdx (p:=p) (xs:=s) (i:=i) jo
theorem kY(p:UInt8→Bool)(s:P)(k:Nat)(h1:∀x∈s.take k,p x=false)(hk:k≤s.length)(h2:∀h:k<s.length,p s[k]=true):s.findIdx p=k:=by
 rcases zg k s.length with h|h
 ·refine(List.findIdx_eq h).2 ⟨h2 h,fun j hj=>?_⟩;exact h1 _ (zp.2 ⟨j,jw,by rw[List.getElem_take]⟩)
 have e:k=s.length:=jo;subst e;rw[List.take_length]at h1;exact List.findIdx_eq_length.2 h1
theorem lq(s:P):aj s≤s.length:=by
 unfold aj
 split
 ·rename_i h;rw[List.length_tail]at h;omega
 omega
theorem o5(s:P):aL s≤s.length:=by
 unfold aL
 split
 ·rename_i h
  cases s with
  | nil=>simp at h
  | cons c t=>simp
 split
 ·exact lq s
 have h1:=(oO cE s).2.2;have h2:=lq (s.drop (av s));rw[zP]at h2;unfold av at *
 split
 ·split
  ·omega
  omega
 exact h1
structure Pc (s:P):Prop where
 ne:s≠[]
 qt:dC s<s.length→dC s+2≤s.length
theorem Dn(c:UInt8)(t:P)(hb:dE c=false)(h:aL (c::t)≠0):Pc ((c::t).take (aL (c::t))):=by
 have hle:=o5 (c::t);have hlen:((c::t).take (aL (c::t))).length=aL (c::t):=jw;refine⟨fun e=>by rw[e]at hlen;simp at hlen;omega,fun hq=>?_⟩
 have hno:∀(l:P),(∀x∈l,cE x=false)→dC l=l.length:=fun l hl=>by
  unfold dC;refine List.findIdx_eq_length.2 fun x hx=>?_
  have:=hl x hx;unfold cE at this;simp only[Bool.or_eq_false_iff]at this;exact this.2
 rw[hlen];unfold aL at hq h hlen ⊢;by_cases h1:(c::t).head?=some 40∨(c::t).head?=some 41
 ·rw[zI h1]at hq hlen ⊢;exfalso;simp only[zX,List.take_zero]at hq;simp only[List.head?_cons,Option.some.injEq]at h1;rcases h1 with rfl|rfl<;>simp[dC,List.findIdx_cons]at hq
 rw[zH h1]at hq h hlen ⊢;by_cases h2:(c::t).head?=some 34
 ·rw[zI h2]at hq h hlen ⊢;simp only[List.head?_cons,Option.some.injEq]at h2;subst h2;unfold aj at h ⊢;by_cases h3:dC ((34:UInt8)::t).tail<((34:UInt8)::t).tail.length
  ·rw[zI h3];have:dC ((34:UInt8)::t).tail+2=(dC t+1)+1:=rfl;rw[this,zX];simp[dC,List.findIdx_cons]
  rw[zH h3]at h;exact absurd rfl h
 rw[zH h2]at hq h hlen ⊢;have hen:=oO cE (c::t);by_cases h3:(c::t)[av (c::t)]?=some 34∧(c::t)[av (c::t)-1]?=some 58
 ·rw[zI h3]at hq h hlen ⊢;by_cases h4:aj ((c::t).drop (av (c::t)))=0
  ·rw[zI h4]at h;exact absurd rfl h
  rw[zH h4]at hq h hlen ⊢
  have hlt:av (c::t)<(c::t).length:=by
   rcases zg (av (c::t)) (c::t).length with hh|hh
   ·exact hh
   rw[List.getElem?_eq_none hh]at h3;simp at h3
  have hq2:2≤aj ((c::t).drop (av (c::t))):=by
   unfold aj at h4 ⊢
   split
   ·omega
   rename_i hh;rw[zH hh]at h4;exact absurd rfl h4
  have hqa:dC ((c::t).take (av (c::t)+aj ((c::t).drop (av (c::t)))))≤av (c::t):=by
   rcases zg (av (c::t)) (dC ((c::t).take (av (c::t)+aj ((c::t).drop (av (c::t))))))with hh|hh
   ·exfalso;have:=List.not_of_lt_findIdx (p:=(· == (34:UInt8))) hh;rw[List.getElem_take]at this;have h3':=h3.1;rw[zU hlt,Option.some.injEq]at h3';rw[h3']at this;simp at this
   exact hh
  omega
 rw[zH h3]at hq h hlen ⊢;exfalso;have:=hno _ hen.1;unfold av at hq;omega
theorem o7:∀(n:Nat) (s:P) (l:List P),s.length≤n→aK s=some l→∀x∈l,Pc x∧x.length≤s.length:=by
 intro n
 induction n with
 | zero=>
  intro s l h e x hx;have:s=[]:=List.length_eq_zero_iff.1 jo;subst this;rw[jD]at e;injection e with e;subst e
  cases hx
 | succ n ih=>
  intro s l h e x hx
  cases s with
  | nil=>
   rw[jD]at e;injection e with e;subst e
   cases hx
  | cons c t=>
   rw[zV]at h ⊢;by_cases hb:dE c=true
   ·rw[lf c t hb]at e;have:=ih t l jo e x hx;exact⟨this.1,jo⟩
   have hb':dE c=false:=by simpa using hb
   rw[lg c t hb']at e;by_cases h0:aL (c::t)=0
   ·rw[zI h0]at e;cases e
   rw[zH h0]at e;obtain⟨l',h1,h2⟩:=Option.map_eq_some_iff.1 e;subst h2;rcases List.mem_cons.1 hx with rfl|hx
   ·exact⟨Dn c t hb' h0,by rw[zK,zV];omega⟩
   have:=ih _ l' jm h1 x hx;refine⟨this.1,?_⟩;have h3:=this.2;rw[zP,zV]at h3;omega
theorem oG:∀(n:Nat) (s:P) (l:List P),s.length≤n→aK s=some l→l.length≤s.length:=by
 intro n
 induction n with
 | zero=>
  intro s l h e;have:s=[]:=List.length_eq_zero_iff.1 jo;subst this;rw[jD]at e;injection e with e;subst e;simp
 | succ n ih=>
  intro s l h e
  cases s with
  | nil=>
   rw[jD]at e;injection e with e;subst e;simp
  | cons c t=>
   rw[zV]at h ⊢;by_cases hb:dE c=true
   ·rw[lf c t hb]at e;have:=ih t l jo e;omega
   have hb':dE c=false:=by simpa using hb
   rw[lg c t hb']at e;by_cases h0:aL (c::t)=0
   ·rw[zI h0]at e;cases e
   rw[zH h0]at e;obtain⟨l',h1,h2⟩:=Option.map_eq_some_iff.1 e;subst h2;have:=ih _ l' jm h1;simp at this ⊢;omega
def NOT:P:=[78,79,84]
def AND:P:=[65,78,68]
def OR:P:=[79,82]
def LP:P:=[40]
def RP:P:=[41]
def msg:P:=[109,115,103]
def bN(nm:P)(l:List P):Option Q:=if l=[]then none else if l.length=1 then some (.mk 2 (str nm) (l.map str) [])else some (.mk 4 (str nm) (l.map str) [])
def az(s:P):Nat:=s.findIdx (fun c=>c==58 || c==34)
def dM(s:P):Bool:=s[az s]? == some 58
def dX(s:P):P:=if dM s then s.take (az s)else msg
def bB(s:P):P:=if dM s then s.drop (az s+1)else s
def aV(s:P):Option Q:=
 if s=[42]then some (.mk 1 ByteArray.empty [] [])
 else if isN (dX s)=false∨bB s=[]then none
 else if(bB s).head?=some 34 then bN (dX s) (words (((bB s).take ((bB s).length-1)).drop 1))
 else if(bB s).getLast?=some 42 then
  (if(bB s).length=1 then some (.mk 3 (str (dX s)) [ByteArray.empty] [])else if(words (bB s).dropLast).length=1 then some (.mk 3 (str (dX s)) ((words (bB s).dropLast).map str) [])else none)
 else bN (dX s) (words (bB s))
def nW(q:Q):Q:=.mk 7 ByteArray.empty [] [q]
def af(k:Int)(l:List Q):Q:=match l with | [q]=>q|l=>.mk k ByteArray.empty [] l
inductive Md where
 | part|and (a:List Q)|or (a:List Q)|andT (a:List Q)|orT (a:List Q)
def iq(s:P):Bool:=s != NOT&&s != LP&&s != RP&&s != AND&&s != OR
def closed:Option (Q × List P)→Option (Q × List P)
 | some (q,s::r)=>if s=RP then some (q,r)else none
 | _=>none
def fI(l:List P):Bool:=match l with | []=>true|s::_=>s==RP || s==OR
inductive R:Md→List P→Option (Q × List P)→Prop
 | pnil:R .part [] none
 | pnot {s t o} (hs:s=NOT) (h:R .part t o):R .part (s::t) (o.map fun x=>(nW x.1,x.2))
 | plp {s t o} (hs:s=LP) (h:R (.or []) t o):R .part (s::t) (closed o)
 | pbad {s t} (hs:s=RP∨s=AND∨s=OR):R .part (s::t) none
 | pleaf {s t} (hs:iq s=true):R .part (s::t) ((aV s).map fun q=>(q,t))
 | and0 {a l} (h:R .part l none):R (.and a) l none
 | and1 {a l q r o} (h:R .part l (some (q,r))) (h2:R (.andT (a ++ [q])) r o):R (.and a) l o
 | andE {a l} (h:fI l=true):R (.andT a) l (some (af 5 a,l))
 | andA {a s t o} (hs:s=AND) (h:R (.and a) t o):R (.andT a) (s::t) o
 | andN {a s t o} (hs:fI (s::t)=false) (hn:s≠AND) (h:R (.and a) (s::t) o):R (.andT a) (s::t) o
 | or0 {a l} (h:R (.and []) l none):R (.or a) l none
 | or1 {a l q r o} (h:R (.and []) l (some (q,r))) (h2:R (.orT (a ++ [q])) r o):R (.or a) l o
 | orE {a l} (h:l.head?≠some OR):R (.orT a) l (some (af 6 a,l))
 | orO {a s t o} (hs:s=OR) (h:R (.or a) t o):R (.orT a) (s::t) o
theorem R.det{m:Md}{l:List P}{o:Option (Q × List P)}(h:R m l o):∀o',R m l o'→o=o':=by
 have nw:∀s,iq s=true→s≠NOT∧s≠LP∧s≠RP∧s≠AND∧s≠OR:=fun s hs=>by
  refine⟨?_,?_,?_,?_,?_⟩<;>(rintro rfl;revert hs;decide)
 induction h with
 | pnil=>intro o' h';cases h';rfl
 | pnot hs h ih=>
  intro o' h'
  cases h' with
  | pnot _ h=>rw[ih _ h]
  | plp hs' _=>rw[hs]at hs';exact absurd hs' jd
  | pbad hs'=>rw[hs]at hs';exact absurd hs' jd
  | pleaf hs'=>exact absurd hs (nw _ hs').1
 | plp hs h ih=>
  intro o' h'
  cases h' with
  | plp _ h=>rw[ih _ h]
  | pnot hs' _=>rw[hs]at hs';exact absurd hs' jd
  | pbad hs'=>rw[hs]at hs';exact absurd hs' jd
  | pleaf hs'=>exact absurd hs (nw _ hs').2.1
 | pbad hs=>
  intro o' h'
  cases h' with
  | pbad _=>rfl
  | pnot hs' _=>rw[hs']at hs;exact absurd hs jd
  | plp hs' _=>rw[hs']at hs;exact absurd hs jd
  | pleaf hs'=>
   have:=nw _ hs';rcases hs with e|e|e
   ·exact absurd e this.2.2.1
   ·exact absurd e this.2.2.2.1
   exact absurd e this.2.2.2.2
 | pleaf hs=>
  intro o' h';have:=nw _ hs
  cases h' with
  | pleaf _=>rfl
  | pnot hs' _=>exact absurd hs' this.1
  | plp hs' _=>exact absurd hs' this.2.1
  | pbad hs'=>
   rcases hs' with e|e|e
   ·exact absurd e this.2.2.1
   ·exact absurd e this.2.2.2.1
   exact absurd e this.2.2.2.2
 | and0 h ih=>
  intro o' h'
  cases h' with
  | and0 _=>rfl
  | and1 h _=>exact absurd (ih _ h) jz
 | and1 h h2 ih ih2=>
  intro o' h'
  cases h' with
  | and0 h=>exact absurd (ih _ h) jz
  | and1 h h2=>
   have:=ih _ h;simp only[Option.some.injEq,Prod.mk.injEq]at this;obtain⟨rfl,rfl⟩:=this;exact ih2 _ h2
 | andE h=>
  intro o' h'
  cases h' with
  | andE _=>rfl
  | andA hs _=>rw[hs]at h;exact absurd h (by simp[fI];decide)
  | andN hs _ _=>rw[h]at hs;cases hs
 | andA hs h ih=>
  intro o' h'
  cases h' with
  | andE h=>rw[hs]at h;exact absurd h (by simp[fI];decide)
  | andA _ h=>exact ih _ h
  | andN _ hn _=>exact absurd hs hn
 | andN hs hn h ih=>
  intro o' h'
  cases h' with
  | andE h=>rw[h]at hs;cases hs
  | andA hs _=>exact absurd hs hn
  | andN _ _ h=>exact ih _ h
 | or0 h ih=>
  intro o' h'
  cases h' with
  | or0 _=>rfl
  | or1 h _=>exact absurd (ih _ h) jz
 | or1 h h2 ih ih2=>
  intro o' h'
  cases h' with
  | or0 h=>exact absurd (ih _ h) jz
  | or1 h h2=>
   have:=ih _ h;simp only[Option.some.injEq,Prod.mk.injEq]at this;obtain⟨rfl,rfl⟩:=this;exact ih2 _ h2
 | orE h=>
  intro o' h'
  cases h' with
  | orE _=>rfl
  | orO hs _=>rw[hs]at h;exact absurd rfl h
 | orO hs h ih=>
  intro o' h'
  cases h' with
  | orE h=>rw[hs]at h;exact absurd rfl h
  | orO _ h=>exact ih _ h
theorem R.less{m:Md}{l:List P}{o:Option (Q × List P)}(h:R m l o):∀q r,o=some (q,r)→(∃k,r=l.drop k∧k≤l.length∧((m=.part∨(∃a,m=.and a)∨∃a,m=.or a)→1≤k)):=by
 induction h with
 | pnil=>intro q r e;cases e
 | pnot hs h ih=>
  intro q r e;obtain⟨⟨q',r'⟩,h1,h2⟩:=Option.map_eq_some_iff.1 e;simp only[Prod.mk.injEq]at h2;obtain⟨_,rfl⟩:=h2;obtain⟨k,rfl,hk,_⟩:=ih q' _ h1;exact⟨k+1,rfl,jm,fun _=>jo⟩
 | @plp s t o hs h ih=>
  intro q r e
  match o,e,ih with
  | some (q',s'::r'),e,ih=>
   by_cases hp:s'=RP
   ·have e2:closed (some (q',s'::r'))=some (q',r'):=zI hp;rw[e2]at e;simp only[Option.some.injEq,Prod.mk.injEq]at e;obtain⟨rfl,rfl⟩:=e;obtain⟨k,h1,hk,_⟩:=ih q' _ rfl;refine⟨k+2,?_,?_,fun _=>jo⟩
    ·show _=t.drop (k+1);rw[←List.drop_drop,←h1];rfl
    have:=congrArg List.length h1;simp at this ⊢;omega
   have e2:closed (some (q',s'::r'))=none:=zH hp;rw[e2]at e
   cases e
  | some (q',[]),e,_=>cases e
  | none,e,_=>cases e
 | pbad hs=>intro q r e;cases e
 | pleaf hs=>
  intro q r e;obtain⟨q',h1,h2⟩:=Option.map_eq_some_iff.1 e;simp only[Prod.mk.injEq]at h2;obtain⟨_,rfl⟩:=h2;exact⟨1,rfl,jz,fun _=>jo⟩
 | and0 h ih=>intro q r e;cases e
 | and1 h h2 ih ih2=>
  intro q r e;obtain⟨k,rfl,hk,h1⟩:=ih _ _ rfl;obtain⟨k2,rfl,hk2,_⟩:=ih2 q r e;rw[zP]at hk2;have:=h1 (.inl rfl);exact⟨k+k2,by rw[List.drop_drop],jo,fun _=>jo⟩
 | andE h=>intro q r e;simp only[Option.some.injEq,Prod.mk.injEq]at e;obtain⟨_,rfl⟩:=e;exact⟨0,rfl,jo,fun h=>by simp at h⟩
 | andA hs h ih=>intro q r e;obtain⟨k,rfl,hk,_⟩:=ih q r e;exact⟨k+1,rfl,jm,fun _=>jo⟩
 | andN hs hn h ih=>intro q r e;obtain⟨k,rfl,hk,_⟩:=ih q r e;exact⟨k,rfl,hk,fun h=>by simp at h⟩
 | or0 h ih=>intro q r e;cases e
 | or1 h h2 ih ih2=>
  intro q r e;obtain⟨k,rfl,hk,h1⟩:=ih _ _ rfl;obtain⟨k2,rfl,hk2,_⟩:=ih2 q r e;rw[zP]at hk2;have:=h1 (.inr (.inl ⟨_,rfl⟩));exact⟨k+k2,by rw[List.drop_drop],jo,fun _=>jo⟩
 | orE h=>intro q r e;simp only[Option.some.injEq,Prod.mk.injEq]at e;obtain⟨_,rfl⟩:=e;exact⟨0,rfl,jo,fun h=>by simp at h⟩
 | orO hs h ih=>intro q r e;obtain⟨k,rfl,hk,_⟩:=ih q r e;exact⟨k+1,rfl,jm,fun _=>jo⟩
end Qp
end Go.Proofs.YtmomjpolkkbhnaaGreat
