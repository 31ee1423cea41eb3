/- loggiaref07: cut, Tokens, Words, IsWord: the walks. -/
import Derived.Sort.WalkB2
import Derived.Sort.WalkB12
import Derived.Deep.LoopGhost
import Derived.Laws.StructEq
import Derived.RegionTactic
import Derived.ChangeAlike
import Derived.BigRegion
import Derived.Deep.QuietTactic
import Derived.Test.YtmomjpolkkbhnaaGreatQModelCountsRow3
set_option linter.unusedSimpArgs false
set_option linter.unusedVariables false
set_option maxRecDepth 20000
set_option maxHeartbeats 100000000
open Go.Proofs.Tryz
namespace Go.Proofs.YtmomjpolkkbhnaaGreat
namespace Tk
open Go.RowKit Ut
theorem G9(a b:List UInt8):str a++str b=str (a++b):=by
 have h:(str a++str b).data.toList=a++b:=by simp[str]
 rw[←fE (str a++str b),h]
theorem wu(A:Option Addr)(n c:Nat)(l:List Nat)(w:World)(hR:Reads w w.heap.size 1 A n (rv l))(hn:n≤4398046511104) :
  Calls prog 190 #[.slice A n c] w fun e w'=>e=.returned (.string (str (ai l)))∧zWW w w':=by
 have hlen:l.length=n:=by have:=hR.1;simpa[rv]using this
 have HR:=zh hR;have Hl:=zh hlen;clear hR hlen;go_enter func190,ntmps190;go_wp2;go_loopw [3,4] (fun s i wr=>∃(k:Nat) (a:List UInt8),k≤n∧i=.int .i64 k∧s=.string (str a)∧a.length≤32∧ai l=dW a (l.drop k)∧zWW w wr) (fun _ i _=>n-(intOf i).toNat)
 case atStart=>exact⟨0,[],zS _,rfl,rfl,jz,rfl,zw _ _⟩
 obtain⟨k,a,hk,rfl,rfl,ha,hwd,hW⟩:=hrel;have hsa:=iZ a;by_cases hlt:k<n
 ·obtain⟨ab,ao,hkl,rfl,hab,hcw⟩:=Reads.at_map (f:=fun r:Nat=>Value.int .i64 (r:Int)) HR.out hlt;have hcx:=(hW.cell (p:=⟨ab,ao+k,none⟩) hab).trans hcw;rw[zc hkl,iA]at hwd;have c1:=DT (l[k]:Int) wr;have HW:=zh hW;have Hwd:=zh hwd;have hel:=iG (lower (l[k]:Int));clear hwd hcw hW;generalize lower (l[k]:Int)=z at *;generalize (l[k]:Int)=r at *;go_wp2_with fail;refine c1.mono ?_;rintro e w' ⟨rfl,rfl⟩;have c2:=Bg _ 1 1 [z] _ (sx wr 3 z) jo;rw[tC]at c2;clear c1;go_wp2_with fail;refine c2.mono ?_;rintro e w3 ⟨rfl,hb3⟩;have hbw:=(HW.out.alloc HW.out.size (.cells #[.int .i64 z] 3)).trans (hb3.mono (by have:=HW.out.size;simp;omega));have hsz:=iZ (enc z);have happ:=G9 a (enc z);have Hbw:=zh hbw;generalize enc z=s at *;clear hb3 c2 hbw;by_cases h32:32<a.length+s.length
  ·have h32':(32:Int)<(a.length:Int)+(s.length:Int):=jo;have Fin:Hid (ai l=a):=zh (by rw[Hwd.out,zI h32]);clear h32 happ;go_wp2;go_ret;exact⟨by rw[Fin.out];rfl,Hbw.out⟩
  have h32':(a.length:Int)+(s.length:Int)≤32:=jo;have Fin:Hid (ai l=dW (a++s) (l.drop (k+1))):=zh (by rw[Hwd.out,zH h32]);clear h32;go_wp2;go_roundw
  case rel=>exact⟨k+1,a++s,jo,ju,by first|rfl|rw[happ],by rw[zJ];omega,Fin.out,Hbw.out⟩
  simp[intOf];omega
 have hd:l.drop k=[]:=List.drop_eq_nil_of_le (by rw[Hl.out];omega);rw[hd]at hwd;have Fin:Hid (ai l=a):=zh hwd;have Hb:=zh hW;clear hwd hd hW;go_wp2;go_ret;exact⟨by rw[Fin.out];rfl,Hb.out⟩
structure FarR (l:List Nat) (k:Nat) (ws:List (List UInt8)):Prop where
 le:k≤l.length
 eq:(bY [] l).map ai=ws++(bY [] (l.drop k)).map ai
theorem FarR.gap{l:List Nat}{k:Nat}{ws:List (List UInt8)}(h:FarR l k ws)(hk:k<l.length)(hw:au (l[k]:Int)=false):FarR l (k+1) ws:=
 ⟨hk,by rw[h.eq,zc hk,ez,hw,zH jd];rfl⟩
theorem FarR.run{l:List Nat}{k m:Nat}{ws:List (List UInt8)}(h:FarR l k ws)(hm:k<m)(hml:m≤l.length)(hall:∀r∈(l.take m).drop k,au (r:Int)=true)
  (hend:∀hm:m<l.length,au (l[m]:Int)=false):FarR l m (ws ++ [ai ((l.take m).drop k)]):=by
 refine⟨hml,?_⟩
 have e:l.drop k=(l.take m).drop k++l.drop m:=by
  conv=>lhs;rw[←List.take_append_drop m l]
  rw[List.drop_append_of_le_length jw]
 have hne:(l.take m).drop k≠[]:=by
  intro e;have:=congrArg List.length e;rw[zP,zK,List.length_nil]at this;omega
 rw[h.eq,e,pK _ [] _ hall,List.nil_append];generalize (l.take m).drop k=c at *;rcases zg m l.length with hlt|hge
 ·rw[zc hlt,ez,ez,hend hlt,zH jd,zH jd];simp[last,hne]
 rw[List.drop_eq_nil_of_le hge,gL,gL];simp[last,hne]
theorem FarR.done{l:List Nat}{ws:List (List UInt8)}(h:FarR l l.length ws):(bY [] l).map ai=ws:=by
 rw[h.eq,List.drop_length,gL];simp[last]
theorem Aq(s:ByteArray)(w:World)(hs:s.size≤1048576):Calls prog 171 #[.string s] w (mS w (words s.data.toList)):=by
 obtain⟨i0,hi0,hz0,hz1,hz2⟩:=info_parts uz;have c0:=DV s w jo;have hrl:=om s.data.toList;rw[aB]at hrl;have Fin:Hid (words s.data.toList=(bY [] (bT s.data.toList)).map ai):=rfl;generalize words s.data.toList=wds at *;generalize bT s.data.toList=l at *;go_enter func171,ntmps171;go_wp2_with fail;refine c0.mono ?_;rintro e w1 ⟨v,rfl,hown,hb1⟩;obtain⟨A,c,rfl,hR⟩:=aU hown
 have hlc:l.length≤c:=by
  rcases hown.2 with⟨hv,_⟩|⟨g',cap',cur,hv,_,_,hnc,_⟩
  ·injection hv with _ hv _;omega
  injection hv with _ _ hv;omega
 have S0:Toks w1 w1 (.slice none 0 0) []:=Toks.start w1 w1 (zw _ _);have F0:FarR l 0 []:=⟨zS _,rfl⟩;have HR:=zh hR;have HS0:=zh S0;have HF0:=zh F0;have Hb1:=zh hb1;clear hown hR S0 F0 hb1 c0;go_wp2_with fail;go_loopw [3,5] (fun v i wr=>∃(k:Nat) (ws:List (List UInt8)),i=.int .i64 k∧FarR l k ws∧ws.length≤k∧Toks w1 wr v ws) (fun _ i _=>l.length-(intOf i).toNat)
 case atStart=>exact⟨0,[],rfl,HF0.out,jz,HS0.out⟩
 obtain⟨k,ws,rfl,hF,hwl,hT⟩:=hrel;have hkl:=hF.le;by_cases hlt:k<l.length
 ·obtain⟨wo,rfl⟩:∃wo:World,wo=wr:=⟨_,rfl⟩;obtain⟨ab,ao,_,rfl,hab,_⟩:=Reads.at_map (f:=fun r:Nat=>Value.int .i64 (r:Int)) HR.out hlt;have HT:=zh hT;have HF:=zh hF;clear hT hF;go_wp2
  go_loop [6] (fun e=>∃m:Nat,k≤m∧m≤l.length∧e=.int .i64 m∧∀r∈(l.take m).drop k,au (r:Int)=true) (fun e=>l.length-(intOf e).toNat)
  case atStart=>exact⟨k,zG _,hkl,rfl,by
   rw[List.drop_eq_nil_of_le jw];intro r hr;cases hr⟩
  obtain⟨m,hkm,hml,rfl,hall⟩:=hrel;have Hall:=zh hall;clear hall;by_cases hend:m<l.length
  ·obtain⟨ab',ao',_,e,_,hcw⟩:=Reads.at_map (f:=fun r:Nat=>Value.int .i64 (r:Int)) HR.out hend;injection e with e;injection e with e1 e2;subst e1 e2;have hcx:=(HT.out.bel.cell (p:=⟨ab,ao+m,none⟩) hab).trans hcw;have c1:=Ez (l[m]:Int) wo;clear hcw;by_cases hw:au (l[m]:Int)=true
   ·have Hall2:Hid (∀r∈(l.take (m+1)).drop k,au (r:Int)=true):=zh (by
     have e:(l.take (m+1)).drop k=(l.take m).drop k ++ [l[m]]:=by
      rw[zL hend,List.drop_append_of_le_length jw]
     rw[e];intro r hr;rcases List.mem_append.1 hr with hr|hr
     ·exact Hall.out r hr
     simp only[List.mem_singleton]at hr
     subst hr;exact hw)
    rw[hw]at c1;clear hw;generalize (l[m]:Int)=r at *;go_wp2_with (go_at_call 189;refine c1.mono ?_;rintro e w' ⟨rfl,rfl⟩)
    go_round
    case rel=>exact⟨m+1,jo,jo,ju,Hall2.out⟩
    simp[intOf];omega
   have hw':au (l[m]:Int)=false:=by simpa using hw
   have Hstop:Hid (∀hm:m<l.length,au (l[m]:Int)=false):=zh (fun _=>hw');rw[hw']at c1;clear hw hw';generalize (l[m]:Int)=r at *;obtain⟨A3,d3,rfl,_⟩:=aU HT.out.own;by_cases hmk:m=k
   ·subst hmk;have HF2:=zh (HF.out.gap hlt (Hstop.out hlt));go_wp2_with (go_at_call 189;refine c1.mono ?_;rintro e w' ⟨rfl,rfl⟩);go_roundw
    case rel=>exact⟨m+1,ws,ju,HF2.out,jo,HT.out⟩
    simp[intOf];omega
   have hkm':k<m:=jo;have hmk':((m:Int)==(k:Int))=false:=zM.2 jo;have HF2:=zh (HF.out.run (m:=m) jo hml Hall.out Hstop.out);have hRs:=(HR.out.below HT.out.bel).sub (m:=k) (k:=m) jo jo;have hmp:((rv l).take m).drop k=rv ((l.take m).drop k):=by unfold rv;rw[←List.map_take,←List.map_drop]
   rw[hmp]at hRs;have c2:=wu (some ⟨ab,ao+k,none⟩) (m-k) (c-k) _ wo (hRs.more HT.out.bel.size) jo;clear hRs hmp hmk;generalize ai ((l.take m).drop k)=wd at *;go_wp2_with fail;refine c1.mono ?_;rintro e w' ⟨rfl,rfl⟩;go_wp2_with fail;refine c2.mono ?_;rintro e w4 ⟨rfl,hb4⟩;have hT4:=HT.out.below hb4;have hown4:=hT4.own;have hbs4:=hT4.bel.size;have HT4:=zh hT4;clear c2 hb4 hT4;go_wp2_with (at_builtin;refine vH _ rfl _ _ 189 rfl w1.heap.size 206 i0 _ 2 24 underlying189 hi0 hz0 hz1 hz2 rfl jd _ _ _ rfl (hown4.alloc _) ⟨w4.heap.size,0,none⟩ 1 1 [.string (str wd),.int .i64 (ws.length:Int)] rfl rfl ?d1 ?d2 ?d3 ?d4 ?d5 ?_)
   case d1=>exact zy (cs:=#[.string (str wd),.int .i64 (ws.length:Int)]) (t:=206) (fr:=(0,0)) (vI w4 _)
   case d2=>intro u hu;simp at hu;rcases hu with rfl|rfl<;>rfl
   case d3=>unfold maxLen;omega
   case d4=>omega
   case d5=>simp;omega
   intro v' w5 hown5 hg5 _;have HT5:=zh ((HT4.out.below (zRR _)).put hown5 hg5);clear hown5 hg5 hown4;go_wp2;go_roundw
   case rel=>exact⟨m,_,rfl,HF2.out,by rw[zJ];simp;omega,HT5.out⟩
   simp[intOf];omega
  have Hstop:Hid (∀hm:m<l.length,au (l[m]:Int)=false):=zh (fun hm=>absurd hm hend);obtain rfl:m=l.length:=jo;obtain⟨A3,d3,rfl,_⟩:=aU HT.out.own;by_cases hmk:l.length=k
  ·exfalso;omega
  have hmk':((l.length:Int)==(k:Int))=false:=zM.2 jo;have HF2:=zh (HF.out.run (m:=l.length) jo hml Hall.out Hstop.out);have hRs:=(HR.out.below HT.out.bel).sub (m:=k) (k:=l.length) jo jo;have hmp:((rv l).take l.length).drop k=rv ((l.take l.length).drop k):=by unfold rv;rw[←List.map_take,←List.map_drop]
  rw[hmp]at hRs;have c2:=wu (some ⟨ab,ao+k,none⟩) (l.length-k) (c-k) _ wo (hRs.more HT.out.bel.size) jo;clear hRs hmp hmk;generalize ai ((l.take l.length).drop k)=wd at *;go_wp2_with fail;refine c2.mono ?_;rintro e w4 ⟨rfl,hb4⟩;have hT4:=HT.out.below hb4;have hown4:=hT4.own;have hbs4:=hT4.bel.size;have HT4:=zh hT4;clear c2 hb4 hT4;go_wp2_with (at_builtin;refine vH _ rfl _ _ 189 rfl w1.heap.size 206 i0 _ 2 24 underlying189 hi0 hz0 hz1 hz2 rfl jd _ _ _ rfl (hown4.alloc _) ⟨w4.heap.size,0,none⟩ 1 1 [.string (str wd),.int .i64 (ws.length:Int)] rfl rfl ?d1 ?d2 ?d3 ?d4 ?d5 ?_)
  case d1=>exact zy (cs:=#[.string (str wd),.int .i64 (ws.length:Int)]) (t:=206) (fr:=(0,0)) (vI w4 _)
  case d2=>intro u hu;simp at hu;rcases hu with rfl|rfl<;>rfl
  case d3=>unfold maxLen;omega
  case d4=>omega
  case d5=>simp;omega
  intro v' w5 hown5 hg5 _;have HT5:=zh ((HT4.out.below (zRR _)).put hown5 hg5);clear hown5 hg5 hown4;go_wp2;go_roundw
  case rel=>exact⟨l.length,_,rfl,HF2.out,by rw[zJ];simp;omega,HT5.out⟩
  simp[intOf];omega
 obtain rfl:k=l.length:=jo;have Fin2:=zh hF.done;have HT:=zh hT;clear hF hT;go_wp2;go_ret;have e:wds=ws:=by rw[Fin.out,Fin2.out]
 have hz:=Hb1.out.size;exact⟨_,rfl,by rw[e];exact HT.out.own.mono hz,Hb1.out.trans (HT.out.bel.mono hz)⟩
theorem tF(s:ByteArray)(w:World)(hs:s.size≤1048576):Calls prog 171 #[.string s] w (mS w (words s.data.toList)):=
 Aq s w jo
end Tk

namespace Tk
open Go.RowKit Ut
theorem ow(s:ByteArray)(w:World)(hs:s.size≤1048576):Calls prog 170 #[.string s] w (wZ w (words s.data.toList)):=by
 obtain⟨i0,hi0,hz0,hz1,hz2⟩:=info_parts mH;have c0:=tF s w hs;have hwl:=iW s;generalize words s.data.toList=ws at *;go_enter func170,ntmps170;go_wp2_with fail;refine c0.mono ?_;rintro e w1 ⟨v,rfl,hown,hb1⟩;obtain⟨A,c,rfl,hR⟩:=aU hown;have S0:Strs w1 w1 (.slice none 0 0) []:=⟨vM _ _ _ _,zw _ _⟩;have HR:=zh hR;have HS0:=zh S0;have Hb1:=zh hb1;clear hown hR S0 c0 hb1;go_wp2_with fail;go_loopw [4,5] (fun v i wr=>∃k:Nat,k≤ws.length∧i=.int .i64 k∧Strs w1 wr v (ws.take k)) (fun _ i _=>ws.length-(intOf i).toNat)
 case atStart=>exact⟨0,zS _,rfl,HS0.out⟩
 obtain⟨k,hk,rfl,hT⟩:=hrel;by_cases hlt:k<ws.length
 ·obtain⟨b,o,rfl,hb,hc1,hc2⟩:=gQ HR.out rfl hlt;have hd1:=(hT.bel.cell (p:=⟨b,o+k*2,none⟩) hb).trans hc1;have hts:ws.take (k+1)=ws.take k ++ [ws[k]]:=by rw[zL hlt]
  have Hts:=zh hts;have htl:(ws.take k).length≤ws.length:=jw;have hown:=hT.own;have hbs:=hT.bel.size;have HT:=zh hT;clear hts hc1 hc2 hT;generalize ws[k]=x at *;generalize ws.take k=y at *;go_wp2_with (at_builtin;refine vH _ rfl _ _ 57 rfl w1.heap.size 9 i0 _ 1 16 underlying57 hi0 hz0 hz1 hz2 rfl jd _ _ _ rfl (hown.alloc _) ⟨wr.heap.size,0,none⟩ 1 1 [.string (str x)] rfl rfl ?d1 ?d2 ?d3 ?d4 ?d5 ?_)
  case d1=>exact zy (cs:=#[.string (str x)]) (t:=9) (fr:=(0,0)) (vI wr _)
  case d2=>intro u hu;simp at hu;subst hu;rfl
  case d3=>unfold maxLen;omega
  case d4=>omega
  case d5=>simp;omega
  intro v' w5 hown5 hg5 _;have HT5:=zh ((HT.out.below (zRR _)).put hown5 hg5);clear hown5 hg5 hown;go_wp2;go_roundw
  case rel=>exact⟨k+1,jo,ju,by rw[Hts.out];exact HT5.out⟩
  simp[intOf];omega
 have hall:ws.take k=ws:=zR jo;rw[hall]at hT;have HT:=zh hT;clear hT hall;go_wp2;go_ret;exact⟨_,rfl,HT.out.own.mono Hb1.out.size,Hb1.out.trans (HT.out.bel.mono Hb1.out.size)⟩
theorem sD(s:ByteArray)(w:World)(hs:s.size≤140737488351232):Calls prog 168 #[.string s] w fun e w'=>e=.returned (.bool (isN s.data.toList))∧w=w':=by
  have Fin:Hid (isN s.data.toList=(decide (1≤s.data.toList.length)&&decide (s.data.toList.length≤32)&&s.data.toList.all eH)):=rfl;rw[aB]at Fin;by_cases hl:1≤s.size∧s.size≤32
  · have h1:(1:Int)≤(s.size:Int):=jo;have h2:(s.size:Int)≤32:=jo;have Fin2:Hid (isN s.data.toList=s.data.toList.all eH):=zh (by rw[Fin.out,zO hl.1,zO hl.2];rfl);clear hl;go_enter func168,ntmps168;go_wp2
    go_loop [3] (fun i=>∃k:Nat,k≤s.size∧i=.int .i64 k∧(s.data.toList.take k).all eH=true) (fun i=>s.size-(intOf i).toNat)
    case atStart=>exact⟨0,zS _,rfl,rfl⟩
    obtain⟨k,hk,rfl,hal⟩:=hrel;by_cases hlt:k<s.size
    · have hu:=(s[k]).toNat_lt;have hts:=iU s k hlt
      have hmem:s[k]∈s.data.toList:=by
        have:s.data.toList[k]'(by rw[aB];exact hlt)=s[k]:=rfl;rw[←this];exact za _
      have Hal:=zh hal;rcases ry s[k]with⟨hn,h⟩|⟨hn,h9,h⟩
      · have Hnx:Hid ((s.data.toList.take (k+1)).all eH=true):=zh (by rw[hts,List.all_append,Hal.out];simp[hn]);clear hal hts hmem hn;rcases h with h|h|h
        all_goals
          go_wp2
          all_goals first
            | (go_round
               case rel=>exact⟨k+1,jo,ju,Hnx.out⟩
               simp[intOf];omega)
            | (exfalso;simp only[bne_iff_ne,ne_eq,bne_eq_false_iff_eq,zM,zd]at *;omega)
      have Fin3:Hid (isN s.data.toList=false):=zh (by
        rw[Fin2.out]
        exact List.all_eq_false.2 ⟨_,hmem,by rw[hn];decide⟩)
      clear hal hts hmem hn;have h9':(((s[k]).toNat:Int)==95)=false:=by rw[zM];omega
      rcases h with h|h|h
      all_goals
        go_wp2
        all_goals first
          | (go_ret;exact⟨by rw[Fin3.out];rfl,rfl⟩)
          | (exfalso;simp only[Bool.not_eq_false',zd]at *;omega)
    obtain rfl:k=s.size:=jo;have htk:s.data.toList.take s.size=s.data.toList:=zR (Nat.le_of_eq (aB s));rw[htk]at hal;have Fin3:Hid (isN s.data.toList=true):=zh (by rw[Fin2.out,hal]);clear hal htk;go_wp2;go_ret;exact⟨by rw[Fin3.out];rfl,rfl⟩
  have Fin2:Hid (isN s.data.toList=false):=zh (by
    rw[Fin.out];by_cases h1:1≤s.size
    · rw[zN (show ¬s.size≤32 by omega)];simp
    rw[zN h1];rfl)
  by_cases h1:s.size<1
  · have h1':(s.size:Int)<1:=jo;clear hl h1;go_enter func168,ntmps168;go_wp2;go_ret;exact⟨by rw[Fin2.out];rfl,rfl⟩
  have h1':(1:Int)≤(s.size:Int):=jo;have h2':(32:Int)<(s.size:Int):=jo;clear hl h1;go_enter func168,ntmps168;go_wp2;go_ret;exact⟨by rw[Fin2.out];rfl,rfl⟩
theorem Bh(s:ByteArray)(w:World)(hs:s.size≤1048576):Calls prog 168 #[.string s] w fun e w'=>e=.returned (.bool (isN s.data.toList))∧w=w':=
 sD s w jo
end Tk

namespace Ss
open Go.Shelf Go.RowKit Go.Lib Go.Sort
variable {α:Type} [Inhabited α] {enc:α→List Value}
theorem nu(k:Nat)(hk2:k=3)(fv:Value)(blk off cap a b n:Nat)(d0 d:Array α)(w0 w:World)(R:RowK enc k w0 blk off d0)(hs:d.size=d0.size)(S:SWK enc k w0 blk off d w)(hab:a+n≤b)(hb:b+n≤d.size)(hsz:d.size<1099511627776) :
  Calls prog 199 #[.slice (some ⟨blk,off,none⟩) d.size cap,.int .i64 a,.int .i64 b,.int .i64 n,fv] w fun e w'=>
   e=.returned (.tuple #[])∧∃d',SWK enc k w0 blk off d' w'∧d'.size=d.size∧PermIn a (b+n) d d'∧∀x,d'[x]! = ed d a b n x:=by
 have zE:∀w,(Go.sizeOf 48).run prog w=.ok k w:=by rw[hk2];exact Tryz.sizeOf48
 have mixed:prog.follows Departure.mixedOrders=true:=jk;have S0:Aside (SWK enc k w0 blk off d w):=S;clear S hk2;go_enter func199,ntmps199;go_wp2;go_loopw [10] (fun i wr=>∃(j:Nat) (dk:Array α),j≤n∧i=.int .i64 (j:Nat)∧Aside (SWK enc k w0 blk off dk wr)∧dk.size=d.size∧Hid (PermIn a (b+n) d dk)∧Hid (∀x,dk[x]! = ed d a b j x)) (fun i _=>n-(intOf i).toNat)
 case atStart=>exact⟨0,d,zS _,rfl,S0,rfl,zh (permIn_refl _ _ _),zh (fun x=>(DZ d a b x).symm)⟩
 clear S0;obtain⟨j,dk,hj,rfl,S1,hds,HP,HX⟩:=hrel;by_cases hlt:j<n
 ·have hji:(j:Int)<(n:Int):=jo;have S2:Aside (SWK enc k w0 blk off (swp dk (a+j) (b+j)) ((wr.drew.setCells blk (off+(a+j)*k) (enc dk[b+j]!)).setCells blk (off+(b+j)*k) (enc dk[a+j]!))):=S1.out.swapped R (a+j) (b+j) jo jo;have l44a:=S1.out.ld1 R jo prog (a+j) jo;have l44b:=S1.out.ld1 R jo prog (b+j) jo;have s44a:=S1.out.st1 R jo prog (a+j) jo dk[b+j]!;have s44b:=S1.out.st2 R jo prog (a+j) (b+j) jo jo dk[b+j]! dk[a+j]!;have n44a:(enc dk[a+j]!).length=k:=R.hk _;have n44b:(enc dk[b+j]!).length=k:=R.hk _;have HP2:Hid (PermIn a (b+n) d (swp dk (a+j) (b+j))):=zh (permIn_trans _ _ _ _ _ HP.out (swp_permIn dk a (b+n) (a+j) (b+j) jo jo jo jo jo));have HX2:=zh (Da d dk a b j jo hds jo HX.out);generalize enc dk[a+j]! = cI44 at S2 l44a s44b n44a;generalize enc dk[b+j]! = cJ44 at S2 l44b s44a s44b n44b;have ea44:(((a:Int)+(j:Int))).toNat=a+j:=jo;have ra44:IntKind.i64.wrap ((a:Int)+(j:Int))=(a:Int)+(j:Int):=by rw[IntKind.wrap_i64];omega
  have rb44:IntKind.i64.wrap ((b:Int)+(j:Int))=(b:Int)+(j:Int):=by rw[IntKind.wrap_i64];omega
  have pa44:(0:Int)≤(a:Int)+(j:Int):=jo;have pb44:(0:Int)≤(b:Int)+(j:Int):=jo;have ba44:(a:Int)+(j:Int)<(d.size:Int):=jo;have bb44:(b:Int)+(j:Int)<(d.size:Int):=jo;have eb44:(((b:Int)+(j:Int))).toNat=b+j:=jo;clear S1 HP HX;go_wp2_with fail
  go_big_region_o
  clear l44a l44b s44a s44b;generalize (wr.drew.setCells blk (off+(a+j)*k) cJ44).setCells blk (off+(b+j)*k) cI44=w2 at S2 ⊢;go_wp2;go_roundw
  case rel=>exact⟨j+1,swp dk (a+j) (b+j),jo,ju,S2,by rw[size_swp];exact hds,HP2,HX2⟩
  simp[intOf];omega
 obtain rfl:j=n:=jo;go_wp2
 go_end0
 exact⟨rfl,dk,S1.out,hds,HP.out,HX.out⟩
end Ss

namespace Tk
open Go.RowKit Ut
theorem Jm(ws:List (List UInt8))(k:Nat)(h:k<ws.length):(sv ws)[k]?=some (.string (str ws[k])):=by simp[sv,zU h]
def ct(n:Nat)(s:ByteArray):ByteArray:=s.extract 0 (min s.size n)
end Tk

namespace Qy
open Go.RowKit Ut Tk
def eU(f:ByteArray × ByteArray):ByteArray × ByteArray:=(f.1,ct 300 f.2)
theorem fR:(prog.info? 48).map (fun i=>(i.zero,i.size,i.bytes))=some (some (.agg #[.int .i64 0,.int .i64 0,.slice none 0 0]),3,40):=by kernel_rfl
theorem pR:(prog.info? 85).map (fun i=>(i.zero,i.size,i.bytes))=some (some (.agg #[.string ByteArray.empty,.string ByteArray.empty]),2,32):=by kernel_rfl
theorem lZ(w:World)(h o:Nat)(u:Value):w.grownBy (w.setCell ⟨h,o,none⟩ u) (some h):=
 ⟨rfl,rfl,rfl,by simp[World.setCell],fun k _ hne=>vL _ _ _ _ (fun e=>hne (by rw[e]))⟩
theorem aP{w:World}{base:Nat}{e:TypeId}{size n:Nat}{v:Value}{xs:List Value}(h:w.ownsRow base e size v n xs) :
  ∃A c,v=.slice A n c∧Reads w w.heap.size size A n xs∧n≤c∧(A=none→c=0)∧(0<n→∃g,A=some ⟨g,0,none⟩∧∃cur,w.heap[g]?=some (.cells cur e (0,0))):=by
 obtain⟨A,c,rfl,hR⟩:=aU h;refine⟨A,c,rfl,hR,?_⟩;rcases h.2 with⟨hv,h0⟩|⟨g,cap,cur,hv,_,hg,hnc,_⟩
 ·injection hv with _ _ hc;exact⟨jo,fun _=>hc,fun h=>jo⟩
 injection hv with hA _ hc;exact⟨jo,fun e=>(by rw[hA]at e;cases e),fun _=>⟨g,hA,cur,hg⟩⟩
structure Flds (wo wq:World) (pd:Nat) (s a:Int) (fs:List (ByteArray × ByteArray)):Prop where
 ex:∃v,Blk wq pd 48 #[.int .i64 s,.int .i64 a,v]∧wq.ownsRow (wo.heap.size+1) 85 2 v fs.length (aO fs)
 bel:zWW wo wq
 ge:pd=wo.heap.size
end Qy

namespace Hi
open Go.RowKit
end Hi

namespace Hi
open Go.RowKit
theorem below_drewN{B:Nat}{a w:World}(h:Below B a w)(n:Nat):Below B a (w.drewN n):=⟨h.os,h.tape,h.output,h.size,h.block⟩
end Hi
end Go.Proofs.YtmomjpolkkbhnaaGreat
