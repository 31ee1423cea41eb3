/- The reference's Encode. -/
import Derived.Shelf.SlSortCmp.KitK
import Derived.Sort.LotA
import Derived.Sort.WalkB2
import Derived.Sort.WalkB12
import Derived.Deep.LoopGhost
import Derived.Test.YtmomjpolkkbhnaaGreatQModelRunsRow10
import Derived.Test.YtmomjpolkkbhnaaGreatQModelRunsRow8
import Derived.Test.YtmomjpolkkbhnaaGreatQModelRunsRow19
set_option linter.unusedSectionVars false
set_option linter.unusedSimpArgs false
set_option linter.unusedVariables false
set_option maxRecDepth 20000
set_option maxHeartbeats 100000000
open Go.Proofs.Tryz
namespace Go.Proofs.YtmomjpolkkbhnaaGreat
namespace Ut
open Go.RowKit
theorem FM(A:Option Addr)(n c:Nat)(rs:List Int)(w:World)(hR:Reads w w.heap.size 1 A n (rs.map (Value.int .i64)))(hn:n≤35000000000000) :
  Calls prog 206 #[.slice A n c] w fun e w'=>e=.returned (.string (str (gh rs)))∧zWW w w':=by
 have f:rs.length=n:=by have:=hR.1;simpa using this
 have F:=zh hR;have u:=zh f;have B:=zh (Putting.start w);clear hR f;go_enter func206,ntmps206;go_wp2;go_loopw [3,4] (fun v i wr=>∃k:Nat,k≤n∧i=.int .i64 k∧Putting w wr v (rs.take k)) (fun _ i _=>n-(intOf i).toNat)
 case atStart=>exact⟨0,zS _,rfl,B.out⟩
 obtain⟨k,I,rfl,b⟩:=hrel;have s:=yF (rs.take k);have l:(rs.take k).length≤n:=jw;by_cases q:k<n
 ·obtain⟨y,x,o,rfl,t,h⟩:=F.out.at_map q;have C:=(b.bel.cell (p:=⟨y,x+k,none⟩) t).trans h;have j:rs.take (k+1)=rs.take k ++ [rs[k]]:=by rw[zL o]
  have Hts:=zh j;have z:=JB w.heap.size _ u3 _ rs[k] wr b.own b.bel.size jo;have D:=zh b;clear j h b;generalize rs[k]=r at *;go_wp2_with fail;refine z.mono ?_;rintro e J ⟨H,rfl,a,g⟩;have m:=zh (D.out.put a g);clear a g;go_wp2;go_roundw
  case rel=>exact⟨k+1,jo,ju,by rw[Hts.out];exact m.out⟩
  simp[intOf];omega
 have d:rs.take k=rs:=zR (by rw[u.out];omega);have G:=Am (P:=prog) (tb:=30) (ts:=9) b.own underlying30 underlying5 underlying9;have Hall:=zh d;have E:=zh b.bel;clear d b s l;go_wp2;go_ret;exact⟨by rw[Hall.out];rfl,E.out⟩
end Ut

namespace Tk
open Go.RowKit Ut
theorem Kv(a b:List UInt8):str a++str b=str (a++b):=by
 have h:(str a++str b).data.toList=a++b:=by simp[str]
 rw[←kQ (str a++str b),h]
theorem Bi(A:Option Addr)(n c:Nat)(l:List Nat)(w:World)(hR:Reads w w.heap.size 1 A n (rv l))(hn:n≤4398046511104) :
  Calls prog 190 #[.slice A n c] w fun e w'=>e=.returned (.string (str (fu l)))∧zWW w w':=by
 have h:l.length=n:=by have:=hR.1;simpa[rv]using this
 have N:=zh hR;have F:=zh h;clear hR h;go_enter func190,ntmps190;go_wp2;go_loopw [3,4] (fun s i wr=>∃(k:Nat) (a:List UInt8),k≤n∧i=.int .i64 k∧s=.string (str a)∧a.length≤32∧fu l=kD a (l.drop k)∧zWW w wr) (fun _ i _=>n-(intOf i).toNat)
 case atStart=>exact⟨0,[],zS _,rfl,rfl,jz,rfl,zy _ _⟩
 obtain⟨k,a,R,rfl,rfl,O,b,o⟩:=hrel;have E:=ni a;by_cases x:k<n
 ·obtain⟨I,H,u,rfl,B,q⟩:=Reads.at_map (f:=fun r:Nat=>Value.int .i64 (r:Int)) N.out x;have L:=(o.cell (p:=⟨I,H+k,none⟩) B).trans q;rw[zf u,nD]at b;have D:=Gd (l[k]:Int) wr;have y:=zh o;have Hwd:=zh b;have J:=nI (lower (l[k]:Int));clear b q o;generalize lower (l[k]:Int)=z at *;generalize (l[k]:Int)=r at *;go_wp2_with fail;refine D.mono ?_;rintro e w' ⟨rfl,rfl⟩;have v:=FM _ 1 1 [z] _ (yL wr 3 z) jo;rw[yM]at v;clear D;go_wp2_with fail;refine v.mono ?_;rintro e P ⟨rfl,j⟩;have m:=(y.out.alloc y.out.size (.cells #[.int .i64 z] 3)).trans (j.mono (by have:=y.out.size;simp;omega));have G:=ni (enc z);have g:=Kv a (enc z);have Hbw:=zh m;generalize enc z=s at *;clear j v m;by_cases d:32<a.length+s.length
  ·have t:(32:Int)<(a.length:Int)+(s.length:Int):=jo;have Fin:Hid (fu l=a):=zh (by rw[Hwd.out,zI d]);clear d g;go_wp2;go_ret;exact⟨by rw[Fin.out];rfl,Hbw.out⟩
  have t:(a.length:Int)+(s.length:Int)≤32:=jo;have Fin:Hid (fu l=kD (a++s) (l.drop (k+1))):=zh (by rw[Hwd.out,zH d]);clear d;go_wp2;go_roundw
  case rel=>exact⟨k+1,a++s,jo,ju,by first|rfl|rw[g],by rw[zJ];omega,Fin.out,Hbw.out⟩
  simp[intOf];omega
 have C:l.drop k=[]:=List.drop_eq_nil_of_le (by rw[F.out];omega);rw[C]at b;have Fin:Hid (fu l=a):=zh b;have M:=zh o;clear b C o;go_wp2;go_ret;exact⟨by rw[Fin.out];rfl,M.out⟩
structure FarR (l:List Nat) (k:Nat) (ws:List (List UInt8)):Prop where
 le:k≤l.length
 eq:(iC [] l).map fu=ws++(iC [] (l.drop k)).map fu
theorem FarR.gap{l:List Nat}{k:Nat}{ws:List (List UInt8)}(h:FarR l k ws)(hk:k<l.length)(hw:gA (l[k]:Int)=false):FarR l (k+1) ws:=
 ⟨hk,by rw[h.eq,zf hk,lD,hw,zH jd];rfl⟩
theorem FarR.run{l:List Nat}{k m:Nat}{ws:List (List UInt8)}(h:FarR l k ws)(hm:k<m)(hml:m≤l.length)(hall:∀r∈(l.take m).drop k,gA (r:Int)=true)
  (hend:∀hm:m<l.length,gA (l[m]:Int)=false):FarR l m (ws ++ [fu ((l.take m).drop k)]):=by
 refine⟨hml,?_⟩
 have e:l.drop k=(l.take m).drop k++l.drop m:=by
  conv=>lhs;rw[←List.take_append_drop m l]
  rw[List.drop_append_of_le_length jw]
 have b:(l.take m).drop k≠[]:=by
  intro e;have:=congrArg List.length e;rw[zP,zK,List.length_nil]at this;omega
 rw[h.eq,e,uO _ [] _ hall,List.nil_append];generalize (l.take m).drop k=c at *;rcases zj m l.length with a|hge
 ·rw[zf a,lD,lD,hend a,zH jd,zH jd];simp[last,b]
 rw[List.drop_eq_nil_of_le hge,mN,mN];simp[last,b]
theorem FarR.done{l:List Nat}{ws:List (List UInt8)}(h:FarR l l.length ws):(iC [] l).map fu=ws:=by
 rw[h.eq,List.drop_length,mN];simp[last]
theorem Ee(s:ByteArray)(w:World)(hs:s.size≤1048576):Calls prog 171 #[.string s] w (rG w (words s.data.toList)):=by
 obtain⟨i0,L,M,ac,I⟩:=info_parts Au;have c0:=Gg s w jo;have ah:=uA s.data.toList;rw[fB]at ah;have Fin:Hid (words s.data.toList=(iC [] (gq s.data.toList)).map fu):=rfl;generalize words s.data.toList=ai at *;generalize gq s.data.toList=l at *;go_enter func171,ntmps171;go_wp2_with fail;refine c0.mono ?_;rintro e H ⟨v,rfl,j,S⟩;obtain⟨A,c,rfl,hR⟩:=fT j
 have aw:l.length≤c:=by
  rcases j.2 with⟨Z,_⟩|⟨g',al,am,Z,_,_,an,_⟩
  ·injection Z with _ Z _;omega
  injection Z with _ _ Z;omega
 have S0:Toks H H (.slice none 0 0) []:=Toks.start H H (zy _ _);have F0:FarR l 0 []:=⟨zS _,rfl⟩;have HR:=zh hR;have ae:=zh S0;have ag:=zh F0;have V:=zh S;clear j hR S0 F0 S c0;go_wp2_with fail;go_loopw [3,5] (fun v i wr=>∃(k:Nat) (z:List (List UInt8)),i=.int .i64 k∧FarR l k z∧z.length≤k∧Toks H wr v z) (fun _ i _=>l.length-(intOf i).toNat)
 case atStart=>exact⟨0,[],rfl,ag.out,jz,ae.out⟩
 obtain⟨k,z,rfl,P,av,hT⟩:=hrel;have af:=P.le;by_cases E:k<l.length
 ·obtain⟨X,rfl⟩:∃X:World,X=wr:=⟨_,rfl⟩;obtain⟨ab,ao,_,rfl,aj,_⟩:=Reads.at_map (f:=fun r:Nat=>Value.int .i64 (r:Int)) HR.out E;have h:=zh hT;have HF:=zh P;clear hT P;go_wp2
  go_loop [6] (fun e=>∃m:Nat,k≤m∧m≤l.length∧e=.int .i64 m∧∀r∈(l.take m).drop k,gA (r:Int)=true) (fun e=>l.length-(intOf e).toNat)
  case atStart=>exact⟨k,zG _,af,rfl,by
   rw[List.drop_eq_nil_of_le jw];intro r hr;cases hr⟩
  obtain⟨m,ar,aa,rfl,C⟩:=hrel;have Hall:=zh C;clear C;by_cases o:m<l.length
  ·obtain⟨ap,aq,_,e,_,W⟩:=Reads.at_map (f:=fun r:Nat=>Value.int .i64 (r:Int)) HR.out o;injection e with e;injection e with e1 e2;subst e1 e2;have au:=(h.out.bel.cell (p:=⟨ab,ao+m,none⟩) aj).trans W;have Y:=I9 (l[m]:Int) X;clear W;by_cases J:gA (l[m]:Int)=true
   ·have Hall2:Hid (∀r∈(l.take (m+1)).drop k,gA (r:Int)=true):=zh (by
     have e:(l.take (m+1)).drop k=(l.take m).drop k ++ [l[m]]:=by
      rw[zL o,List.drop_append_of_le_length jw]
     rw[e];intro r hr;rcases List.mem_append.1 hr with hr|hr
     ·exact Hall.out r hr
     simp only[List.mem_singleton]at hr
     subst hr;exact J)
    rw[J]at Y;clear J;generalize (l[m]:Int)=r at *;go_wp2_with (go_at_call 189;refine Y.mono ?_;rintro e w' ⟨rfl,rfl⟩)
    go_round
    case rel=>exact⟨m+1,jo,jo,ju,Hall2.out⟩
    simp[intOf];omega
   have D:gA (l[m]:Int)=false:=by simpa using J
   have Hstop:Hid (∀hm:m<l.length,gA (l[m]:Int)=false):=zh (fun _=>D);rw[D]at Y;clear J D;generalize (l[m]:Int)=r at *;obtain⟨A3,d3,rfl,_⟩:=fT h.out.own;by_cases B:m=k
   ·subst B;have n:=zh (HF.out.gap E (Hstop.out E));go_wp2_with (go_at_call 189;refine Y.mono ?_;rintro e w' ⟨rfl,rfl⟩);go_roundw
    case rel=>exact⟨m+1,z,ju,n.out,jo,h.out⟩
    simp[intOf];omega
   have ak:k<m:=jo;have ad:((m:Int)==(k:Int))=false:=zM.2 jo;have n:=zh (HF.out.run (m:=m) jo aa Hall.out Hstop.out);have g:=(HR.out.below h.out.bel).sub (m:=k) (k:=m) jo jo;have x:((rv l).take m).drop k=rv ((l.take m).drop k):=by unfold rv;rw[←List.map_take,←List.map_drop]
   rw[x]at g;have N:=Bi (some ⟨ab,ao+k,none⟩) (m-k) (c-k) _ X (g.more h.out.bel.size) jo;clear g x B;generalize fu ((l.take m).drop k)=O at *;go_wp2_with fail;refine Y.mono ?_;rintro e w' ⟨rfl,rfl⟩;go_wp2_with fail;refine N.mono ?_;rintro e R ⟨rfl,y⟩;have d:=h.out.below y;have b:=d.own;have U:=d.bel.size;have G:=zh d;clear N y d;go_wp2_with (at_builtin;refine vJ _ rfl _ _ 189 rfl H.heap.size 206 i0 _ 2 24 underlying189 L M ac I rfl jd _ _ _ rfl (b.alloc _) ⟨R.heap.size,0,none⟩ 1 1 [.string (str O),.int .i64 (z.length:Int)] rfl rfl ?d1 ?d2 ?d3 ?d4 ?d5 ?_)
   case d1=>exact vH (cs:=#[.string (str O),.int .i64 (z.length:Int)]) (t:=206) (fr:=(0,0)) (vK R _)
   case d2=>intro u T;simp at T;rcases T with rfl|rfl<;>rfl
   case d3=>unfold maxLen;omega
   case d4=>omega
   case d5=>simp;omega
   intro v' w5 a q _;have F:=zh ((G.out.below (zRR _)).put a q);clear a q b;go_wp2;go_roundw
   case rel=>exact⟨m,_,rfl,n.out,by rw[zJ];simp;omega,F.out⟩
   simp[intOf];omega
  have Hstop:Hid (∀hm:m<l.length,gA (l[m]:Int)=false):=zh (fun hm=>absurd hm o);obtain rfl:m=l.length:=jo;obtain⟨A3,d3,rfl,_⟩:=fT h.out.own;by_cases B:l.length=k
  ·exfalso;omega
  have ad:((l.length:Int)==(k:Int))=false:=zM.2 jo;have n:=zh (HF.out.run (m:=l.length) jo aa Hall.out Hstop.out);have g:=(HR.out.below h.out.bel).sub (m:=k) (k:=l.length) jo jo;have x:((rv l).take l.length).drop k=rv ((l.take l.length).drop k):=by unfold rv;rw[←List.map_take,←List.map_drop]
  rw[x]at g;have N:=Bi (some ⟨ab,ao+k,none⟩) (l.length-k) (c-k) _ X (g.more h.out.bel.size) jo;clear g x B;generalize fu ((l.take l.length).drop k)=O at *;go_wp2_with fail;refine N.mono ?_;rintro e R ⟨rfl,y⟩;have d:=h.out.below y;have b:=d.own;have U:=d.bel.size;have G:=zh d;clear N y d;go_wp2_with (at_builtin;refine vJ _ rfl _ _ 189 rfl H.heap.size 206 i0 _ 2 24 underlying189 L M ac I rfl jd _ _ _ rfl (b.alloc _) ⟨R.heap.size,0,none⟩ 1 1 [.string (str O),.int .i64 (z.length:Int)] rfl rfl ?d1 ?d2 ?d3 ?d4 ?d5 ?_)
  case d1=>exact vH (cs:=#[.string (str O),.int .i64 (z.length:Int)]) (t:=206) (fr:=(0,0)) (vK R _)
  case d2=>intro u T;simp at T;rcases T with rfl|rfl<;>rfl
  case d3=>unfold maxLen;omega
  case d4=>omega
  case d5=>simp;omega
  intro v' w5 a q _;have F:=zh ((G.out.below (zRR _)).put a q);clear a q b;go_wp2;go_roundw
  case rel=>exact⟨l.length,_,rfl,n.out,by rw[zJ];simp;omega,F.out⟩
  simp[intOf];omega
 obtain rfl:k=l.length:=jo;have Fin2:=zh P.done;have h:=zh hT;clear P hT;go_wp2;go_ret;have e:ai=z:=by rw[Fin.out,Fin2.out]
 have hz:=V.out.size;exact⟨_,rfl,by rw[e];exact h.out.own.mono hz,V.out.trans (h.out.bel.mono hz)⟩
theorem yO(s:ByteArray)(w:World)(hs:s.size≤1048576):Calls prog 171 #[.string s] w (rG w (words s.data.toList)):=
 Ee s w jo
end Tk

namespace Tk
open Go.RowKit Ut
theorem uC(s:ByteArray)(w:World)(hs:s.size≤1048576):Calls prog 170 #[.string s] w (Bf w (words s.data.toList)):=by
 obtain⟨P,F,G,I,E⟩:=info_parts qx;have N:=yO s w hs;have U:=nY s;generalize words s.data.toList=d at *;go_enter func170,ntmps170;go_wp2_with fail;refine N.mono ?_;rintro e B ⟨v,rfl,a,m⟩;obtain⟨A,c,rfl,L⟩:=fT a;have M:Strs B B (.slice none 0 0) []:=⟨vO _ _ _ _,zy _ _⟩;have V:=zh L;have D:=zh M;have j:=zh m;clear a L M N m;go_wp2_with fail;go_loopw [4,5] (fun v i wr=>∃k:Nat,k≤d.length∧i=.int .i64 k∧Strs B wr v (d.take k)) (fun _ i _=>d.length-(intOf i).toNat)
 case atStart=>exact⟨0,zS _,rfl,D.out⟩
 obtain⟨k,Y,rfl,h⟩:=hrel;by_cases n:k<d.length
 ·obtain⟨b,o,rfl,T,l,C⟩:=mR V.out rfl n;have R:=(h.bel.cell (p:=⟨b,o+k*2,none⟩) T).trans l;have q:d.take (k+1)=d.take k ++ [d[k]]:=by rw[zL n]
  have Hts:=zh q;have O:(d.take k).length≤d.length:=jw;have a:=h.own;have S:=h.bel.size;have z:=zh h;clear q l C h;generalize d[k]=x at *;generalize d.take k=y at *;go_wp2_with (at_builtin;refine vJ _ rfl _ _ 57 rfl B.heap.size 9 P _ 1 16 underlying57 F G I E rfl jd _ _ _ rfl (a.alloc _) ⟨wr.heap.size,0,none⟩ 1 1 [.string (str x)] rfl rfl ?d1 ?d2 ?d3 ?d4 ?d5 ?_)
  case d1=>exact vH (cs:=#[.string (str x)]) (t:=9) (fr:=(0,0)) (vK wr _)
  case d2=>intro u J;simp at J;subst J;rfl
  case d3=>unfold maxLen;omega
  case d4=>omega
  case d5=>simp;omega
  intro X W f r _;have H:=zh ((z.out.below (zRR _)).put f r);clear f r a;go_wp2;go_roundw
  case rel=>exact⟨k+1,jo,ju,by rw[Hts.out];exact H.out⟩
  simp[intOf];omega
 have g:d.take k=d:=zR jo;rw[g]at h;have z:=zh h;clear h g;go_wp2;go_ret;exact⟨_,rfl,z.out.own.mono j.out.size,j.out.trans (z.out.bel.mono j.out.size)⟩
theorem xh(s:ByteArray)(w:World)(hs:s.size≤140737488351232):Calls prog 168 #[.string s] w fun e w'=>e=.returned (.bool (isN s.data.toList))∧w=w':=by
  have Fin:Hid (isN s.data.toList=(decide (1≤s.data.toList.length)&&decide (s.data.toList.length≤32)&&s.data.toList.all kU)):=rfl;rw[fB]at Fin;by_cases j:1≤s.size∧s.size≤32
  · have g:(1:Int)≤(s.size:Int):=jo;have p:(s.size:Int)≤32:=jo;have Fin2:Hid (isN s.data.toList=s.data.toList.all kU):=zh (by rw[Fin.out,zO j.1,zO j.2];rfl);clear j;go_enter func168,ntmps168;go_wp2
    go_loop [3] (fun i=>∃k:Nat,k≤s.size∧i=.int .i64 k∧(s.data.toList.take k).all kU=true) (fun i=>s.size-(intOf i).toNat)
    case atStart=>exact⟨0,zS _,rfl,rfl⟩
    obtain⟨k,t,rfl,a⟩:=hrel;by_cases d:k<s.size
    · have r:=(s[k]).toNat_lt;have c:=nW s k d
      have b:s[k]∈s.data.toList:=by
        have:s.data.toList[k]'(by rw[fB];exact d)=s[k]:=rfl;rw[←this];exact za _
      have Hal:=zh a;rcases xe s[k]with⟨l,h⟩|⟨l,q,h⟩
      · have Hnx:Hid ((s.data.toList.take (k+1)).all kU=true):=zh (by rw[c,List.all_append,Hal.out];simp[l]);clear a c b l;rcases h with h|h|h
        all_goals
          go_wp2
          all_goals first
            | (go_round
               case rel=>exact⟨k+1,jo,ju,Hnx.out⟩
               simp[intOf];omega)
            | (exfalso;simp only[bne_iff_ne,ne_eq,bne_eq_false_iff_eq,zM,zg]at *;omega)
      have Fin3:Hid (isN s.data.toList=false):=zh (by
        rw[Fin2.out]
        exact List.all_eq_false.2 ⟨_,b,by rw[l];decide⟩)
      clear a c b l;have n:(((s[k]).toNat:Int)==95)=false:=by rw[zM];omega
      rcases h with h|h|h
      all_goals
        go_wp2
        all_goals first
          | (go_ret;exact⟨by rw[Fin3.out];rfl,rfl⟩)
          | (exfalso;simp only[Bool.not_eq_false',zg]at *;omega)
    obtain rfl:k=s.size:=jo;have f:s.data.toList.take s.size=s.data.toList:=zR (Nat.le_of_eq (fB s));rw[f]at a;have Fin3:Hid (isN s.data.toList=true):=zh (by rw[Fin2.out,a]);clear a f;go_wp2;go_ret;exact⟨by rw[Fin3.out];rfl,rfl⟩
  have Fin2:Hid (isN s.data.toList=false):=zh (by
    rw[Fin.out];by_cases g:1≤s.size
    · rw[zN (show ¬s.size≤32 by omega)];simp
    rw[zN g];rfl)
  by_cases g:s.size<1
  · have m:(s.size:Int)<1:=jo;clear j g;go_enter func168,ntmps168;go_wp2;go_ret;exact⟨by rw[Fin2.out];rfl,rfl⟩
  have m:(1:Int)≤(s.size:Int):=jo;have o:(32:Int)<(s.size:Int):=jo;clear j g;go_enter func168,ntmps168;go_wp2;go_ret;exact⟨by rw[Fin2.out];rfl,rfl⟩
theorem FN(s:ByteArray)(w:World)(hs:s.size≤1048576):Calls prog 168 #[.string s] w fun e w'=>e=.returned (.bool (isN s.data.toList))∧w=w':=
 xh s w jo
end Tk

namespace Ss
open Go.Sort
variable {α:Type} [Inhabited α]
def ky(d:Array α)(a b n x:Nat):α:=if a≤x∧x<a+n then d[x+(b-a)]! else if b≤x∧x<b+n then d[x-(b-a)]! else d[x]!
theorem Gj(d:Array α)(a b x:Nat):ky d a b 0 x=d[x]!:=by
 unfold ky;rw[if_neg jo,if_neg jo]
theorem uz(d:Array α)(i j x:Nat)(hi:i<d.size)(hj:j<d.size):(swp d i j)[x]! = if x=j then d[i]! else if x=i then d[j]! else d[x]!:=by
 by_cases a:x=j
 ·subst a;rw[if_pos rfl,swp_right d i x hj]
 rw[if_neg a];by_cases b:x=i
 ·subst b;rw[if_pos rfl,swp_left d x j hi a]
 rw[if_neg b,swp_other d i j x b a]
theorem Gl(d dk:Array α)(a b k:Nat)(hab:a+k<b)(hs:dk.size=d.size)(hb:b+k<d.size)(h:∀x,dk[x]! = ky d a b k x):∀x,(swp dk (a+k) (b+k))[x]! = ky d a b (k+1) x:=by
 intro x;rw[uz dk (a+k) (b+k) x jo jo,h,h,h];unfold ky;by_cases e:x=b+k
 ·subst e;rw[if_pos rfl,if_neg jo,if_neg jo,if_neg jo,if_pos jo];congr 1;omega
 rw[if_neg e];by_cases g:x=a+k
 ·subst g;rw[if_pos rfl,if_neg jo,if_neg jo,if_pos jo];congr 1;omega
 rw[if_neg g];by_cases c:a≤x∧x<a+k
 ·rw[if_pos c,if_pos jo]
 rw[if_neg c];by_cases f:b≤x∧x<b+k
 ·rw[if_pos f,if_neg jo,if_pos jo]
 rw[if_neg f,if_neg jo,if_neg jo]
def iE(d:Array α)(a m b x:Nat):α:=if a≤x∧x<a+(b-m)then d[x+(m-a)]! else if a+(b-m)≤x∧x<b then d[x-(b-m)]! else d[x]!
theorem Mc(d d':Array α)(m i j:Nat)(hji:j<i)(him:i≤m)(h:∀x,d'[x]! = ky d (m-i) m j x)(x:Nat):iE d' (m-(i-j)) m (m+j) x=iE d (m-i) m (m+j) x:=by
 unfold iE;simp only[h];unfold ky
 repeat' split
 all_goals first|(exfalso;omega)|rfl|(congr 1;omega)
theorem Me(d d':Array α)(m i j:Nat)(hij:i<j)(him:i≤m)(h:∀x,d'[x]! = ky d (m-i) (m+j-i) i x)(x:Nat):iE d' (m-i) m (m+(j-i)) x=iE d (m-i) m (m+j) x:=by
 unfold iE;simp only[h];unfold ky
 repeat' split
 all_goals first|(exfalso;omega)|rfl|(congr 1;omega)
theorem Mf(d:Array α)(m i:Nat)(him:i≤m)(x:Nat):ky d (m-i) m i x=iE d (m-i) m (m+i) x:=by
 unfold iE ky
 repeat' split
 all_goals first|(exfalso;omega)|rfl|(congr 1;omega)
end Ss

namespace Ss
open Go.Shelf Go.RowKit Go.Lib Go.Sort
variable {α:Type} [Inhabited α] {enc:α→List Value}
theorem sj(k:Nat)(hk2:k=3)(fv:Value)(blk off cap a b n:Nat)(d0 d:Array α)(w0 w:World)(R:RowK enc k w0 blk off d0)(hs:d.size=d0.size)(S:SWK enc k w0 blk off d w)(hab:a+n≤b)(hb:b+n≤d.size)(hsz:d.size<1099511627776) :
  Calls prog 199 #[.slice (some ⟨blk,off,none⟩) d.size cap,.int .i64 a,.int .i64 b,.int .i64 n,fv] w fun e w'=>
   e=.returned (.tuple #[])∧∃d',SWK enc k w0 blk off d' w'∧d'.size=d.size∧PermIn a (b+n) d d'∧∀x,d'[x]! = ky d a b n x:=by
 have M:∀w,(Go.sizeOf 48).run prog w=.ok k w:=by rw[hk2];exact Tryz.sizeOf48
 have s:prog.follows Departure.mixedOrders=true:=jk;have F:Aside (SWK enc k w0 blk off d w):=S;clear S hk2;go_enter func199,ntmps199;go_wp2;go_loopw [10] (fun i wr=>∃(j:Nat) (c:Array α),j≤n∧i=.int .i64 (j:Nat)∧Aside (SWK enc k w0 blk off c wr)∧c.size=d.size∧Hid (PermIn a (b+n) d c)∧Hid (∀x,c[x]! = ky d a b j x)) (fun i _=>n-(intOf i).toNat)
 case atStart=>exact⟨0,d,zS _,rfl,F,rfl,zh (permIn_refl _ _ _),zh (fun x=>(Gj d a b x).symm)⟩
 clear F;obtain⟨j,c,L,rfl,m,o,v,y⟩:=hrel;by_cases I:j<n
 ·have J:(j:Int)<(n:Int):=jo;have r:Aside (SWK enc k w0 blk off (swp c (a+j) (b+j)) ((wr.drew.setCells blk (off+(a+j)*k) (enc c[b+j]!)).setCells blk (off+(b+j)*k) (enc c[a+j]!))):=m.out.swapped R (a+j) (b+j) jo jo;have h:=m.out.ld1 R jo prog (a+j) jo;have g:=m.out.ld1 R jo prog (b+j) jo;have l:=m.out.st1 R jo prog (a+j) jo c[b+j]!;have f:=m.out.st2 R jo prog (a+j) (b+j) jo jo c[b+j]! c[a+j]!;have q:(enc c[a+j]!).length=k:=R.hk _;have p:(enc c[b+j]!).length=k:=R.hk _;have t:Hid (PermIn a (b+n) d (swp c (a+j) (b+j))):=zh (permIn_trans _ _ _ _ _ v.out (swp_permIn c a (b+n) (a+j) (b+j) jo jo jo jo jo));have u:=zh (Gl d c a b j jo o jo y.out);generalize enc c[a+j]! = cI44 at r h f q;generalize enc c[b+j]! = cJ44 at r g l f p;have G:(((a:Int)+(j:Int))).toNat=a+j:=jo;have D:IntKind.i64.wrap ((a:Int)+(j:Int))=(a:Int)+(j:Int):=by rw[IntKind.wrap_i64];omega
  have z:IntKind.i64.wrap ((b:Int)+(j:Int))=(b:Int)+(j:Int):=by rw[IntKind.wrap_i64];omega
  have H:(0:Int)≤(a:Int)+(j:Int):=jo;have E:(0:Int)≤(b:Int)+(j:Int):=jo;have A:(a:Int)+(j:Int)<(d.size:Int):=jo;have B:(b:Int)+(j:Int)<(d.size:Int):=jo;have C:(((b:Int)+(j:Int))).toNat=b+j:=jo;clear m v y;go_wp2_with fail
  go_big_region_o
  clear h g l f;generalize (wr.drew.setCells blk (off+(a+j)*k) cJ44).setCells blk (off+(b+j)*k) cI44=N at r ⊢;go_wp2;go_roundw
  case rel=>exact⟨j+1,swp c (a+j) (b+j),jo,ju,r,by rw[size_swp];exact o,t,u⟩
  simp[intOf];omega
 obtain rfl:j=n:=jo;go_wp2
 go_end0
 exact⟨rfl,c,m.out,o,v.out,y.out⟩
end Ss

namespace Ss
open Go.Sort Go.Proofs
variable {α:Type} [Inhabited α] (cf:α→α→Int) (tag:α→Nat)
def bef(x y:α):Prop:=cf x y<0∨(¬cf y x<0∧tag x<tag y)
variable {cf tag}
theorem lt_false{x y:α}:ltOf cf x y=false↔¬cf x y<0:=by
 unfold ltOf;exact decide_eq_false_iff_not
theorem lt_true{x y:α}:ltOf cf x y=true↔cf x y<0:=by
 unfold ltOf;exact decide_eq_true_iff
theorem AO(hW:SWO (ltOf cf)){x y z:α}(h1:bef cf tag x y)(h2:bef cf tag y z):bef cf tag x z:=by
 rcases h1 with h1|⟨h1,b⟩
 ·rcases h2 with h2|⟨h2,a⟩
  ·exact .inl (lt_true.1 (hW.trans _ _ _ (lt_true.2 h1) (lt_true.2 h2)))
  refine .inl (Classical.byContradiction fun h=>?_);exact lt_false.1 (hW.ntrans x z y (lt_false.2 h) (lt_false.2 h2)) h1
 rcases h2 with h2|⟨h2,a⟩
 ·refine .inl (Classical.byContradiction fun h=>?_);exact lt_false.1 (hW.ntrans y x z (lt_false.2 h1) (lt_false.2 h)) h2
 exact .inr ⟨lt_false.1 (hW.ntrans z y x (lt_false.2 h2) (lt_false.2 h1)),jo⟩
theorem rT{x y:α}(h:cf x y<0):bef cf tag x y:=.inl h
theorem rU{x y:α}(ht:tag y<tag x)(h:¬cf x y<0):bef cf tag y x:=.inr ⟨h,ht⟩
variable (cf tag)
def Srt(d:Array α)(a b:Nat):Prop:=∀x y,a≤x→x<y→y<b→bef cf tag d[x]! d[y]!
def Tg(d:Array α)(a m b:Nat):Prop:=∀x y,a≤x→x<m→m≤y→y<b→tag d[x]!<tag d[y]!
variable {cf tag}
theorem Srt.step_l(hW:SWO (ltOf cf)){d:Array α}{a b x y:Nat}{z:α}(h:Srt cf tag d a b)(ha:a≤x)(hxy:x≤y)(hb:y<b)(hz:bef cf tag d[y]! z):bef cf tag d[x]! z:=by
 rcases Nat.lt_or_ge x y with c|hge
 ·exact AO hW (h x y ha c hb) hz
 obtain rfl:x=y:=jo;exact hz
theorem Srt.step_r(hW:SWO (ltOf cf)){d:Array α}{a b x y:Nat}{z:α}(h:Srt cf tag d a b)(ha:a≤x)(hxy:x≤y)(hb:y<b)(hz:bef cf tag z d[x]!):bef cf tag z d[y]!:=by
 rcases Nat.lt_or_ge x y with c|hge
 ·exact AO hW hz (h x y ha c hb)
 obtain rfl:x=y:=jo;exact hz
theorem Srt.sub{d:Array α}{a b a' b':Nat}(h:Srt cf tag d a b)(ha:a≤a')(hb:b'≤b):Srt cf tag d a' b':=fun x y f c e=>h x y (by omega) c (by omega)
theorem Srt.one(d:Array α){a b:Nat}(h:b≤a+1):Srt cf tag d a b:=fun x y e f c=>by omega
theorem Srt.join{d:Array α}{a m b:Nat}(h1:Srt cf tag d a m)(h2:Srt cf tag d m b)(h3:∀x y,a≤x→x<m→m≤y→y<b→bef cf tag d[x]! d[y]!):Srt cf tag d a b:=fun x y e c f=>by
 by_cases h:y<m
 ·exact h1 x y e c h
 by_cases g:x<m
 ·exact h3 x y e g jo f
 exact h2 x y jo c f
theorem Mg(d:Array α)(s m e:Nat)(h:s=m∨e=m)(hs:s≤m)(he:m≤e)(x:Nat):d[x]! = iE d s m e x:=by
 unfold iE;rcases h with rfl|rfl
 ·repeat' split
  all_goals first|(exfalso;omega)|rfl|(congr 1;omega)
 repeat' split
 all_goals first|(exfalso;omega)|rfl|(congr 1;omega)
theorem Gm(hW:SWO (ltOf cf)){d d1:Array α}{a m b mid s e:Nat}(h1:a≤s)(h2:s≤m)(h3:m≤e)(h4:e≤b)(h5:s≤mid)(h6:mid≤e)(h7:mid+m=s+e)(S1:Srt cf tag d a m)(S2:Srt cf tag d m b)(T:Tg tag d a m b)
  (hA:s=a∨e=b∨bef cf tag d[s-1]! d[e]!) (hB:s=m∨e=m∨bef cf tag d[e-1]! d[s]!) (hd:∀x,d1[x]! = iE d s m e x) :
  (Srt cf tag d1 a s∧Srt cf tag d1 s mid∧Tg tag d1 a s mid)∧(Srt cf tag d1 mid e∧Srt cf tag d1 e b∧Tg tag d1 mid e b)∧(∀x y,a≤x→x<mid→mid≤y→y<b→bef cf tag d1[x]! d1[y]!):=by
 have k:∀x,x<s→d1[x]! = d[x]!:=fun x l=>by rw[hd];unfold iE;rw[if_neg jo,if_neg jo]
 have j:∀x,s≤x→x<mid→d1[x]! = d[x+(m-s)]!:=fun x l q=>by rw[hd];unfold iE;rw[if_pos jo]
 have h:∀x,mid≤x→x<e→d1[x]! = d[x-(e-m)]!:=fun x l q=>by rw[hd];unfold iE;rw[if_neg jo,if_pos jo]
 have i:∀x,e≤x→d1[x]! = d[x]!:=fun x l=>by rw[hd];unfold iE;rw[if_neg jo,if_neg jo]
 refine⟨⟨fun x y g f c=>?_,fun x y g f c=>?_,fun x y g f c o=>?_⟩,⟨fun x y g f c=>?_,fun x y g f c=>?_,fun x y g f c o=>?_⟩,fun x y g f c o=>?_⟩
 ·rw[k x jo,k y jo];exact S1 x y g f jo
 ·rw[j x jo jo,j y jo jo];exact S2 _ _ jo jo jo
 ·rw[k x jo,j y jo jo];exact T _ _ jo jo jo jo
 ·rw[h x jo jo,h y jo jo];exact S1 _ _ jo jo jo
 ·rw[i x jo,i y jo];exact S2 _ _ jo jo jo
 ·rw[h x jo jo,i y jo];exact T _ _ jo jo jo jo
 by_cases p:x<s
 ·rw[k x p];by_cases n:y<e
  ·rw[h y c n];exact S1 _ _ jo jo jo
  rw[i y jo];rcases hA with hA|hA|hA
  ·omega
  ·omega
  exact S1.step_l hW (y:=s-1) g jo jo (S2.step_r hW (x:=e) jo jo o hA)
 rw[j x jo f];by_cases n:y<e
 ·rw[h y c n];rcases hB with hB|hB|hB
  ·omega
  ·omega
  exact S2.step_l hW (y:=e-1) jo jo jo (S1.step_r hW (x:=s) jo jo jo hB)
 rw[i y jo];exact S2 _ _ jo jo jo
def shL(d:Array α)(a k x:Nat):α:=if a≤x∧x<k then d[x+1]! else if x=k then d[a]! else d[x]!
theorem JG(d:Array α)(a x:Nat):d[x]! = shL d a a x:=by
 unfold shL
 repeat' split
 all_goals first|(exfalso;omega)|rfl|(congr 1)
theorem JH{d dk:Array α}{a k:Nat}(hak:a≤k)(hs:dk.size=d.size)(hk:k+1<d.size)(h:∀x,dk[x]! = shL d a k x)(x:Nat):(swp dk k (k+1))[x]! = shL d a (k+1) x:=by
 rw[uz dk k (k+1) x jo jo];simp only[h];unfold shL
 repeat' split
 all_goals first|(exfalso;omega)|rfl|(congr 1;omega)
theorem Kz(hW:SWO (ltOf cf)){d d1:Array α}{a i b:Nat}(hai:a<i)(hib:i≤b)(S:Srt cf tag d (a+1) b)(h1:∀h,a+1≤h→h<i→bef cf tag d[h]! d[a]!)(h2:∀h,i≤h→h<b→bef cf tag d[a]! d[h]!)(hd:∀x,d1[x]! = shL d a (i-1) x):Srt cf tag d1 a b:=fun x y m p o=>by
 have f:∀x,a≤x→x<i-1→d1[x]! = d[x+1]!:=fun x g q=>by rw[hd];unfold shL;rw[if_pos jo]
 have e:d1[i-1]! = d[a]!:=by rw[hd];unfold shL;rw[if_neg jo,if_pos rfl]
 have c:∀x,i≤x→d1[x]! = d[x]!:=fun x g=>by rw[hd];unfold shL;rw[if_neg jo,if_neg jo]
 by_cases l:x<i-1
 ·rw[f x m l];by_cases k:y<i-1
  ·rw[f y jo k];exact S _ _ jo jo jo
  by_cases n:y=i-1
  ·rw[n,e];exact h1 _ jo jo
  rw[c y jo];exact S _ _ jo jo jo
 by_cases j:x=i-1
 ·rw[j,e,c y jo];exact h2 _ jo jo
 rw[c x jo,c y jo];exact S _ _ jo jo jo
def shR(d:Array α)(m k x:Nat):α:=if k<x∧x≤m then d[x-1]! else if x=k then d[m]! else d[x]!
theorem BF(d:Array α)(m x:Nat):d[x]! = shR d m m x:=by
 unfold shR
 repeat' split
 all_goals first|(exfalso;omega)|rfl|(congr 1)
theorem BG{d dk:Array α}{m k:Nat}(hkm:k+1≤m)(hs:dk.size=d.size)(hm:m<d.size)(h:∀x,dk[x]! = shR d m (k+1) x)(x:Nat):(swp dk (k+1) k)[x]! = shR d m k x:=by
 rw[uz dk (k+1) k x jo jo];simp only[h];unfold shR
 repeat' split
 all_goals first|(exfalso;omega)|rfl|(congr 1;omega)
theorem Bl(hW:SWO (ltOf cf)){d d1:Array α}{a i m:Nat}(hai:a≤i)(him:i≤m)(S:Srt cf tag d a m)(h1:∀h,a≤h→h<i→bef cf tag d[h]! d[m]!)(h2:∀h,i≤h→h<m→bef cf tag d[m]! d[h]!)(hd:∀x,d1[x]! = shR d m i x):Srt cf tag d1 a (m+1):=fun x y q o n=>by
 have b:∀x,i<x→x≤m→d1[x]! = d[x-1]!:=fun x f p=>by rw[hd];unfold shR;rw[if_pos jo]
 have c:d1[i]! = d[m]!:=by rw[hd];unfold shR;rw[if_neg jo,if_pos rfl]
 have e:∀x,x<i→d1[x]! = d[x]!:=fun x f=>by rw[hd];unfold shR;rw[if_neg jo,if_neg jo]
 by_cases k:x<i
 ·rw[e x k];by_cases j:y<i
  ·rw[e y j];exact S _ _ jo jo jo
  by_cases l:y=i
  ·rw[l,c];exact h1 _ jo jo
  rw[b y jo jo];exact S _ _ jo jo jo
 by_cases g:x=i
 ·rw[g,c,b y jo jo];exact h2 _ jo jo
 rw[b x jo jo,b y jo jo];exact S _ _ jo jo jo
theorem BH{d1 d2 d3:Array α}{a mid b:Nat}(ham:a≤mid)(hmb:mid≤b)(hb:b≤d1.size)(h:∀x y,a≤x→x<mid→mid≤y→y<b→bef cf tag d1[x]! d1[y]!)(P2:PermIn a mid d1 d2)(S2:Srt cf tag d2 a mid)(P3:PermIn mid b d2 d3)(S3:Srt cf tag d3 mid b):Srt cf tag d3 a b:=by
 have p:∀x,x<a∨mid≤x→d2[x]! = d1[x]!:=P2.2.1;have f:∀x,x<mid∨b≤x→d3[x]! = d2[x]!:=P3.2.1
 have r:∀x,a≤x→x<mid→∀y,mid≤y→y<b→bef cf tag d2[x]! d2[y]!:=fun x o j y n g=>by
  rw[p y (.inr n)];exact permIn_all d1 d2 a mid (fun z=>bef cf tag z d1[y]!) jo P2 (fun i k c=>h i y k c n g) x o j
 refine Srt.join (m:=mid) (fun x y l e d=>?_) S3 (fun x y l e d q=>?_)
 ·rw[f x (.inl jo),f y (.inl d)];exact S2 x y l e d
 rw[f x (.inl e)];exact permIn_all d2 d3 mid b (fun z=>bef cf tag d2[x]! z) (by rw[P2.1];exact hb) P3 (fun i k c=>r x l e i k c) y d q
theorem Tg.sub{d:Array α}{a m b a' b':Nat}(h:Tg tag d a m b)(ha:a≤a')(hb:b'≤b):Tg tag d a' m b':=fun x y g e c f=>h x y (by omega) e c (by omega)
theorem Mh(hW:SWO (ltOf cf)){d:Array α}{a m b p c:Nat}(S1:Srt cf tag d a m)(S2:Srt cf tag d m b)(T:Tg tag d a m b)(hc:c<m)(hq:m≤p-c)(hac:a≤c)(h:¬cf d[p-c]! d[c]!<0)(x:Nat)(hx:a≤x)(hxc:x≤c)(hpb:p-x<b):bef cf tag d[x]! d[p-x]!:=
 S1.step_l hW (y:=c) hx hxc hc (S2.step_r hW (x:=p-c) hq jo hpb (rU (T c (p-c) hac hc hq jo) h))
theorem Mi(hW:SWO (ltOf cf)){d:Array α}{a m b p c:Nat}(S1:Srt cf tag d a m)(S2:Srt cf tag d m b)(hac:a≤c)(hqb:p-c<b)(h:cf d[p-c]! d[c]!<0)(x:Nat)(hx:c≤x)(hxm:x<m)(hpx:m≤p-x):bef cf tag d[p-x]! d[x]!:=
 S2.step_l hW (y:=p-c) hpx jo hqb (S1.step_r hW (x:=c) hac hx hxm (rT h))
theorem Srt.keep{d d':Array α}{a b:Nat}(h:Srt cf tag d a b)(hk:∀x,a≤x→x<b→d'[x]! = d[x]!):Srt cf tag d' a b:=fun x y c f e=>by
 rw[hk x c jo,hk y jo e];exact h x y c f e
theorem Tg.keep{d d':Array α}{a m b:Nat}(h:Tg tag d a m b)(hk:∀x,a≤x→x<b→d'[x]! = d[x]!):Tg tag d' a m b:=fun x y c g f e=>by
 rw[hk x c jo,hk y jo e];exact h x y c g f e
end Ss

namespace Qp
open Go.RowKit Ut Tk Qy
def qtV(a:Nat)(n:Nat):Value:=if n=0 then .tuple #[.int .i64 0,.bool false]else .tuple #[.int .i64 ((a+n:Nat):Int),.bool true]
theorem wP(a:Nat):qtV a 0=.tuple #[.int .i64 0,.bool false]:=rfl
theorem vk(a n:Nat)(h:n≠0):qtV a n=.tuple #[.int .i64 ((a+n:Nat):Int),.bool true]:=zH h
theorem LU{k:IntKind}{a b:Int}{c:Bool}(h:a=b):Ending.returned (.tuple #[.int k a,.bool c])=.returned (.tuple #[.int k b,.bool c]):=by rw[h]
theorem EP(l:P)(a:Nat):fw (l.drop a)=if atC 34 (l.drop (a+1))<(l.drop (a+1)).length then atC 34 (l.drop (a+1))+2 else 0:=by
 unfold fw;rw[List.tail_drop];rfl
theorem yY(s:ByteArray)(a:Nat)(w:World)(ha:a<s.size)(hs:s.size≤1048576):Calls prog 77 #[.string s,.int .i64 (a:Int)] w fun e w'=>e=.returned (qtV a (fw (s.data.toList.drop a)))∧w=w':=by
 have g:Hid (fw (s.data.toList.drop a)=if atC 34 (s.data.toList.drop (a+1))<(s.data.toList.drop (a+1)).length then atC 34 (s.data.toList.drop (a+1))+2 else 0):=zh (EP _ _);have f:Hid ((s.data.toList.drop (a+1)).length=s.size-(a+1)):=zh (by rw[zP,fB]);have Hend:=zh (pV (· == 34) (s.data.toList.drop (a+1)));have n:(0:Int)≤(a:Int):=jo;go_enter func77,ntmps77;go_wp2_with fail;go_loopw [6] (fun i wr=>∃j:Nat,a+1+j≤s.size∧i=.int .i64 ((a+1+j:Nat):Int)∧w=wr∧Hid (∀x∈(s.data.toList.drop (a+1)).take j,(x==34)=false)) (fun i _=>s.size-(intOf i).toNat)
 case atStart=>exact⟨0,jo,ju,rfl,zh (fun x hx=>by simp at hx)⟩
 obtain⟨j,r,rfl,rfl,b⟩:=hrel;have p:(0:Int)≤((a+1+j:Nat):Int):=jo;by_cases k:a+1+j<s.size
 ·have l:(s.data.toList.drop (a+1))[j]?=some s[a+1+j]:=by rw[List.getElem?_drop];exact lZ s _ k
  have u0:=gu s[a+1+j] 34;rw[show (UInt8.toNat 34:Int)=34 from rfl]at u0;have c:j<(s.data.toList.drop (a+1)).length:=by rw[f.out];omega
  have d:(s.data.toList.drop (a+1))[j]=s[a+1+j]:=by
   have:=zU c;rw[l]at this;injection this with this;exact this.symm
  by_cases q:s[a+1+j]=34
  ·have o:((s[a+1+j].toNat:Int)==34)=true:=by rw[u0];exact beq_iff_eq.2 q
   have Fin:Hid (fw (s.data.toList.drop a)=j+2):=zh (by
    have e:atC 34 (s.data.toList.drop (a+1))=j:=Hend.out j b.out jo (fun h=>by rw[d,q];rfl)
    rw[g.out,e,zI c])
   clear l u0 c d q b Hend g f;go_wp2_with fail;go_ret2;exact⟨by rw[Fin.out,vk _ _ jo];exact LU jo,rfl⟩
  have o:((s[a+1+j].toNat:Int)==34)=false:=by rw[u0];exact zM.2 q
  have m:Hid (∀x∈(s.data.toList.drop (a+1)).take (j+1),(x==34)=false):=zh (fun x hx=>by
   rw[zL c,List.mem_append]at hx;rcases hx with hx|hx
   ·exact b.out x hx
   rw[List.mem_singleton]at hx;rw[hx,d];exact zM.2 q)
  clear l u0 c d q b Hend g f;go_wp2_with fail;go_roundw
  case rel=>exact⟨j+1,jo,ju,by first|rfl|trivial,m⟩
  simp[intOf];omega
 have Fin:Hid (fw (s.data.toList.drop a)=0):=zh (by
  have e:atC 34 (s.data.toList.drop (a+1))=j:=Hend.out j b.out (by rw[f.out];omega) (fun h=>absurd h (by rw[f.out];omega))
  rw[g.out,e,zH (by rw[f.out];omega)])
 clear b Hend g f;go_wp2_with fail;go_ret2;exact⟨by rw[Fin.out,wP];rfl,rfl⟩
theorem oQ(c:UInt8)(w:World):Calls prog 78 #[.int .u8 (c.toNat:Int)] w fun e w'=>e=.returned (.bool (!iJ c))∧w=w':=by
 have u0:=gu c 32;have u1:=gu c 9;have u2:=gu c 40;have u3:=gu c 41;have u4:=gu c 34;simp only[show (UInt8.toNat 34:Int)=34 from rfl,show (UInt8.toNat 41:Int)=41 from rfl,show (UInt8.toNat 40:Int)=40 from rfl,show (UInt8.toNat 32:Int)=32 from rfl,show (UInt8.toNat 9:Int)=9 from rfl]at u0 u1 u2 u3 u4
 have h:iJ c=(((c.toNat:Int)==32) || ((c.toNat:Int)==9) || ((c.toNat:Int)==40) || ((c.toNat:Int)==41) || ((c.toNat:Int)==34)):=by
  rw[u0,u1,u2,u3,u4];rfl
 rw[h];clear u0 u1 u2 u3 u4 h;generalize (c.toNat:Int)=z;by_cases g:z=32
 ·subst g;go_enter func78,ntmps78;go_wp2;go_ret;exact⟨rfl,rfl⟩
 by_cases f:z=9
 ·subst f;go_enter func78,ntmps78;go_wp2;go_ret;exact⟨rfl,rfl⟩
 by_cases d:z=40
 ·subst d;go_enter func78,ntmps78;go_wp2;go_ret;exact⟨rfl,rfl⟩
 by_cases a:z=41
 ·subst a;go_enter func78,ntmps78;go_wp2;go_ret;exact⟨rfl,rfl⟩
 by_cases b:z=34
 ·subst b;go_enter func78,ntmps78;go_wp2;go_ret;exact⟨rfl,rfl⟩
 have i:(z != 32)=true:=by simpa using g
 have k:(z != 9)=true:=by simpa using f
 have l:(z != 40)=true:=by simpa using d
 have m:(z != 41)=true:=by simpa using a
 have j:(z != 34)=true:=by simpa using b
 go_enter func78,ntmps78;go_wp2;go_ret;exact⟨by simp[g,f,d,a,b],rfl⟩
end Qp
end Go.Proofs.YtmomjpolkkbhnaaGreat
