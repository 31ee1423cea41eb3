/- Rows whose blocks are of some kind. No program. -/
import Derived.Laws.AppendOwn
import Derived.Below
import Derived.Shelf.SlSortCmp.KitK
import Derived.Sort.LotA
import Derived.Deep.DeepCutAuto
import Derived.BigQuiet
import Derived.Maps.AppendAt
import Derived.Recover
import Derived.Test.YtmomjpolkkbhnaaGreatQModelCountsRow2
import Derived.Test.YtmomjpolkkbhnaaGreatQModelCountsRow6
import Derived.Test.YtmomjpolkkbhnaaGreatQModelCountsRow4
import Derived.Test.YtmomjpolkkbhnaaGreatQModelCountsRow10
import Derived.Test.YtmomjpolkkbhnaaGreatQModelCountsRow31
import Derived.Test.YtmomjpolkkbhnaaGreatQModelCountsRow28
set_option linter.unusedSimpArgs false
set_option maxRecDepth 20000
set_option maxHeartbeats 100000000
open Go.Proofs.Tryz
namespace Go.Proofs.YtmomjpolkkbhnaaGreat
namespace Qp
open Go.RowKit Qy
def ReadsS(w:World)(S:Nat→Prop)(size:Nat)(A:Option Addr)(n:Nat)(xs:List Value):Prop:=
 xs.length=n*size∧(0<n→∃b o,A=some ⟨b,o,none⟩∧S b∧∀j u,xs[j]?=some u→w.cell? ⟨b,o+j,none⟩=some u)
section
variable {w w':World} {S S':Nat→Prop} {size n:Nat} {A:Option Addr} {xs:List Value}
theorem ReadsS.keep(h:ReadsS w S size A n xs)(hk:∀b o,S b→w'.cell? ⟨b,o,none⟩=w.cell? ⟨b,o,none⟩):ReadsS w' S size A n xs:=
 ⟨h.1,fun hn=>by
  obtain⟨b,o,e,hb,hc⟩:=h.2 hn
  exact⟨b,o,e,hb,fun j u hu=>(hk b _ hb).trans (hc j u hu)⟩⟩
theorem ReadsS.mono(h:ReadsS w S size A n xs)(hS:∀b,S b→S' b):ReadsS w S' size A n xs:=
 ⟨h.1,fun hn=>by
  obtain⟨b,o,e,hb,hc⟩:=h.2 hn
  exact⟨b,o,e,hS b hb,hc⟩⟩
theorem ReadsS.reads{B:Nat}(h:ReadsS w S size A n xs)(hS:∀b,S b→b<B):Reads w B size A n xs:=
 ⟨h.1,fun hn=>by
  obtain⟨b,o,e,hb,hc⟩:=h.2 hn
  exact⟨b,o,e,hS b hb,hc⟩⟩
theorem ReadsS.none_:ReadsS w S size A 0 []:=⟨by simp,fun h=>absurd h (by omega)⟩
theorem ReadsS.of_own{base:Nat}{e:TypeId}{c:Nat}(h:w.ownsRow base e size (.slice A n c) n xs):ReadsS w (fun b=>base≤b∧b<w.heap.size∧(Value.slice A n c).ownBlock=some b) size A n xs:=by
 refine⟨h.1,fun hn=>?_⟩;have hlt:=h.lt;rcases h.2 with⟨hv,h0⟩|⟨g,cap,cur,hv,_,hg,_⟩
 ·omega
 have hA:A=some ⟨g,0,none⟩:=by injection hv
 subst hA;refine⟨_,_,rfl,⟨(hlt g rfl).1,(hlt g rfl).2,rfl⟩,fun j u hu=>?_⟩;have:=h.cells (g:=g) rfl j u hu;have hadd:(⟨g,0,none⟩:Addr).add j=⟨g,j,none⟩:=by unfold Addr.add;split<;>simp_all
 rw[hadd]at this;rw[zf];exact this
end
end Qp

namespace Ut
open Go.RowKit
set_option linter.unusedSimpArgs false in
theorem Ez(r:Int)(w:World):Calls prog 189 #[.int .i64 r] w fun e w'=>e=.returned (.bool (au r))∧w=w':=by
 go_enter func189,ntmps189;go_wp2
 all_goals
  go_ret;refine⟨congrArg (fun x=>Ending.returned (Value.bool x)) ?_,rfl⟩;unfold au;rw[Bool.eq_iff_iff];try simp only[bne_iff_ne,ne_eq,bne_eq_false_iff_eq]at *
  simp only[Bool.or_eq_true,zo,zd,bne_iff_ne,ne_eq,Bool.false_eq_true,true_iff,false_iff,reduceCtorEq]
  first|omega|decide
end Ut

namespace Ut
open Go.RowKit
theorem DV(s:ByteArray)(w:World)(hs:s.size≤4398046511104) :
  Calls prog 188 #[.string s] w fun e w'=>∃v,e=.returned v∧w'.ownsRow w.heap.size 3 1 v (bT s.data.toList).length (rv (bT s.data.toList))∧zWW w w':=by
 obtain⟨i0,hi0,hz0,hz1,hz2⟩:=info_parts iY;go_enter func188,ntmps188;go_wp2
 go_loopw [3,4] (fun v i wr=>∃(k:Nat) (l:List Nat),k≤s.size∧i=.int .i64 k∧l.length≤k∧bT s.data.toList=l++bT (s.data.toList.drop k)∧wr.ownsRow w.heap.size 3 1 v l.length (rv l)∧zWW w wr)
  (fun _ i _=>s.size-(intOf i).toNat)
 case atStart=>exact⟨0,[],zS _,rfl,jz,rfl,vM _ _ _ _,zw _ _⟩
 obtain⟨k,l,hk,rfl,hlk,hru,hown,hb⟩:=hrel;by_cases hlt:k<s.size
 ·have hne:s.data.toList.drop k≠[]:=by rw[l4 s k hlt];simp
  have hsz:=ku _ hne;rw[zP,aB]at hsz;have hrc:=oJ _ hne;rw[hrc,List.drop_drop]at hru;have c:=Ey s (k:Int) wr jo;rw[uC]at c;have Hru:=zh hru;clear hrc hru hne;generalize dec (s.data.toList.drop k)=d at *;have hd1:=hsz.1;have hd2:=hsz.2.1;have hd4:=hsz.2.2;clear hsz;go_wp2_with fail;refine c.mono ?_;rintro e wr ⟨rfl,rfl⟩;have hbw:=hb;have hown2:=hown;have hsz2:=hbw.size;go_wp2_with (at_builtin;refine vH _ rfl _ _ 27 rfl w.heap.size 3 i0 (.int .i64 0) 1 8 underlying27 hi0 hz0 hz1 hz2 rfl jd _ _ _ rfl (hown2.alloc _) ⟨wr.heap.size,0,none⟩ 1 1 [.int .i64 (d.1:Int)] rfl rfl ?c1 ?c2 ?c3 ?c4 ?c5 ?_)
  case c1=>exact zy (cs:=#[.int .i64 (d.1:Int)]) (t:=3) (fr:=(0,0)) (vI wr _)
  case c2=>intro u hu;simp at hu;subst hu;rfl
  case c3=>unfold maxLen;omega
  case c4=>omega
  case c5=>simp;omega
  intro v' w3 hown3 hg3 _;have hb3:zWW w w3:=(hbw.alloc hsz2 _).grown hg3 jm (fun j hj=>(hown2.lt _ hj).1);have Hb3:=zh hb3;have Hown3:=zh hown3;clear hb3 hown3 hg3 hown2 hbw hown hb;go_wp2;go_roundw
  case rel=>exact⟨k+d.2,l ++ [d.1],jo,ju,by rw[zJ];simp;omega,by rw[Hru.out];simp,by
    rw[zJ];have:=Hown3.out
    simpa[rv]using this,Hb3.out⟩
  simp[intOf];omega
 have hd0:s.data.toList.drop k=[]:=mG s k jo;rw[hd0,ol,List.append_nil]at hru;have Hru:=zh hru;clear hru hd0;go_wp2;go_ret;exact⟨_,rfl,by rw[Hru.out];exact hown,hb⟩
end Ut

namespace Ut
open Go.RowKit
set_option maxRecDepth 100000 in
theorem JS(base n:Nat)(v:Value)(xs:List Value)(z:Int)(h0:0≤z)(h1:z<128)(w:World)(hown:w.ownsRow base 5 1 v n xs)(hbase:base≤w.heap.size)(hn:n≤140737488000000) :
  Calls prog 214 #[v,.int .i64 z] w (dV w base n v xs (aG z.toNat)):=by
 obtain⟨i0,hi0,hz0,hz1,hz2⟩:=info_parts eX;have Hown:=zh hown;clear hown
 have fin:Hid ([.int .u8 z]=bv (aG z.toNat)∧1=(aG z.toNat).length):=by
  show _∧_;obtain⟨r,rfl⟩:=Int.eq_ofNat_of_zero_le (show 0≤z by omega);rw[Int.toNat_natCast];unfold aG;rw[zI jo];simp only[bv,List.map_cons,List.map_nil,zV,List.length_nil,and_true,zf,zQ,Value.int.injEq,true_and];rw[bi _ jo]
 go_enter func214,ntmps214;go_wp2_with (refine vH (o:=⟨some 29,_,_,_,_,_⟩) _ rfl _ _ 30 rfl base 5 i0 (.int .u8 0) 1 1 underlying30 hi0 hz0 hz1 hz2 rfl jd v n xs rfl (Hown.out.alloc _) ⟨w.heap.size,0,none⟩ 1 1 [.int .u8 z] rfl rfl (zy (cs:=[.int .u8 z].toArray) (t:=5) (fr:=(0,0)) (vI w _)) jt jx jo jm ?_;intro v' w3 hown3 hg3 _);go_ret;exact fD Hown.out hown3 hg3 fin.out
set_option maxRecDepth 100000 in
theorem JU(base n:Nat)(v:Value)(xs:List Value)(z:Int)(h0:128≤z)(h1:z<2048)(w:World)(hown:w.ownsRow base 5 1 v n xs)(hbase:base≤w.heap.size)(hn:n≤140737488000000) :
  Calls prog 214 #[v,.int .i64 z] w (dV w base n v xs (aG z.toNat)):=by
 obtain⟨i0,hi0,hz0,hz1,hz2⟩:=info_parts eX;have Hown:=zh hown;clear hown
 have fin:Hid ([.int .u8 (192+z/64),.int .u8 (128+z%64)]=bv (aG z.toNat)∧2=(aG z.toNat).length):=by
  show _∧_;obtain⟨r,rfl⟩:=Int.eq_ofNat_of_zero_le (show 0≤z by omega);rw[Int.toNat_natCast];unfold aG;rw[zH jo,zI jo];simp only[bv,List.map_cons,List.map_nil,zV,List.length_nil,and_true,zf,zQ,Value.int.injEq,true_and];refine⟨by rw[bi _ jo];omega,by rw[bi _ jo];omega⟩
 go_enter func214,ntmps214;go_wp2_with (refine vH (o:=⟨some 43,_,_,_,_,_⟩) _ rfl _ _ 30 rfl base 5 i0 (.int .u8 0) 1 1 underlying30 hi0 hz0 hz1 hz2 rfl jd v n xs rfl (Hown.out.alloc _) ⟨w.heap.size,0,none⟩ 2 2 [.int .u8 (192+z/64),.int .u8 (128+z%64)] rfl rfl (zy (cs:=[.int .u8 (192+z/64),.int .u8 (128+z%64)].toArray) (t:=5) (fr:=(0,0)) (vI w _)) jt jx jo jm ?_;intro v' w3 hown3 hg3 _);go_ret;exact fD Hown.out hown3 hg3 fin.out
set_option maxRecDepth 100000 in
theorem xw(base n:Nat)(v:Value)(xs:List Value)(z:Int)(h0:2048≤z)(h1:z≤65535)(h2:z<55296∨57343<z)(w:World)(hown:w.ownsRow base 5 1 v n xs)(hbase:base≤w.heap.size)(hn:n≤140737488000000) :
  Calls prog 214 #[v,.int .i64 z] w (dV w base n v xs (aG z.toNat)):=by
 obtain⟨i0,hi0,hz0,hz1,hz2⟩:=info_parts eX;have Hown:=zh hown;clear hown
 have fin:Hid ([.int .u8 (224+z/4096),.int .u8 (128+z/64%64),.int .u8 (128+z%64)]=bv (aG z.toNat)∧3=(aG z.toNat).length):=by
  show _∧_;obtain⟨r,rfl⟩:=Int.eq_ofNat_of_zero_le (show 0≤z by omega);rw[Int.toNat_natCast];unfold aG;rw[zH jo,zH jo,zI jo];simp only[bv,List.map_cons,List.map_nil,zV,List.length_nil,and_true,zf,zQ,Value.int.injEq,true_and];refine⟨by rw[bi _ jo];omega,by rw[bi _ jo];omega,by rw[bi _ jo];omega⟩
 rcases h2 with h2|h2
 ·go_enter func214,ntmps214;go_wp2_with (refine vH (o:=⟨some 62,_,_,_,_,_⟩) _ rfl _ _ 30 rfl base 5 i0 (.int .u8 0) 1 1 underlying30 hi0 hz0 hz1 hz2 rfl jd v n xs rfl (Hown.out.alloc _) ⟨w.heap.size,0,none⟩ 3 3 [.int .u8 (224+z/4096),.int .u8 (128+z/64%64),.int .u8 (128+z%64)] rfl rfl (zy (cs:=[.int .u8 (224+z/4096),.int .u8 (128+z/64%64),.int .u8 (128+z%64)].toArray) (t:=5) (fr:=(0,0)) (vI w _)) jt jx jo jm ?_;intro v' w3 hown3 hg3 _);go_ret;exact fD Hown.out hown3 hg3 fin.out
 go_enter func214,ntmps214;go_wp2_with (refine vH (o:=⟨some 62,_,_,_,_,_⟩) _ rfl _ _ 30 rfl base 5 i0 (.int .u8 0) 1 1 underlying30 hi0 hz0 hz1 hz2 rfl jd v n xs rfl (Hown.out.alloc _) ⟨w.heap.size,0,none⟩ 3 3 [.int .u8 (224+z/4096),.int .u8 (128+z/64%64),.int .u8 (128+z%64)] rfl rfl (zy (cs:=[.int .u8 (224+z/4096),.int .u8 (128+z/64%64),.int .u8 (128+z%64)].toArray) (t:=5) (fr:=(0,0)) (vI w _)) jt jx jo jm ?_;intro v' w3 hown3 hg3 _);go_ret;exact fD Hown.out hown3 hg3 fin.out
set_option maxRecDepth 100000 in
theorem JV(base n:Nat)(v:Value)(xs:List Value)(z:Int)(h0:65535<z)(h1:z≤1114111)(w:World)(hown:w.ownsRow base 5 1 v n xs)(hbase:base≤w.heap.size)(hn:n≤140737488000000) :
  Calls prog 214 #[v,.int .i64 z] w (dV w base n v xs (aG z.toNat)):=by
 obtain⟨i0,hi0,hz0,hz1,hz2⟩:=info_parts eX;have Hown:=zh hown;clear hown
 have fin:Hid ([.int .u8 (240+z/262144),.int .u8 (128+z/4096%64),.int .u8 (128+z/64%64),.int .u8 (128+z%64)]=bv (aG z.toNat)∧4=(aG z.toNat).length):=by
  show _∧_;obtain⟨r,rfl⟩:=Int.eq_ofNat_of_zero_le (show 0≤z by omega);rw[Int.toNat_natCast];unfold aG;rw[zH jo,zH jo,zH jo];simp only[bv,List.map_cons,List.map_nil,zV,List.length_nil,and_true,zf,zQ,Value.int.injEq,true_and];refine⟨by rw[bi _ jo];omega,by rw[bi _ jo];omega,by rw[bi _ jo];omega,by rw[bi _ jo];omega⟩
 go_enter func214,ntmps214;go_wp2_with (refine vH (o:=⟨some 83,_,_,_,_,_⟩) _ rfl _ _ 30 rfl base 5 i0 (.int .u8 0) 1 1 underlying30 hi0 hz0 hz1 hz2 rfl jd v n xs rfl (Hown.out.alloc _) ⟨w.heap.size,0,none⟩ 4 4 [.int .u8 (240+z/262144),.int .u8 (128+z/4096%64),.int .u8 (128+z/64%64),.int .u8 (128+z%64)] rfl rfl (zy (cs:=[.int .u8 (240+z/262144),.int .u8 (128+z/4096%64),.int .u8 (128+z/64%64),.int .u8 (128+z%64)].toArray) (t:=5) (fr:=(0,0)) (vI w _)) jt jx jo jm ?_;intro v' w3 hown3 hg3 _);go_ret;exact fD Hown.out hown3 hg3 fin.out
set_option maxRecDepth 100000 in
theorem E0(base n:Nat)(v:Value)(xs:List Value)(z:Int)(hbad:z<0∨1114111<z∨(55296≤z∧z≤57343))(w:World)(hown:w.ownsRow base 5 1 v n xs)(hbase:base≤w.heap.size)(hn:n≤140737488000000) :
  Calls prog 214 #[v,.int .i64 z] w (dV w base n v xs (aG 65533)):=by
 have c:=xw base n v xs 65533 jo jo jo w hown hbase hn;rw[show (65533:Int).toNat=65533 from rfl]at c;clear hown;rcases hbad with h|h|⟨h,h'⟩
 ·go_enter func214,ntmps214;go_wp2_with fail;refine c.mono ?_;rintro e w3 ⟨v',rfl,ho,hg⟩;go_wp2;go_ret;exact⟨v',rfl,ho,hg⟩
 ·go_enter func214,ntmps214;go_wp2_with fail;refine c.mono ?_;rintro e w3 ⟨v',rfl,ho,hg⟩;go_wp2;go_ret;exact⟨v',rfl,ho,hg⟩
 go_enter func214,ntmps214;go_wp2_with fail;refine c.mono ?_;rintro e w3 ⟨v',rfl,ho,hg⟩;go_wp2;go_ret;exact⟨v',rfl,ho,hg⟩
theorem E8(base n:Nat)(v:Value)(xs:List Value)(z:Int)(w:World)(hown:w.ownsRow base 5 1 v n xs)(hbase:base≤w.heap.size)(hn:n≤140737488000000) :
  Calls prog 214 #[v,.int .i64 z] w (dV w base n v xs (enc z)):=by
 unfold enc fix;by_cases hb:z<0∨1114111<z∨(55296≤z∧z≤57343)
 ·rw[zI hb];exact E0 base n v xs z hb w hown hbase hn
 rw[zH hb];by_cases h1:z<128
 ·exact JS base n v xs z jo h1 w hown hbase hn
 by_cases h2:z<2048
 ·exact JU base n v xs z jo h2 w hown hbase hn
 by_cases h3:z≤65535
 ·exact xw base n v xs z jo h3 jo w hown hbase hn
 exact JV base n v xs z jo jo w hown hbase hn
end Ut

namespace Ut
open Go.RowKit
theorem Bg(A:Option Addr)(n c:Nat)(rs:List Int)(w:World)(hR:Reads w w.heap.size 1 A n (rs.map (Value.int .i64)))(hn:n≤35000000000000) :
  Calls prog 206 #[.slice A n c] w fun e w'=>e=.returned (.string (str (bQ rs)))∧zWW w w':=by
 have hlen:rs.length=n:=by have:=hR.1;simpa using this
 have HR:=zh hR;have Hl:=zh hlen;have St:=zh (Putting.start w);clear hR hlen;go_enter func206,ntmps206;go_wp2;go_loopw [3,4] (fun v i wr=>∃k:Nat,k≤n∧i=.int .i64 k∧Putting w wr v (rs.take k)) (fun _ i _=>n-(intOf i).toNat)
 case atStart=>exact⟨0,zS _,rfl,St.out⟩
 obtain⟨k,hk,rfl,hp⟩:=hrel;have hel:=sV (rs.take k);have htl:(rs.take k).length≤n:=jw;by_cases hlt:k<n
 ·obtain⟨ab,ao,hkl,rfl,hab,hcw⟩:=HR.out.at_map hlt;have hcx:=(hp.bel.cell (p:=⟨ab,ao+k,none⟩) hab).trans hcw;have hts:rs.take (k+1)=rs.take k ++ [rs[k]]:=by rw[zL hkl]
  have Hts:=zh hts;have c1:=E8 w.heap.size _ u3 _ rs[k] wr hp.own hp.bel.size jo;have Hp:=zh hp;clear hts hcw hp;generalize rs[k]=r at *;go_wp2_with fail;refine c1.mono ?_;rintro e w2 ⟨v',rfl,hown2,hg2⟩;have Hp2:=zh (Hp.out.put hown2 hg2);clear hown2 hg2;go_wp2;go_roundw
  case rel=>exact⟨k+1,jo,ju,by rw[Hts.out];exact Hp2.out⟩
  simp[intOf];omega
 have hall:rs.take k=rs:=zR (by rw[Hl.out];omega);have hcv:=uq (P:=prog) (tb:=30) (ts:=9) hp.own underlying30 underlying5 underlying9;have Hall:=zh hall;have Hb:=zh hp.bel;clear hall hp hel htl;go_wp2;go_ret;exact⟨by rw[Hall.out];rfl,Hb.out⟩
end Ut

namespace Ss
open Go.Sort
variable {α:Type} [Inhabited α]
def ed(d:Array α)(a b n x:Nat):α:=if a≤x∧x<a+n then d[x+(b-a)]! else if b≤x∧x<b+n then d[x-(b-a)]! else d[x]!
theorem DZ(d:Array α)(a b x:Nat):ed d a b 0 x=d[x]!:=by
 unfold ed;rw[if_neg jo,if_neg jo]
theorem qI(d:Array α)(i j x:Nat)(hi:i<d.size)(hj:j<d.size):(swp d i j)[x]! = if x=j then d[i]! else if x=i then d[j]! else d[x]!:=by
 by_cases e1:x=j
 ·subst e1;rw[if_pos rfl,swp_right d i x hj]
 rw[if_neg e1];by_cases e2:x=i
 ·subst e2;rw[if_pos rfl,swp_left d x j hi e1]
 rw[if_neg e2,swp_other d i j x e2 e1]
theorem Da(d dk:Array α)(a b k:Nat)(hab:a+k<b)(hs:dk.size=d.size)(hb:b+k<d.size)(h:∀x,dk[x]! = ed d a b k x):∀x,(swp dk (a+k) (b+k))[x]! = ed d a b (k+1) x:=by
 intro x;rw[qI dk (a+k) (b+k) x jo jo,h,h,h];unfold ed;by_cases e1:x=b+k
 ·subst e1;rw[if_pos rfl,if_neg jo,if_neg jo,if_neg jo,if_pos jo];congr 1;omega
 rw[if_neg e1];by_cases e2:x=a+k
 ·subst e2;rw[if_pos rfl,if_neg jo,if_neg jo,if_pos jo];congr 1;omega
 rw[if_neg e2];by_cases c1:a≤x∧x<a+k
 ·rw[if_pos c1,if_pos jo]
 rw[if_neg c1];by_cases c2:b≤x∧x<b+k
 ·rw[if_pos c2,if_neg jo,if_pos jo]
 rw[if_neg c2,if_neg jo,if_neg jo]
def bZ(d:Array α)(a m b x:Nat):α:=if a≤x∧x<a+(b-m)then d[x+(m-a)]! else if a+(b-m)≤x∧x<b then d[x-(b-m)]! else d[x]!
theorem JW(d d':Array α)(m i j:Nat)(hji:j<i)(him:i≤m)(h:∀x,d'[x]! = ed d (m-i) m j x)(x:Nat):bZ d' (m-(i-j)) m (m+j) x=bZ d (m-i) m (m+j) x:=by
 unfold bZ;simp only[h];unfold ed
 repeat' split
 all_goals first|(exfalso;omega)|rfl|(congr 1;omega)
theorem JX(d d':Array α)(m i j:Nat)(hij:i<j)(him:i≤m)(h:∀x,d'[x]! = ed d (m-i) (m+j-i) i x)(x:Nat):bZ d' (m-i) m (m+(j-i)) x=bZ d (m-i) m (m+j) x:=by
 unfold bZ;simp only[h];unfold ed
 repeat' split
 all_goals first|(exfalso;omega)|rfl|(congr 1;omega)
theorem JY(d:Array α)(m i:Nat)(him:i≤m)(x:Nat):ed d (m-i) m i x=bZ d (m-i) m (m+i) x:=by
 unfold bZ ed
 repeat' split
 all_goals first|(exfalso;omega)|rfl|(congr 1;omega)
end Ss

namespace Qy
open Go.RowKit Ut Tk
def nv(l:List Nat):List Value:=l.map fun n:Nat=>Value.int .i64 (n:Int)
theorem Hy(l:List Nat)(n:Nat):nv (l ++ [n])=nv l ++ [.int .i64 (n:Int)]:=by simp[nv]
structure Ints (w wr:World) (v:Value) (l:List Nat):Prop where
 own:wr.ownsRow w.heap.size 3 1 v l.length (nv l)
 bel:zWW w wr
theorem Ints.below{w wr w2:World}{v:Value}{l:List Nat}(h:Ints w wr v l)(hb:zWW wr w2):Ints w w2 v l:=
 ⟨h.own.kept (aJ hb none) (by cases hv:v.ownBlock<;>simp),h.bel.trans (hb.mono h.bel.size)⟩
theorem Ints.put{w wr w2:World}{v v':Value}{l:List Nat}{n:Nat}(h:Ints w wr v l)(hp:w2.ownsRow w.heap.size 3 1 v' (l.length+1) (nv l ++ [.int .i64 (n:Int)]))(hg:wr.grownBy w2 v.ownBlock):Ints w w2 v' (l ++ [n]):=by
 refine⟨?_,h.bel.grown hg h.bel.size (fun k hk=>(h.own.lt k hk).1)⟩;rw[Hy,zJ];exact hp
theorem Ints.start(w:World):Ints w w (.slice none 0 0) []:=⟨vM _ _ _ _,zw _ _⟩
def xB(w:World)(l:List Nat)(e:Ending)(w':World):Prop:=∃v,e=.returned v∧Ints w w' v l
theorem Bq(k j:Nat)(h:k+j<4611686018427387904)(w:World):Calls prog 159 #[.int .i64 (k:Int),.int .i64 ((k+j:Nat):Int),.int .i64 (j:Int)] w fun e w'=>e=.returned (.bool true)∧w=w':=by
 have h1:(k:Int)≤((k+j:Nat):Int):=jo;have h0:(0:Int)≤(k:Int):=jo;have h2:(0:Int)≤(j:Int):=jo;have h3:((k+j:Nat):Int)-(k:Int)=(j:Int):=jo;have h4:((k+j:Nat):Int)<4611686018427387904:=jo;have h5:(j:Int)<4611686018427387904:=jo;have h6:(k:Int)<4611686018427387904:=jo;generalize ((k+j:Nat):Int)=a at *;generalize (k:Int)=b at *;generalize (j:Int)=c at *;go_enter func159,ntmps159;go_wp2;go_ret;exact⟨jz,rfl⟩
theorem Br(TA:Option Addr)(n tc:Nat)(T:List (List UInt8))(WA:Option Addr)(m wc:Nat)(ws:List ByteArray)(w:World)(hT:Reads w w.heap.size 2 TA n (cG (bR T)))(hn:T.length=n)(hn2:n≤1048576)
  (hW:Reads w w.heap.size 1 WA m (ws.map Value.string)) (hm:ws.length=m) (hm2:m≤8796093021952) :
  Calls prog 137 #[.slice TA n tc,.slice WA m wc] w (xB w (phr T ws)):=by
 obtain⟨i0,hi0,hz0,hz1,hz2⟩:=info_parts ou;have HT:=zh hT;have HW:=zh hW;clear hT hW;by_cases h0:m=0
 ·have hws:ws=[]:=List.length_eq_zero_iff.1 jo;have Fin:Hid (phr T ws=[]):=zh (by unfold phr;rw[zI hws]);have h0':((m:Int)==0)=true:=by rw[beq_iff_eq];omega
  clear h0 hws hm;go_enter func137,ntmps137;go_wp2_with fail
  go_step3
  go_wp2;rw[Exit.noGoto_ret];go_ret;exact⟨_,rfl,by rw[Fin.out];exact Ints.start w⟩
 have hws:ws≠[]:=fun e=>h0 (by rw[←hm,e];rfl)
 have Fin:Hid (phr T ws=bn T ws n):=zh (by unfold phr;rw[zH hws,hn]);have h0':((m:Int)==0)=false:=by rw[zM];omega
 have Hn:=zh hn;have Hm:=zh hm;clear h0 hws hm hn;go_enter func137,ntmps137;go_wp2_with fail
 go_step3
 go_wp2_with fail
 go_step3
 go_wp2_with fail;go_loopw [5,16] (fun v i wr=>∃k:Nat,k≤n∧i=.int .i64 k∧Ints w wr v (bn T ws k)) (fun _ i _=>n-(intOf i).toNat)
 case atStart=>exact⟨0,zS _,rfl,Ints.start w⟩
 obtain⟨k,hk,rfl,hI⟩:=hrel;by_cases hlt:k<n
 ·obtain⟨tb,tq,rfl,htb,hc1,hc2⟩:=gQ HT.out Hn.out (k:=k) (by rw[Hn.out];exact hlt);have hd1:=(hI.bel.cell (p:=⟨tb,tq+k*2,none⟩) htb).trans hc1;have hd2:=(hI.bel.cell (p:=⟨tb,tq+k*2+1,none⟩) htb).trans hc2;have HI:=zh hI;have hz:=hI.bel.size;have hpl:=uO T ws k;clear hI hc1 hc2;by_cases hs:n-k<m
  ·have hs':(n:Int)-(k:Int)<(m:Int):=jo;have Fin2:Hid (bn T ws n=bn T ws k):=zh (Av T ws k (by rw[Hn.out,Hm.out];exact hs) n jo);have HI2:=zh (HI.out.below (zRR (.cells #[.string (str (T[k]'(by rw[Hn.out];exact hlt))),.int .i64 (k:Int)] 206)));generalize (str (T[k]'(by rw[Hn.out];exact hlt)))=tk at *;clear hs;go_wp2;rw[Exit.noGoto_ret];go_ret;exact⟨_,rfl,by rw[Fin.out,Fin2.out];exact HI2.out⟩
  have hs':(m:Int)≤(n:Int)-(k:Int):=jo;have HB7:=zh ((Blk.new wr 206 #[.string (str (T[k]'(by rw[Hn.out];exact hlt))),.int .i64 (k:Int)]));generalize (str (T[k]'(by rw[Hn.out];exact hlt)))=tk at *;obtain⟨wo,rfl⟩:∃wo:World,wo=wr:=⟨_,rfl⟩;have hmn:m≤n-k:=jo;clear hs;go_wp2_with fail;go_loopw [30] (fun i wq=>∃j:Nat,j≤m∧i=.int .i64 j∧dR T ws k j=true∧Below (wo.alloc (.cells #[.string tk,.int .i64 (k:Int)] 206)).heap.size (wo.alloc (.cells #[.string tk,.int .i64 (k:Int)] 206)) wq) (fun i _=>m-(intOf i).toNat)
  case atStart=>exact⟨0,zS _,rfl,rR _ _ _,zw _ _⟩
  obtain⟨j,hj,rfl,hst,hbq⟩:=hrel;have HIq:=zh ((HI.out.below (zRR (.cells #[.string tk,.int .i64 (k:Int)] 206))).below hbq);have h7:=HB7.out.below hbq jz;have h7a:=h7.cell 0;have h7b:=h7.cell 1;simp at h7a h7b;have Hbq:=zh hbq;have Hst:=zh hst;have hzq:=hbq.size;simp at hzq;clear h7 hbq hst;by_cases hjm:j<m
  ·obtain⟨xb,xo,e1,hxb,hx1,hx2⟩:=gQ HT.out Hn.out (k:=k+j) (by rw[Hn.out];omega);injection e1 with e1;injection e1 with e1 e2;subst e1 e2;obtain⟨ab,ao,hkl,rfl,hab,hcw⟩:=HW.out.at_map hjm;have hbw:=HIq.out.bel;have hy1:=(hbw.cell (p:=⟨tb,tq+(k+j)*2,none⟩) htb).trans hx1;have hy2:=(hbw.cell (p:=⟨tb,tq+(k+j)*2+1,none⟩) htb).trans hx2;have hyw:=(hbw.cell (p:=⟨ab,ao+j,none⟩) hab).trans hcw;have hss:=rS T ws k j (by rw[Hn.out];omega) (by rw[Hm.out];omega);have hbe:=wh (T[k+j]'(by rw[Hn.out];omega)) ws[j];rw[Hst.out,Bool.true_and,←hbe]at hss;have Hss:=zh hss;have hi0:(0:Int)≤(k:Int)+(j:Int):=jo;have hi1:(k:Int)+(j:Int)<(n:Int):=jo;have hi2:((k:Int)+(j:Int)).toNat=k+j:=jo
   have Hno:Hid (dR T ws k (j+1)=false→bn T ws (k+1)=bn T ws k):=zh (fun e=>by
    rw[lj,sG T ws k (j+1) (by rw[Hm.out];omega) e];simp)
   clear hbw hx1 hx2 hcw hss hbe;generalize (str (T[k+j]'(by rw[Hn.out];omega)))=x at *;generalize ws[j]=y at *;by_cases hxy:(x.toList==y.toList)=true
   ·have hxy':(x.toList != y.toList)=false:=by rw[bne,hxy];rfl
    have Hs2:Hid (dR T ws k (j+1)=true):=zh (by rw[Hss.out,hxy]);have c1:=fun wx=>Bq k j jo wx
    have h7c:=fun o=>(World.cell?_alloc_lt wr o ⟨wo.heap.size,1,none⟩ (by show wo.heap.size < _;omega)).trans h7b
    have hbx:=Hbq.out.alloc Hbq.out.size (.cells #[.string x,.int .i64 ((k+j:Nat):Int)] 206);have Hbx:=zh hbx;have C1:=zh c1;clear hbx c1;have e1:((k+j:Nat):Int)=(k:Int)+(j:Int):=jo;rw[e1]at C1;have E1:=zh e1;clear e1;go_wp2_with (go_at_call 159;refine(C1.out _).mono ?_;rintro e w' ⟨rfl,rfl⟩);go_roundw
    case rel=>exact⟨j+1,jo,ju,Hs2.out,Hbx.out⟩
    simp[intOf];omega
   have hxy':(x.toList != y.toList)=true:=by rw[bne,Bool.eq_false_iff.2 hxy];rfl
   have Hs2:=zh (Hno.out (by rw[Hss.out];exact Bool.eq_false_iff.2 hxy));have hxf:(x.toList==y.toList)=false:=Bool.eq_false_iff.2 hxy;have HIx:=zh (HIq.out.below (zRR (.cells #[.string x,.int .i64 ((k+j:Nat):Int)] 206)));clear hxy;go_wp2;go_roundw
   case rel=>exact⟨k+1,jo,ju,by rw[Hs2.out];exact HIx.out⟩
   simp[intOf];omega
  obtain rfl:j=m:=jo;have hst2:=Hst.out;have hmm:=Hm.out;subst hmm;rw[rY]at hst2;have Hph:Hid (bn T ws (k+1)=bn T ws k ++ [k]):=zh (by rw[lj,hst2];rfl);have hown:=HIq.out.own;have hbsz:=HIq.out.bel.size;clear hst2;generalize bn T ws k=P at *;go_wp2_with (at_builtin;refine vH _ rfl _ _ 27 rfl w.heap.size 3 i0 _ 1 8 underlying27 hi0 hz0 hz1 hz2 rfl jd _ _ _ rfl (hown.alloc _) ⟨wr.heap.size,0,none⟩ 1 1 [.int .i64 (k:Int)] rfl rfl ?d1 ?d2 ?d3 ?d4 ?d5 ?_)
  case d2=>first|rfl|(intro u hu;simp at hu;subst hu;rfl)
  case d3=>unfold maxLen;omega
  case d4=>omega
  case d5=>first|omega|(simp;omega)
  intro v' w5 hown5 hg5 _;have HI5:=zh ((HIq.out.below (zRR _)).put hown5 hg5);clear hown5 hg5 hown;go_wp2;go_roundw
  case rel=>exact⟨k+1,jo,ju,by rw[Hph.out];exact HI5.out⟩
  simp[intOf];omega
 obtain rfl:k=n:=jo;have HI:=zh hI;clear hI;go_wp2;rw[Exit.noGoto_ret];go_ret;exact⟨_,rfl,by rw[Fin.out];exact HI.out⟩
end Qy

namespace Qp
open Go.RowKit Ut Tk Qy
def xC(w:World)(o:Option (List P))(e:Ending)(w':World):Prop:=
 match o with
 | some l=>∃v,e=.returned (.tuple #[v,.bool true])∧w'.ownsRow w.heap.size 9 1 v l.length (sv l)∧zWW w w'
 | none=>e=.returned (.tuple #[.slice none 0 0,.bool false])∧zWW w w'
def nX:Value→Nat | .string x=>x.size|_=>0
theorem qm(s:ByteArray)(h:s.size=0):s.data.toList=[]:=List.length_eq_zero_iff.1 (by rw[aB];exact h)
theorem xD(s:ByteArray)(h:0<s.size):s.data.toList=s[0]::s.data.toList.drop 1:=by
 have e:s[0]=s.data.toList[0]'(by rw[aB];exact h):=rfl;rw[e];exact(zc (i:=0) (by rw[aB];exact h))
theorem Bz(s:ByteArray)(w:World)(hs:s.size≤1048576):Calls prog 95 #[.string s] w (xC w (aK s.data.toList)):=by
 obtain⟨i0,hi0,hz0,hz1,hz2⟩:=info_parts mH;have Hs:=zh hs;clear hs;go_enter func95,ntmps95;go_wp2_with fail;go_loopw [0,4] (fun x v wr=>∃(r:ByteArray) (acc:List P),x=.string r∧r.size≤s.size∧Hid (aK s.data.toList=(aK r.data.toList).map (acc ++ ·))∧acc.length+r.size≤1048576∧Strs w wr v acc) (fun x _ _=>nX x)
 case atStart=>exact⟨s,[],rfl,zG _,zh jz,by simpa using Hs.out,⟨vM _ _ _ _,zw _ _⟩⟩
 obtain⟨r0,acc,rfl,hr0,hpc,hac,hT⟩:=hrel;have HT:=zh hT;clear hT;have Ro:=zh (zG r0.size);go_wp2_with fail;go_loopw [0] (fun x wi=>∃r:ByteArray,x=.string r∧r.size≤r0.size∧Hid (aK r.data.toList=aK r0.data.toList)∧wr=wi) (fun x _=>nX x)
 case atStart=>exact⟨r0,rfl,zG _,zh rfl,rfl⟩
 obtain⟨r,rfl,hr,hpr,rfl⟩:=hrel;have Hpc:Hid (aK s.data.toList=(aK r.data.toList).map (acc ++ ·)):=zh (by rw[hpr.out];exact hpc.out);by_cases h0:r.size=0
 ·have hd:=qm r h0;have hd2:r.toList=[]:=by rw[tl];exact hd
  have Fin:Hid (aK s.data.toList=some acc):=zh (by rw[Hpc.out,hd,jD];simp);clear hd h0;go_wp2_with fail;go_ret2;exact(by rw[Fin.out];exact⟨_,rfl,HT.out.own,HT.out.bel⟩)
 have h1:0<r.size:=jo;have hd:=xD r h1;have he1:r.toList.isEmpty=false:=by rw[tl,hd];rfl
 have u0:=bU r[0] 32;have u1:=bU r[0] 9;simp only[show (UInt8.toNat 32:Int)=32 from rfl,show (UInt8.toNat 9:Int)=9 from rfl]at u0 u1;have hdp:=oP 1 r;have hds:=lu 1 r;have hb0:dE r[0]=(r[0]==32 || r[0]==9):=rfl;by_cases hb:dE r[0]=true
 ·have Hn:Hid (aK (fW 1 r).data.toList=aK r0.data.toList):=zh (by rw[hdp,←hpr.out,hd,lf _ _ hb];rfl)
  have hb2:((r[0].toNat:Int)==32)=true∨(((r[0].toNat:Int)==32)=false∧((r[0].toNat:Int)==9)=true):=by
   rw[u0,u1];rw[hb0]at hb
   cases h9:r[0]==32 with
   | true=>exact .inl rfl
   | false=>rw[h9]at hb;exact .inr ⟨rfl,by simpa using hb⟩
  have hdS:Hid (fW 1 r=r.extract 1 r.size):=rfl;have hsz:Hid ((r.extract 1 r.size).size=r.size-1):=zh (by rw[←hdS.out];exact hds);clear hd u0 u1 hdp hds hb0 hb h0 Hpc hpr;rcases hb2 with t0|⟨t0,t1⟩
  all_goals
   go_wp2_with fail;go_roundw
   case rel=>exact⟨fW 1 r,rfl,by rw[hdS.out,hsz.out];omega,Hn,by first|rfl|trivial⟩
   simp[nX];omega
 have hb':dE r[0]=false:=by simpa using hb
 have t0:((r[0].toNat:Int)==32)=false:=by
  rw[u0];rw[hb0]at hb';simp only[Bool.or_eq_false_iff]at hb';exact hb'.1
 have t1:((r[0].toNat:Int)==9)=false:=by
  rw[u1];rw[hb0]at hb';simp only[Bool.or_eq_false_iff]at hb';exact hb'.2
 have c0:=Dp r wr h1 (by have:=Hs.out;omega);have hle:=o5 r.data.toList;rw[aB]at hle
 have hpn:Hid (aK r.data.toList=if aL r.data.toList=0 then none else(aK (r.data.toList.drop (aL r.data.toList))).map (fun l=>r.data.toList.take (aL r.data.toList)::l)):=zh (by
  have:=lg r[0] (r.data.toList.drop 1) hb';rw[←hd]at this
  exact this)
 clear hd u0 u1 hdp hds hb0 hb hb' hpr;generalize aL r.data.toList=n at *;have hn0:(0:Int)≤(n:Int):=jo;have hn1:(n:Int)≤(r.size:Int):=jo;by_cases hn:n=0
 ·have Fin:Hid (aK s.data.toList=none):=zh (by rw[Hpc.out,hpn.out,zI hn];rfl);subst hn;clear hpn Hpc;go_wp2_with (go_at_call 124;refine c0.mono ?_;rintro e w' ⟨rfl,rfl⟩);go_ret2;exact(by rw[Fin.out];exact⟨rfl,HT.out.bel⟩)
 have hn':((n:Int)==0)=false:=by rw[zM];omega
 have Hx:Hid (r.extract 0 n=str (r.data.toList.take n)):=zh (by
  rw[←fE (r.extract 0 n),Lib.extract_data];simp)
 have Hn:Hid (aK s.data.toList=(aK (fW n r).data.toList).map ((acc ++ [r.data.toList.take n]) ++ ·)):=zh (by
  rw[Hpc.out,hpn.out,zH hn,oP,Option.map_map];congr 1
  funext l
  simp)
 have hdS:Hid (fW n r=r.extract n r.size):=rfl;have hds:=lu n r;have Hsz:Hid ((r.extract n r.size).size=r.size-n):=zh (by rw[←hdS.out];exact hds);have hown:=HT.out.own;have hbs:=HT.out.bel.size;have hnpos:0<n:=jo;clear hpn Hpc hn hds h0;generalize r.data.toList.take n=x at *
 go_wp2_with (first
  | (go_at_call 124;refine c0.mono ?_;rintro e w' ⟨rfl,rfl⟩)
  | (at_builtin;refine vH _ rfl _ _ 57 rfl w.heap.size 9 i0 _ 1 16 underlying57 hi0 hz0 hz1 hz2 rfl jd _ _ _ rfl (hown.alloc _) ⟨wr.heap.size,0,none⟩ 1 1 [.string (r.extract 0 n)] rfl rfl ?d1 ?d2 ?d3 ?d4 ?d5 ?_))
 case d1=>exact zy (cs:=#[.string (r.extract 0 n)]) (t:=9) (fr:=(0,0)) (vI wr _)
 case d2=>intro u hu;simp at hu;subst hu;rfl
 case d3=>unfold maxLen;omega
 case d4=>omega
 case d5=>simp;omega
 intro v' w5 hown5 hg5 _;rw[Hx.out]at hown5;have HT5:=zh ((HT.out.below (zRR _)).put hown5 hg5);clear hown5 hg5 hown;go_wp2_with fail;go_roundw
 case rel=>exact⟨fW n r,acc ++ [x],rfl,by rw[hdS.out,Hsz.out];omega,Hn,by rw[hdS.out,Hsz.out,zJ,zj];omega,HT5.out⟩
 simp[nX,Hsz.out];omega
end Qp

namespace Qp
open Go.RowKit Qy
inductive QF (w:World) (S:Nat→Prop):Q→List Value→Prop
 | mk {k:Int} {nm:ByteArray} {ws:List ByteArray} {l:List Q} {A C:Option Addr} {n c m d:Nat} (vss:List (List Value)) (hn:ws.length=n) (hw:ReadsS w S 1 A n (ws.map Value.string)) (hm:l.length=m) (hv:vss.length=m)
   (h4:∀v∈vss,v.length=4) (hl:ReadsS w S 4 C m vss.flatten) (kids:∀i (h:i<l.length) (h':i<vss.length),QF w S l[i] vss[i]):QF w S (.mk k nm ws l) [.int .i64 k,.string nm,.slice A n c,.slice C m d]
section
variable {w w':World} {S S':Nat→Prop} {q:Q} {vs:List Value}
theorem QF.keep(hk:∀b o,S b→w'.cell? ⟨b,o,none⟩=w.cell? ⟨b,o,none⟩)(h:QF w S q vs):QF w' S q vs:=by
 induction h with
 | mk vss hn hw hm hv h4 hl _ ih=>exact .mk vss hn (hw.keep hk) hm hv h4 (hl.keep hk) ih
theorem QF.mono(h:QF w S q vs)(hS:∀b,S b→S' b):QF w S' q vs:=by
 induction h with
 | mk vss hn hw hm hv h4 hl _ ih=>exact .mk vss hn (hw.mono hS) hm hv h4 (hl.mono hS) ih
theorem QF.at_{B:Nat}(h:QF w S q vs)(hS:∀b,S b→b<B):QAt w B q vs:=by
 induction h with
 | mk vss hn hw hm hv h4 hl _ ih=>exact .mk vss hn (hw.reads hS) hm hv h4 (hl.reads hS) ih
theorem QF.len(h:QF w S q vs):vs.length=4:=by cases h;rfl
theorem QF.four(h:QF w S q vs):∃A n c C m d,vs=[.int .i64 q.kind,.string q.name,.slice A n c,.slice C m d]:=by
 cases h with
 | @mk _ _ _ _ A C n c m d vss hn hw hm hv h4 hl kids=>exact⟨A,n,c,C,m,d,rfl⟩
end
def Kin(base:Nat)(w:World)(v:Value)(b:Nat):Prop:=base≤b∧b<w.heap.size∧v.ownBlock≠some b
structure Qs (base:Nat) (w:World) (v:Value) (l:List Q) (vss:List (List Value)):Prop where
 lv:vss.length=l.length
 own:w.ownsRow base 60 4 v l.length vss.flatten
 kid:∀i (h:i<l.length) (h':i<vss.length),QF w (Kin base w v) l[i] vss[i]
theorem Qs.start(base:Nat)(w:World):Qs base w (.slice none 0 0) [] []:=⟨rfl,vM _ _ _ _,fun i h=>absurd h (by simp)⟩
theorem Qs.four{base:Nat}{w:World}{v:Value}{l:List Q}{vss:List (List Value)}(h:Qs base w v l vss):∀u∈vss,u.length=4:=fun u hu=>by
 obtain⟨j,hj,rfl⟩:=zp.1 hu;exact(h.kid j (by rw[←h.lv];exact hj) hj).len
theorem Qs.grown{base:Nat}{w w':World}{v:Value}{l:List Q}{vss:List (List Value)}{row:Option Nat}(h:Qs base w v l vss)(hg:w.grownBy w' row)(hr:∀b,row=some b→b<base):Qs base w' v l vss:=by
 refine⟨h.lv,h.own.kept hg ?_,fun i a b=>?_⟩
 ·cases hv:v.ownBlock with
  | none=>exact .inl rfl
  | some k=>
   refine .inr (fun e=>?_);have:=(h.own.lt k hv).1;have:=hr k e.symm;omega
 refine((h.kid i a b).keep fun g o hS=>?_).mono fun g hS=>⟨hS.1,zT hS.2.1 hg.size,hS.2.2⟩
 refine vN (hg.block g hS.2.1 (fun e=>?_));have:=hr g e.symm;have:=hS.1;omega
theorem Qs.put{base:Nat}{w w':World}{v v':Value}{l:List Q}{q:Q}{vss:List (List Value)}{u:List Value}(h:Qs base w v l vss)(hq:QF w (Kin base w v) q u)
  (hp:w'.ownsRow base 60 4 v' (l.length+1) (vss.flatten++u)) (hg:w.grownBy w' v.ownBlock) (hv:v'.ownBlock=v.ownBlock∨v'.ownBlock=some w.heap.size):Qs base w' v' (l ++ [q]) (vss ++ [u]):=by
 have keep:∀(q:Q) (u:List Value),QF w (Kin base w v) q u→QF w' (Kin base w' v') q u:=fun q u hq=>by
  refine(hq.keep fun g o hS=>?_).mono fun g hS=>⟨hS.1,zT hS.2.1 hg.size,fun e=>?_⟩
  ·exact vN (hg.block g hS.2.1 (fun e=>hS.2.2 e.symm))
  rcases hv with hv|hv
  ·exact hS.2.2 (hv.symm.trans e)
  have h1:some w.heap.size=some g:=hv.symm.trans e;injection h1 with h1;have:=hS.2.1;omega
 refine⟨by simp[h.lv],?_,fun i a b=>?_⟩
 ·rw[List.flatten_append,zJ]
  simpa using hp
 by_cases hi:i<l.length
 ·rw[zi hi,zi (by rw[h.lv];exact hi)];exact keep _ _ (h.kid i hi (by rw[h.lv];exact hi))
 have hi':i=l.length:=by simp at a;omega
 subst hi';rw[zl jo,zl (by rw[h.lv];omega)];simp only[Nat.sub_self,h.lv,List.getElem_cons_zero];exact keep _ _ hq
theorem Qs.query{base:Nat}{w:World}{v:Value}{l:List Q}{vss:List (List Value)}(h:Qs base w v l vss)(k:Int):∃C d,v=.slice C l.length d ∧
  QF w (fun b=>base≤b∧b<w.heap.size) (.mk k ByteArray.empty [] l) [.int .i64 k,.string ByteArray.empty,.slice none 0 0,.slice C l.length d]:=by
 obtain⟨C,d,rfl,_⟩:=aU h.own;exact⟨C,d,rfl,.mk vss rfl (by simpa using ReadsS.none_) rfl h.lv h.four ((ReadsS.of_own h.own).mono fun b hb=>⟨hb.1,hb.2.1⟩) fun i a b=>(h.kid i a b).mono fun g hS=>⟨hS.1,hS.2.1⟩⟩
theorem Qs.first{base:Nat}{w:World}{v:Value}{q:Q}{vss:List (List Value)}(h:Qs base w v [q] vss):∃b d A n c C m d',v=.slice (some ⟨b,0,none⟩) 1 d∧b<w.heap.size∧base≤b ∧
  w.cell? ⟨b,0,none⟩=some (.int .i64 q.kind)∧w.cell? ⟨b,1,none⟩=some (.string q.name)∧w.cell? ⟨b,2,none⟩=some (.slice A n c)∧w.cell? ⟨b,3,none⟩=some (.slice C m d') ∧
  QF w (fun b=>base≤b∧b<w.heap.size) q [.int .i64 q.kind,.string q.name,.slice A n c,.slice C m d']:=by
 obtain⟨A0,d,rfl,_⟩:=aU h.own;have hlv:=h.lv;obtain⟨u,rfl⟩:∃u,vss=[u]:=List.length_eq_one_iff.1 hlv;have hq:=(h.kid 0 jz jz).mono (S':=fun b=>base≤b∧b<w.heap.size) fun g hS=>⟨hS.1,hS.2.1⟩
 simp only[List.getElem_cons_zero]at hq;obtain⟨A,n,c,C,m,d',rfl⟩:=hq.four;have hS:=ReadsS.of_own h.own;obtain⟨b,o,e,hb,hc⟩:=hS.2 jz
 have ho:o=0:=by
  rcases h.own.2 with⟨hv,h0⟩|⟨g,cap,cur,hv,_⟩
  ·simp at h0
  injection hv with hv;rw[e]at hv;injection hv with hv;injection hv
 subst ho;subst e;have c0:=hc 0 (.int .i64 q.kind) rfl;have c1:=hc 1 (.string q.name) rfl;have c2:=hc 2 (.slice A n c) rfl;have c3:=hc 3 (.slice C m d') rfl;exact⟨b,d,A,n,c,C,m,d',rfl,hb.2.1,hb.1,c0,c1,c2,c3,hq⟩
theorem aW{w w1 w2:World}{row:Option Nat}(h:w.grownBy w1 row)(k:w1.grownBy w2 row):w.grownBy w2 row:=
 ⟨k.os.trans h.os,k.tape.trans h.tape,k.output.trans h.output,zY h.size k.size,fun i hi hr=>(k.block i (zT hi h.size) hr).trans (h.block i hi hr)⟩
theorem fP{w w1 w2:World}{row row2:Option Nat}(h:w.grownBy w1 row)(k:w1.grownBy w2 row2)(hn:∀b,row2=some b→w.heap.size≤b):w.grownBy w2 row:=
 ⟨k.os.trans h.os,k.tape.trans h.tape,k.output.trans h.output,zY h.size k.size,fun i hi hr=>(k.block i (zT hi h.size) (fun e=>by have:=hn i e.symm;omega)).trans (h.block i hi hr)⟩
theorem Aa(w:World)(row:Option Nat):w.grownBy w row:=⟨rfl,rfl,rfl,zG _,fun _ _ _=>rfl⟩
theorem sK(w:World)(g:Nat)(i:Nat)(u:Value):w.grownBy (w.setCell ⟨g,i,none⟩ u) (some g):=
 ⟨rfl,rfl,rfl,by simp[World.setCell],fun k _ hk=>vL _ _ _ _ (fun e=>hk (by rw[e]))⟩
theorem rP{w w1 w2:World}{g:Nat}(h:zWW w w1)(k:w1.grownBy w2 (some g))(hg:w.heap.size≤g):zWW w w2:=
 h.grown k h.size (fun b e=>by injection e with e;omega)
end Qp

namespace Qp
open Go.RowKit Ut Tk Qy
structure Rd (B:Nat) (w:World) (g:Nat) (l:List P):Prop where
 ex:∃A n c,Blk w g 154 #[.slice A n c]∧l.length=n∧n≤c∧ReadsS w (fun b=>b<B∧b≠g) 1 A n (sv l)
 low:B≤w.heap.size
 ne:∀x∈l,x≠[]
 many:l.length≤1048576
theorem Rd.lt{B:Nat}{w:World}{g:Nat}{l:List P}(h:Rd B w g l):g<w.heap.size:=by
 obtain⟨A,n,c,hB,_⟩:=h.ex;exact hB.lt
theorem Rd.other{B:Nat}{w w':World}{g:Nat}{l:List P}{row:Option Nat}(h:Rd B w g l)(hg:w.grownBy w' row)(hr:∀b,row=some b→B≤b∧b≠g):Rd B w' g l:=by
 obtain⟨A,n,c,hB,hn,hc,hR⟩:=h.ex;refine⟨⟨A,n,c,hB.grown hg (fun e=>(hr g e.symm).2 rfl),hn,hc,hR.keep fun b o hS=>vN (w:=w) (hg.block b (zT hS.1 h.low) (fun e=>?_))⟩,zY h.low hg.size,h.ne,h.many⟩;have:=(hr b e.symm).1;have:=hS.1;omega
theorem Rd.below{B:Nat}{w w':World}{g:Nat}{l:List P}(h:Rd B w g l)(hb:zWW w w'):Rd B w' g l:=
 h.other (aJ hb none) (fun b e=>by cases e)
theorem Rd.grown{B:Nat}{w w':World}{g:Nat}{l:List P}{row:Option Nat}(h:Rd B w g l)(hg:w.grownBy w' row)(hr:∀b,row=some b→w.heap.size≤b):Rd B w' g l:=
 h.below ((zw _ _).grown hg (zG _) hr)
theorem gT(s:P)(h:s≠[]):(str s).toList.isEmpty=false:=by
 rw[tl,bE]
 cases s with
 | nil=>exact absurd rfl h
 | cons a t=>rfl
theorem pY(B:Nat)(w:World)(g:Nat)(h:Rd B w g []):Calls prog 126 #[.pointer (some ⟨g,0,none⟩)] w fun e w'=>e=.returned (.string ByteArray.empty)∧w=w':=by
 obtain⟨A,n,c,hB,hn,hc,hR⟩:=h.ex;have h0:=hB.cell 0;simp at h0;obtain rfl:n=0:=by simpa using hn.symm
 clear hB hn hR h;go_enter func126,ntmps126;go_wp2;go_ret;exact⟨rfl,rfl⟩
theorem o8(B:Nat)(w:World)(g:Nat)(s:P)(l:List P)(h:Rd B w g (s::l)):Calls prog 126 #[.pointer (some ⟨g,0,none⟩)] w fun e w'=>e=.returned (.string (str s))∧w=w':=by
 obtain⟨A,n,c,hB,hn,hc,hR⟩:=h.ex;have h0:=hB.cell 0;simp at h0;have hn1:0<n:=by rw[←hn];simp
 obtain⟨b,o,rfl,hb,hcl⟩:=hR.2 hn1;have h1:=hcl 0 (.string (str s)) rfl;have hn2:((n:Int)==0)=false:=by rw[zM];omega
 simp at h1;clear hB hn hR h hcl hb;go_enter func126,ntmps126;go_wp2;go_ret;exact⟨rfl,rfl⟩
theorem gM(g:Nat)(w:World):Calls prog 98 #[.pointer (some ⟨g,0,none⟩),.bool true] w fun e w'=>e=.returned (.tuple #[])∧w=w':=by
 go_enter func98,ntmps98;go_wp2
 go_end0
 exact⟨rfl,rfl⟩
theorem fU(g:Nat)(w:World):Calls prog 98 #[.pointer (some ⟨g,0,none⟩),.bool false] w fun e w'=>e=.panicked [{ v:=.iface 149 (.agg #[.int .i64 170]),recovered:=false }]∧w=w':=by
 go_enter func98,ntmps98;go_wp2;exact⟨rfl,rfl,rfl⟩
theorem wG(B:Nat)(w:World)(g:Nat)(h:Rd B w g []):Calls prog 127 #[.pointer (some ⟨g,0,none⟩)] w fun e w'=>e=.returned (.string ByteArray.empty)∧w=w':=by
 have c0:=pY B w g h;clear h;go_enter func127,ntmps127;go_wp2_with (go_at_call 126;refine c0.mono ?_;rintro e w' ⟨rfl,rfl⟩);go_ret;exact⟨rfl,rfl⟩
theorem gK(B:Nat)(w:World)(g:Nat)(s:P)(l:List P)(h:Rd B w g (s::l)):Calls prog 127 #[.pointer (some ⟨g,0,none⟩)] w fun e w'=>e=.returned (.string (str s))∧Rd B w' g l∧w.grownBy w' (some g):=by
 have c0:=o8 B w g s l h;obtain⟨A,n,c,hB,hn,hc,hR⟩:=h.ex;have h0:=hB.cell 0;have hfz:=hB.frozen 0;simp at h0;have hn1:0<n:=by rw[←hn];simp
 have he:=gT s (h.ne s jz);obtain⟨b,o,rfl,hb,hcl⟩:=hR.2 hn1
 have Fin:∀(A':Option Addr) (c':Nat),n-1≤c'→(1<n→A'=some ⟨b,o+1,none⟩)→Rd B (w.setCell ⟨g,0,none⟩ (.slice A' (n-1) c')) g l:=fun A' c' h1 h2=>by
  refine⟨⟨A',n-1,c',hB.set_ 0 _,by rw[zV]at hn;omega,h1,⟨by rw[JO];rw[zV]at hn;omega,fun hp=>?_⟩⟩,by simpa[World.setCell]using h.low,fun x hx=>h.ne x (by simp[hx]),by have:=h.many;rw[zV]at this;omega⟩;refine⟨b,o+1,h2 jo,hb,fun j u hu=>?_⟩;have:=hcl (j+1) u (by simpa[sv]using hu);rw[vN (w:=w) (vL w ⟨g,0,none⟩ _ b hb.2)];rw[←this];congr 2;omega
 have FIN:=zh Fin;clear Fin hB hn hR h hcl;by_cases hc1:c=1
 ·obtain rfl:n=1:=jo;subst hc1;go_enter func127,ntmps127;go_wp2_with (go_at_call 126;refine c0.mono ?_;rintro e w' ⟨rfl,rfl⟩);go_ret;exact⟨rfl,FIN.out _ _ (zG _) (fun h=>absurd h jo),sK w g 0 _⟩
 go_enter func127,ntmps127;go_wp2_with (go_at_call 126;refine c0.mono ?_;rintro e w' ⟨rfl,rfl⟩);go_ret;exact⟨rfl,FIN.out _ _ jo (fun h=>rfl),sK w g 0 _⟩
end Qp

namespace Qp
open Go.RowKit Ut Tk Qy
def set4(w:World)(g:Nat)(a b c d:Value):World:=(((w.setCell ⟨g,0,none⟩ a).setCell ⟨g,1,none⟩ b).setCell ⟨g,2,none⟩ c).setCell ⟨g,3,none⟩ d
theorem _root_.Go.Proofs.YtmomjpolkkbhnaaGreat.Blk.four{w:World}{g:Nat}{t:TypeId}{x0 x1 x2 x3:Value}(h:Blk w g t #[x0,x1,x2,x3]) :
  w.cell? ⟨g,0,none⟩=some x0∧w.cell? ⟨g,1,none⟩=some x1∧w.cell? ⟨g,2,none⟩=some x2∧w.cell? ⟨g,3,none⟩=some x3 ∧
  w.frozen? ⟨g,0,none⟩=false∧w.frozen? ⟨g,1,none⟩=false∧w.frozen? ⟨g,2,none⟩=false∧w.frozen? ⟨g,3,none⟩=false:=
 ⟨h.cell 0,h.cell 1,h.cell 2,h.cell 3,h.frozen 0,h.frozen 1,h.frozen 2,h.frozen 3⟩
theorem _root_.Go.Proofs.YtmomjpolkkbhnaaGreat.Blk.set4{w:World}{g:Nat}{t:TypeId}{x0 x1 x2 x3:Value}(h:Blk w g t #[x0,x1,x2,x3])(a b c d:Value):Blk (set4 w g a b c d) g t #[a,b,c,d]:=
 (((h.set_ 0 a).set_ 1 b).set_ 2 c).set_ 3 d
theorem dw(w:World)(g k:Nat)(a b c d:Value)(h:k≠g):(set4 w g a b c d).heap[k]?=w.heap[k]?:=by
 unfold set4;rw[vL _ _ _ _ h,vL _ _ _ _ h,vL _ _ _ _ h,vL _ _ _ _ h]
theorem dQ(w:World)(g:Nat)(a b c d:Value):(set4 w g a b c d).heap.size=w.heap.size:=by simp[set4,World.setCell]
theorem bP{B g:Nat}{w0 w:World}(hb:Below B w0 w)(hBg:B≤g)(a b c d:Value):Below B w0 (set4 w g a b c d):=
 (((hb.setCell (p:=⟨g,0,none⟩) hBg a).setCell (p:=⟨g,1,none⟩) hBg b).setCell (p:=⟨g,2,none⟩) hBg c).setCell (p:=⟨g,3,none⟩) hBg d
def OkQ(base:Nat)(w:World)(q:Q)(e:Ending)(w':World):Prop:=∃a0 a1 a2 a3,e=.returned (.agg #[a0,a1,a2,a3])∧QF w' (fun b=>base≤b∧b<w'.heap.size) q [a0,a1,a2,a3]∧zWW w w'
def eu:Ending:=.panicked [{ v:=.iface 149 (.agg #[.int .i64 170]),recovered:=false }]
def yA(w:World)(o:Option Q)(e:Ending)(w':World):Prop:=
 match o with
 | some q=>OkQ w.heap.size w q e w'
 | none=>e=eu∧zWW w w'
theorem QF.grow{w w':World}{base:Nat}{q:Q}{vs:List Value}(h:QF w (fun b=>base≤b∧b<w.heap.size) q vs)(hb:zWW w w'):QF w' (fun b=>base≤b∧b<w'.heap.size) q vs:=
 (h.keep fun _ _ hS=>hb.cell (p:=⟨_,_,none⟩) hS.2).mono fun _ hS=>⟨hS.1,zT hS.2 hb.size⟩
theorem uR(k:Int)(l:List Q)(h:l.length≠1):af k l=.mk k ByteArray.empty [] l:=by
 match l,h with
 | [],_=>rfl
 | [q],h=>simp at h
 | _::_::_,_=>rfl
theorem lJ(base:Nat)(k:Int)(v:Value)(l:List Q)(vss:List (List Value))(w:World)(hQ:Qs base w v l vss)(hl:l≠[]):Calls prog 128 #[.int .i64 k,v] w (OkQ base w (af k l)):=by
 by_cases h1:l.length=1
 ·obtain⟨q,rfl⟩:=List.length_eq_one_iff.1 h1;obtain⟨b,d,A,n,c,C,m,d',rfl,hb,hbase,c0,c1,c2,c3,hF⟩:=hQ.first;have hh:=Blk.new w 60 #[.int .i64 q.kind,.string q.name,.slice A n c,.slice C m d'];have hbl:=(zw w.heap.size w).alloc (zG _) (.cells #[.int .i64 q.kind,.string q.name,.slice A n c,.slice C m d'] 60);have HF:=zh (hF.grow hbl);have Hbl:=zh hbl;clear hQ hl h1 hF hbl;go_enter func128,ntmps128;go_wp2_with fail;exact zu (aA rfl rfl (zr _ w.heap.size 60 60 #[.int .i64 q.kind,.string q.name,.slice A n c,.slice C m d'] (0,0) _ hh underlying60 rfl jk)) rfl ⟨_,_,_,_,rfl,HF.out,Hbl.out⟩
 rw[uR k l h1];obtain⟨C,d,rfl,hF⟩:=hQ.query k;have hbl:=(zw w.heap.size w).alloc (zG _) (.cells #[.int .i64 k,.string ByteArray.empty,.slice none 0 0,.slice C l.length d] 60);have hh:=Blk.new w 60 #[.int .i64 k,.string ByteArray.empty,.slice none 0 0,.slice C l.length d];have HF:=zh (hF.grow hbl);have Hbl:=zh hbl;have h1':((l.length:Int)==1)=false:=by rw[zM];omega
 clear hQ hl h1 hF hbl;generalize l.length=n at *;go_enter func128,ntmps128;go_wp2_with fail;exact zu (aA rfl rfl (zr _ w.heap.size 60 60 #[.int .i64 k,.string ByteArray.empty,.slice none 0 0,.slice C n d] (0,0) _ hh underlying60 rfl jk)) rfl ⟨_,_,_,_,rfl,HF.out,Hbl.out⟩
theorem xE(g:Nat)(nm s:ByteArray)(w:World)(hs:s.size≤1048576):Calls prog 196 #[.pointer (some ⟨g,0,none⟩),.string nm,.string s] w (yA w (bN nm.data.toList (words s.data.toList))):=by
 have hb0:=(zw w.heap.size w).alloc (zG _) (.cells #[.int .i64 0,.string ByteArray.empty,.slice none 0 0,.slice none 0 0] 60);have c0:=uG s (w.alloc (.cells #[.int .i64 0,.string ByteArray.empty,.slice none 0 0,.slice none 0 0] 60)) hs;have hB:=Blk.new w 60 #[.int .i64 0,.string ByteArray.empty,.slice none 0 0,.slice none 0 0];have hz:(w.alloc (.cells #[.int .i64 0,.string ByteArray.empty,.slice none 0 0,.slice none 0 0] 60)).heap.size=w.heap.size+1:=jz;have HB:=zh hB;have Hb0:=zh hb0;have Hz:=zh hz;have Hnm:=zh (fE nm);have hwl:=iW s;clear hB hb0 hz;generalize words s.data.toList=l at *;go_enter func196,ntmps196;go_wp2_with fail;refine c0.mono ?_;rintro e w2 ⟨v,rfl,hown,hb⟩;have hsz:w.heap.size+1≤w2.heap.size:=by have:=hb.size;rw[Hz.out]at this;exact this
 rw[Hz.out]at hown;obtain⟨A,c,rfl,_⟩:=aU hown;have hB2:=HB.out.below hb (by rw[Hz.out];omega);have hR:=(ReadsS.of_own hown).mono (S':=fun b=>w.heap.size+1≤b∧b<w2.heap.size) fun b hS=>⟨hS.1,hS.2.1⟩
 have Hb2:=zh (Hb0.out.trans (hb.mono (by rw[Hz.out];omega)));have HR:=zh hR;have hlt:=hB2.lt;have HB2:=zh hB2;obtain⟨q0,q1,q2,q3,f0,f1,f2,f3⟩:=HB2.out.four;clear hown hb hR c0 hB2;by_cases h0:l.length=0
 ·have Fin:Hid (bN nm.data.toList l=none):=zh (by unfold bN;rw[zI (List.length_eq_zero_iff.1 h0)]);have h0':decide (0<(l.length:Int))=false:=zN jo;have h0'':(l.length:Int)≤0:=jo;clear HR;generalize l.length=n at *;obtain rfl:n=0:=h0;go_wp2_with (go_at_call 98;refine(fU g _).mono ?_;rintro e w' ⟨rfl,rfl⟩);exact⟨rfl,by rw[Fin.out];exact⟨rfl,Hb2.out⟩⟩
 have h0':(0:Int)<(l.length:Int):=jo;by_cases h1:l.length=1
 ·have Fin:Hid (bN nm.data.toList l=some (.mk 2 nm (l.map str) [])):=zh (by
   unfold bN;rw[zH (fun e=>h0 (by rw[e];rfl)),zI h1,Hnm.out])
  generalize hn:l.length=n at *;have Hn:=zh hn;have h0d:decide (0<n)=true:=zO jo;clear hn h0;have h1':((n:Int)==1)=true:=by rw[h1];rfl
  clear h1
  have hF:QF (set4 w2 w.heap.size (.int .i64 2) (.string nm) (.slice A n c) (.slice none 0 0)) (fun b=>w.heap.size≤b∧b<(set4 w2 w.heap.size (.int .i64 2) (.string nm) (.slice A n c) (.slice none 0 0)).heap.size) (.mk 2 nm (l.map str) []) [.int .i64 2,.string nm,.slice A n c,.slice none 0 0]:=
   .mk [] (by rw[List.length_map];exact Hn.out) ((HR.out.keep fun b o hS=>vN (w:=w2) (dw w2 w.heap.size b _ _ _ _ jo)).mono fun b hS=>⟨jo,by rw[dQ];exact hS.2⟩) rfl rfl jz ReadsS.none_ (fun i hi=>absurd hi jz)
  have hbl:=bP Hb2.out (zG _) (.int .i64 2) (.string nm) (.slice A n c) (.slice none 0 0);have hh:=HB2.out.set4 (.int .i64 2) (.string nm) (.slice A n c) (.slice none 0 0);have HF:=zh hF;have Hbl:=zh hbl;have Hh:=zh hh;clear hF hbl hh HR Hb2;go_wp2_with (go_at_call 98;refine(gM g _).mono ?_;rintro e w' ⟨rfl,rfl⟩);refine zu (aA rfl rfl (zr _ w.heap.size 60 60 #[.int .i64 2,.string nm,.slice A n c,.slice none 0 0] (0,0) _ Hh.out underlying60 rfl jk)) rfl ?_;rw[Fin.out];exact⟨_,_,_,_,rfl,HF.out,Hbl.out⟩
 have Fin:Hid (bN nm.data.toList l=some (.mk 4 nm (l.map str) [])):=zh (by
  unfold bN;rw[zH (fun e=>h0 (by rw[e];rfl)),zH h1,Hnm.out])
 generalize hn:l.length=n at *;have Hn:=zh hn;have h0d:decide (0<n)=true:=zO jo;clear hn h0;have h1':((n:Int)==1)=false:=by rw[zM];omega
 clear h1
 have hF:QF (set4 w2 w.heap.size (.int .i64 4) (.string nm) (.slice A n c) (.slice none 0 0)) (fun b=>w.heap.size≤b∧b<(set4 w2 w.heap.size (.int .i64 4) (.string nm) (.slice A n c) (.slice none 0 0)).heap.size) (.mk 4 nm (l.map str) []) [.int .i64 4,.string nm,.slice A n c,.slice none 0 0]:=
  .mk [] (by rw[List.length_map];exact Hn.out) ((HR.out.keep fun b o hS=>vN (w:=w2) (dw w2 w.heap.size b _ _ _ _ jo)).mono fun b hS=>⟨jo,by rw[dQ];exact hS.2⟩) rfl rfl jz ReadsS.none_ (fun i hi=>absurd hi jz)
 have hbl:=bP Hb2.out (zG _) (.int .i64 4) (.string nm) (.slice A n c) (.slice none 0 0);have hh:=HB2.out.set4 (.int .i64 4) (.string nm) (.slice A n c) (.slice none 0 0);have HF:=zh hF;have Hbl:=zh hbl;have Hh:=zh hh;clear hF hbl hh HR Hb2;go_wp2_with (go_at_call 98;refine(gM g _).mono ?_;rintro e w' ⟨rfl,rfl⟩);refine zu (aA rfl rfl (zr _ w.heap.size 60 60 #[.int .i64 4,.string nm,.slice A n c,.slice none 0 0] (0,0) _ Hh.out underlying60 rfl jk)) rfl ?_;rw[Fin.out];exact⟨_,_,_,_,rfl,HF.out,Hbl.out⟩
end Qp

namespace Qp
open Go.RowKit Ut Tk Qy
def qtV(a:Nat)(n:Nat):Value:=if n=0 then .tuple #[.int .i64 0,.bool false]else .tuple #[.int .i64 ((a+n:Nat):Int),.bool true]
theorem qp(a:Nat):qtV a 0=.tuple #[.int .i64 0,.bool false]:=rfl
theorem qU(a n:Nat)(h:n≠0):qtV a n=.tuple #[.int .i64 ((a+n:Nat):Int),.bool true]:=zH h
theorem Ia{k:IntKind}{a b:Int}{c:Bool}(h:a=b):Ending.returned (.tuple #[.int k a,.bool c])=.returned (.tuple #[.int k b,.bool c]):=by rw[h]
theorem Ab(l:P)(a:Nat):aj (l.drop a)=if atC 34 (l.drop (a+1))<(l.drop (a+1)).length then atC 34 (l.drop (a+1))+2 else 0:=by
 unfold aj;rw[List.tail_drop];rfl
theorem tQ(s:ByteArray)(a:Nat)(w:World)(ha:a<s.size)(hs:s.size≤1048576):Calls prog 77 #[.string s,.int .i64 (a:Int)] w fun e w'=>e=.returned (qtV a (aj (s.data.toList.drop a)))∧w=w':=by
 have hq:Hid (aj (s.data.toList.drop a)=if atC 34 (s.data.toList.drop (a+1))<(s.data.toList.drop (a+1)).length then atC 34 (s.data.toList.drop (a+1))+2 else 0):=zh (Ab _ _);have hl:Hid ((s.data.toList.drop (a+1)).length=s.size-(a+1)):=zh (by rw[zP,aB]);have Hend:=zh (kY (· == 34) (s.data.toList.drop (a+1)));have ha0:(0:Int)≤(a:Int):=jo;go_enter func77,ntmps77;go_wp2_with fail;go_loopw [6] (fun i wr=>∃j:Nat,a+1+j≤s.size∧i=.int .i64 ((a+1+j:Nat):Int)∧w=wr∧Hid (∀x∈(s.data.toList.drop (a+1)).take j,(x==34)=false)) (fun i _=>s.size-(intOf i).toNat)
 case atStart=>exact⟨0,jo,ju,rfl,zh (fun x hx=>by simp at hx)⟩
 obtain⟨j,hj,rfl,rfl,hal⟩:=hrel;have g0:(0:Int)≤((a+1+j:Nat):Int):=jo;by_cases hlt:a+1+j<s.size
 ·have hg:(s.data.toList.drop (a+1))[j]?=some s[a+1+j]:=by rw[List.getElem?_drop];exact fV s _ hlt
  have u0:=bU s[a+1+j] 34;rw[show (UInt8.toNat 34:Int)=34 from rfl]at u0;have hjl:j<(s.data.toList.drop (a+1)).length:=by rw[hl.out];omega
  have hge:(s.data.toList.drop (a+1))[j]=s[a+1+j]:=by
   have:=zU hjl;rw[hg]at this;injection this with this;exact this.symm
  by_cases q:s[a+1+j]=34
  ·have t0:((s[a+1+j].toNat:Int)==34)=true:=by rw[u0];exact beq_iff_eq.2 q
   have Fin:Hid (aj (s.data.toList.drop a)=j+2):=zh (by
    have e:atC 34 (s.data.toList.drop (a+1))=j:=Hend.out j hal.out jo (fun h=>by rw[hge,q];rfl)
    rw[hq.out,e,zI hjl])
   clear hg u0 hjl hge q hal Hend hq hl;go_wp2_with fail;go_ret2;exact⟨by rw[Fin.out,qU _ _ jo];exact Ia jo,rfl⟩
  have t0:((s[a+1+j].toNat:Int)==34)=false:=by rw[u0];exact zM.2 q
  have Hnx:Hid (∀x∈(s.data.toList.drop (a+1)).take (j+1),(x==34)=false):=zh (fun x hx=>by
   rw[zL hjl,List.mem_append]at hx;rcases hx with hx|hx
   ·exact hal.out x hx
   rw[List.mem_singleton]at hx;rw[hx,hge];exact zM.2 q)
  clear hg u0 hjl hge q hal Hend hq hl;go_wp2_with fail;go_roundw
  case rel=>exact⟨j+1,jo,ju,by first|rfl|trivial,Hnx⟩
  simp[intOf];omega
 have Fin:Hid (aj (s.data.toList.drop a)=0):=zh (by
  have e:atC 34 (s.data.toList.drop (a+1))=j:=Hend.out j hal.out (by rw[hl.out];omega) (fun h=>absurd h (by rw[hl.out];omega))
  rw[hq.out,e,zH (by rw[hl.out];omega)])
 clear hal Hend hq hl;go_wp2_with fail;go_ret2;exact⟨by rw[Fin.out,qp];rfl,rfl⟩
theorem jF(c:UInt8)(w:World):Calls prog 78 #[.int .u8 (c.toNat:Int)] w fun e w'=>e=.returned (.bool (!cE c))∧w=w':=by
 have u0:=bU c 32;have u1:=bU c 9;have u2:=bU c 40;have u3:=bU c 41;have u4:=bU c 34;simp only[show (UInt8.toNat 34:Int)=34 from rfl,show (UInt8.toNat 41:Int)=41 from rfl,show (UInt8.toNat 40:Int)=40 from rfl,show (UInt8.toNat 32:Int)=32 from rfl,show (UInt8.toNat 9:Int)=9 from rfl]at u0 u1 u2 u3 u4
 have he:cE c=(((c.toNat:Int)==32) || ((c.toNat:Int)==9) || ((c.toNat:Int)==40) || ((c.toNat:Int)==41) || ((c.toNat:Int)==34)):=by
  rw[u0,u1,u2,u3,u4];rfl
 rw[he];clear u0 u1 u2 u3 u4 he;generalize (c.toNat:Int)=z;by_cases h0:z=32
 ·subst h0;go_enter func78,ntmps78;go_wp2;go_ret;exact⟨rfl,rfl⟩
 by_cases h1:z=9
 ·subst h1;go_enter func78,ntmps78;go_wp2;go_ret;exact⟨rfl,rfl⟩
 by_cases h2:z=40
 ·subst h2;go_enter func78,ntmps78;go_wp2;go_ret;exact⟨rfl,rfl⟩
 by_cases h3:z=41
 ·subst h3;go_enter func78,ntmps78;go_wp2;go_ret;exact⟨rfl,rfl⟩
 by_cases h4:z=34
 ·subst h4;go_enter func78,ntmps78;go_wp2;go_ret;exact⟨rfl,rfl⟩
 have t0:(z != 32)=true:=by simpa using h0
 have t1:(z != 9)=true:=by simpa using h1
 have t2:(z != 40)=true:=by simpa using h2
 have t3:(z != 41)=true:=by simpa using h3
 have t4:(z != 34)=true:=by simpa using h4
 go_enter func78,ntmps78;go_wp2;go_ret;exact⟨by simp[h0,h1,h2,h3,h4],rfl⟩
end Qp

namespace Hi
open Go.RowKit
end Hi

namespace Hi
open Go.RowKit
end Hi

namespace Ph
open Go.RowKit
section
variable {P:Program} {o:Oper} {a:Act} {w:World} {R:Value→World→Prop}
theorem ES{G:World→World→Prop}{w':World}(h:(execOp a.eval o).run P w=.ok .skip w')(hG:G w w')(hR:R undef w'):bM P G w R ((execOp a.eval o).run P w):=by rw[h];exact⟨hG,hR⟩
end
end Ph
end Go.Proofs.YtmomjpolkkbhnaaGreat
