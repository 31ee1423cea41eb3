/- utf.Decode at every place; all runes of a text. -/
import Derived.Test.YtmomjpolkkbhnaaGreatQModelRunsRow3
import Derived.Test.YtmomjpolkkbhnaaGreatQModelRunsRow4
set_option maxRecDepth 20000
set_option maxHeartbeats 100000000
set_option linter.unusedSimpArgs false
open Go.Proofs.Tryz
namespace Go.Proofs.YtmomjpolkkbhnaaGreat
namespace Ut
open Go.RowKit
set_option maxRecDepth 100000 in
theorem Iq(s:ByteArray)(k m:Nat)(w:World)(hk:k<s.size)(hm:(s[k]).toNat=m)(h128:128≤m)(h256:m<256)(h6:¬m/32=6)(h14:¬m/16=14)(h30:¬m/8=30) :
  Calls prog 181 #[.string s,.int .i64 (k:Int)] w fun e w'=>e=.returned (.tuple #[.int .i64 65533,.int .i64 1])∧zWW w w':=by
 have n:¬(k:Int)<0:=jo;have h:¬(s.size:Int)≤(k:Int):=jo;have g:¬(m:Int)<128:=jo;have b:=rz m h256;have d:=sD m h256;have c:=sF m h256;rw[show decide (m/32=6)=false from by simp;omega]at b;rw[show decide (m/16=14)=false from by simp;omega]at d;rw[show decide (m/8=30)=false from by simp;omega]at c;simp only[Bool.not_false]at b d c;have f:=rQ;have i:=rR;have l:=rS;go_enter func181,ntmps181;go_wp2_with (go_at_call 201;refine(nX _).mono ?_;rintro e j ⟨rfl,a⟩);refine wp_loop_rounds 4 ?_;rw[rounds_succ];go_wp2_with fail;rw[rounds_succ];go_wp2_with fail;rw[rounds_succ];go_wp2_with fail;rw[rounds_succ];go_wp2_with fail;go_ret2;exact⟨rfl,((a.alloc a.size _).alloc (by have:=a.size;simp;omega) _).alloc (by have:=a.size;simp;omega) _⟩
theorem tO(s:ByteArray)(a:Int)(w:World)(hs:s.size≤140737488351232) :
  Calls prog 181 #[.string s,.int .i64 a] w fun e w'=>e=.returned (.tuple #[.int .i64 ((kV s a).1:Nat),.int .i64 ((kV s a).2:Nat)])∧zWW w w':=by
 by_cases h:a<0∨(s.size:Int)≤a
 ·have e:kV s a=(0,0):=by
   unfold kV;by_cases j:a<0
   ·rw[zI j]
   rw[zH j,qw s a.toNat jo];rfl
  rw[e];exact(Kh s a w h).mono fun _ _ ⟨he,hw⟩=>⟨he,hw ▸ zy _ _⟩
 obtain⟨k,rfl⟩:=Int.eq_ofNat_of_zero_le (show 0≤a by omega);have c:k<s.size:=jo
 have e:kV s (k:Int)=dec (s[k]::s.data.toList.drop (k+1)):=by
  unfold kV;rw[zH jo,Int.toNat_natCast,qi s k c]
 have b:=(s[k]).toNat_lt;rw[e,qp];by_cases i:(s[k]).toNat<128
 ·rw[zI i];exact(Ki s k _ w c rfl i).mono fun _ _ ⟨he,hw⟩=>⟨he,hw ▸ zy _ _⟩
 rw[zH i];by_cases g:(s[k]).toNat/32=6
 ·rw[zI g];exact GH s k _ w c rfl jo b g hs
 rw[zH g];by_cases d:(s[k]).toNat/16=14
 ·rw[zI d];exact GI s k _ w c rfl jo b d hs
 rw[zH d];by_cases f:(s[k]).toNat/8=30
 ·rw[zI f];exact GJ s k _ w c rfl jo b f hs
 rw[zH f];exact Iq s k _ w c rfl jo b g d f
theorem yx(s:ByteArray)(k:Nat):kV s (k:Int)=dec (s.data.toList.drop k):=by
 unfold kV;rw[zH jo,Int.toNat_natCast]
theorem oV:(prog.info? 3).map (fun i=>(i.zero,i.size,i.bytes))=some (some (.int .i64 0),1,8):=by kernel_rfl
def rv(l:List Nat):List Value:=l.map (fun r:Nat=>Value.int .i64 (r:Int))
theorem GK(s:ByteArray)(w:World)(hs:s.size≤4398046511104) :
  Calls prog 164 #[.string s] w fun e w'=>∃v,e=.returned v∧w'.ownsRow w.heap.size 3 1 v (gq s.data.toList).length (rv (gq s.data.toList))∧zWW w w':=by
 obtain⟨L,C,D,F,B⟩:=info_parts oV;go_enter func164,ntmps164;go_wp2
 go_loopw [3,4] (fun v i wr=>∃(k:Nat) (l:List Nat),k≤s.size∧i=.int .i64 k∧l.length≤k∧gq s.data.toList=l++gq (s.data.toList.drop k)∧wr.ownsRow w.heap.size 3 1 v l.length (rv l)∧zWW w wr)
  (fun _ i _=>s.size-(intOf i).toNat)
 case atStart=>exact⟨0,[],zS _,rfl,jz,rfl,vO _ _ _ _,zy _ _⟩
 obtain⟨k,l,S,rfl,I,b,f,z⟩:=hrel;by_cases E:k<s.size
 ·have n:s.data.toList.drop k≠[]:=by rw[qi s k E];simp
  have g:=pu _ n;rw[zP,fB]at g;have o:=tJ _ n;rw[o,List.drop_drop]at b;have c:=tO s (k:Int) wr jo;rw[yx]at c;have Hru:=zh b;clear o b n;generalize dec (s.data.toList.drop k)=d at *;have N:=g.1;have P:=g.2.1;have O:=g.2.2;clear g;go_wp2_with fail;refine c.mono ?_;rintro e H ⟨rfl,y⟩;have m:=z.trans (y.mono z.size);have a:=f.kept (fH y none) (by cases hv:u3.ownBlock<;>simp);have p:=m.size;go_wp2_with (at_builtin;refine vJ _ rfl _ _ 27 rfl w.heap.size 3 L (.int .i64 0) 1 8 underlying27 C D F B rfl jd _ _ _ rfl (a.alloc _) ⟨H.heap.size,0,none⟩ 1 1 [.int .i64 (d.1:Int)] rfl rfl ?c1 ?c2 ?c3 ?c4 ?c5 ?_)
  case c1=>exact vH (cs:=#[.int .i64 (d.1:Int)]) (t:=3) (fr:=(0,0)) (vK H _)
  case c2=>intro u G;simp at G;subst G;rfl
  case c3=>unfold maxLen;omega
  case c4=>omega
  case c5=>simp;omega
  intro R M h r _;have q:zWW w M:=(m.alloc p _).grown r jm (fun j J=>(a.lt _ J).1);have A:=zh q;have Hown3:=zh h;clear q h r a m f z;go_wp2;go_roundw
  case rel=>exact⟨k+d.2,l ++ [d.1],jo,ju,by rw[zJ];simp;omega,by rw[Hru.out];simp,by
    rw[zJ];have:=Hown3.out
    simpa[rv]using this,A.out⟩
  simp[intOf];omega
 have x:s.data.toList.drop k=[]:=qw s k jo;rw[x,tz,List.append_nil]at b;have Hru:=zh b;clear b x;go_wp2;go_ret;exact⟨_,rfl,by rw[Hru.out];exact f,z⟩
end Ut

namespace Ut
open Go.RowKit
theorem ku:(prog.info? 5).map (fun i=>(i.zero,i.size,i.bytes))=some (some (.int .u8 0),1,1):=by kernel_rfl
def bv(l:List UInt8):List Value:=l.map (fun b=>Value.int .u8 (b.toNat:Int))
theorem iH(n:Nat)(h:n<256):((B n).toNat:Int)=(n:Int):=by rw[lX n h]
theorem ij(l:List UInt8):(bv l).length=l.length:=by simp[bv]
theorem GL(a b:List UInt8):bv (a++b)=bv a++bv b:=by simp[bv]
def kC(w:World)(base n:Nat)(v:Value)(xs:List Value)(bs:List UInt8)(e:Ending)(w':World):Prop:=
 ∃v',e=.returned v'∧w'.ownsRow base 5 1 v' (n+bs.length) (xs++bv bs)∧w.grownBy w' v.ownBlock
theorem or_all:(∀y:Fin 32,bits BinOp.or IntKind.u8 192 ((y.val:Nat):Int)=((192+y.val:Nat):Int))∧(∀y:Fin 64,bits BinOp.or IntKind.u8 128 ((y.val:Nat):Int)=((128+y.val:Nat):Int)) ∧
  (∀y:Fin 16,bits BinOp.or IntKind.u8 224 ((y.val:Nat):Int)=((224+y.val:Nat):Int))∧(∀y:Fin 8,bits BinOp.or IntKind.u8 240 ((y.val:Nat):Int)=((240+y.val:Nat):Int)):=jq
theorem Nc(y:Nat)(h:y<64):bits BinOp.or IntKind.u8 128 (y:Int)=((128+y:Nat):Int):=or_all.2.1 ⟨y,h⟩
theorem lI{w w3:World}{base n m:Nat}{v v':Value}{xs news:List Value}{bs:List UInt8}(_hown:w.ownsRow base 5 1 v n xs)(hown3:w3.ownsRow base 5 1 v' (n+m) (xs++news))(hg:(w.alloc (.cells news.toArray 5)).grownBy w3 v.ownBlock)(hnews:news=bv bs∧m=bs.length):kC w base n v xs bs (.returned v') w3:=by
 obtain⟨rfl,rfl⟩:=hnews;exact⟨v',rfl,hown3,⟨hg.os,hg.tape,hg.output,zY jz hg.size,fun k b a=>(hg.block k jm a).trans (Below.heap_alloc w _ k b)⟩⟩
theorem GM(n:Nat)(h:n<9223372036854775808):bits BinOp.and IntKind.i64 (n:Int) 63=((n%64:Nat):Int):=by
 have a:(BitVec.ofInt 64 (n:Int)).toNat=n:=by
  rw[BitVec.ofInt_natCast,BitVec.toNat_ofNat];exact Nat.mod_eq_of_lt jo
 show IntKind.i64.wrap ((BitVec.ofInt 64 (n:Int) &&& BitVec.ofInt 64 63).toNat:Int)=_;rw[BitVec.toNat_and,a,show (BitVec.ofInt 64 63).toNat=63 from by decide,IntKind.wrap_i64];have:=Nat.and_two_pow_sub_one_eq_mod n 6;simp only[show 2 ^ 6-1=63 from rfl,show 2 ^ 6=64 from rfl]at this;rw[this];omega
theorem ou(n:Nat)(z:Int)(h:n<9223372036854775808)(hz:z=n):bits BinOp.or IntKind.u8 128 (bits BinOp.and IntKind.i64 z 63%256)=128+z%64:=by
 subst hz;rw[GM n h,show ((n%64:Nat):Int)%256=((n%64:Nat):Int)from by omega,Nc _ jo];omega
set_option maxRecDepth 100000 in
theorem Nf(base n:Nat)(v:Value)(xs:List Value)(r:Nat)(h1:r<128)(w:World)(hown:w.ownsRow base 5 1 v n xs)(hbase:base≤w.heap.size)(hn:n≤140737488000000) :
  Calls prog 203 #[v,.int .i64 ((r:Int))] w (kC w base n v xs (fE r)):=by
 obtain⟨g,a,b,c,d⟩:=info_parts ku;have Hown:=zh hown;clear hown;have h:gX (r:Int)=false:=by simp only[gX,Bool.and_eq_false_iff,decide_eq_false_iff_not];omega
 have f:Hid ([.int .u8 ((r:Int))]=bv (fE r)∧1=(fE r).length):=by
  show _∧_;unfold fE;rw[zI jo];simp only[bv,List.map_cons,List.map_nil,zV,List.length_nil,and_true,zi,zQ,Value.int.injEq,true_and];rw[iH _ jo]
 go_enter func203,ntmps203
 go_wp2_with (first
  | (go_at_call 202;refine(iz _ _).mono ?_;rintro e i ⟨rfl,rfl⟩)
  | (refine vJ (o:=⟨some 43,_,_,_,_,_⟩) _ rfl _ _ 30 rfl base 5 g (.int .u8 0) 1 1 underlying30 a b c d rfl jd v n xs rfl (Hown.out.alloc _) ⟨w.heap.size,0,none⟩ 1 1 [.int .u8 ((r:Int))] rfl rfl (vH (cs:=[.int .u8 ((r:Int))].toArray) (t:=5) (fr:=(0,0)) (vK w _)) jt jx jo jm ?_;intro v' w3 hown3 hg3 _))
 go_ret;exact lI Hown.out hown3 hg3 f.out
set_option maxRecDepth 100000 in
theorem Ng(base n:Nat)(v:Value)(xs:List Value)(r:Nat)(h1:128≤r)(h2:r<2048)(w:World)(hown:w.ownsRow base 5 1 v n xs)(hbase:base≤w.heap.size)(hn:n≤140737488000000) :
  Calls prog 203 #[v,.int .i64 ((r:Int))] w (kC w base n v xs (fE r)):=by
 obtain⟨g,a,b,c,d⟩:=info_parts ku;have Hown:=zh hown;clear hown;have i:gX (r:Int)=false:=by simp only[gX,Bool.and_eq_false_iff,decide_eq_false_iff_not];omega
 have h:bits BinOp.or IntKind.u8 128 (bits BinOp.and IntKind.i64 ((r:Int)) 63%256)=128+(r:Int)%64:=ou r _ jo jo
 have f:Hid ([.int .u8 (192+(r:Int)/64),.int .u8 (128+(r:Int)%64)]=bv (fE r)∧2=(fE r).length):=by
  show _∧_;unfold fE;rw[zH jo,zI jo];simp only[bv,List.map_cons,List.map_nil,zV,List.length_nil,and_true,zi,zQ,Value.int.injEq,true_and];refine⟨by rw[iH _ jo];omega,by rw[iH _ jo];omega⟩
 go_enter func203,ntmps203
 go_wp2_with (first
  | (go_at_call 202;refine(iz _ _).mono ?_;rintro e j ⟨rfl,rfl⟩)
  | (refine vJ (o:=⟨some 57,_,_,_,_,_⟩) _ rfl _ _ 30 rfl base 5 g (.int .u8 0) 1 1 underlying30 a b c d rfl jd v n xs rfl (Hown.out.alloc _) ⟨w.heap.size,0,none⟩ 2 2 [.int .u8 (192+(r:Int)/64),.int .u8 (128+(r:Int)%64)] rfl rfl (vH (cs:=[.int .u8 (192+(r:Int)/64),.int .u8 (128+(r:Int)%64)].toArray) (t:=5) (fr:=(0,0)) (vK w _)) jt jx jo jm ?_;intro v' w3 hown3 hg3 _))
 go_ret;exact lI Hown.out hown3 hg3 f.out
set_option maxRecDepth 100000 in
theorem Kj(base n:Nat)(v:Value)(xs:List Value)(r:Int)(hbad:r<0∨1114111<r∨(55296≤r∧r≤57343))(w:World)(hown:w.ownsRow base 5 1 v n xs)(hbase:base≤w.heap.size)(hn:n≤140737488000000) :
  Calls prog 203 #[v,.int .i64 r] w (kC w base n v xs (fE 65533)):=by
 obtain⟨g,a,b,c,d⟩:=info_parts ku;have Hown:=zh hown;clear hown;have i:bits BinOp.or IntKind.u8 128 (bits BinOp.and IntKind.i64 65533 63%256)=189:=jq;have k:bits BinOp.or IntKind.u8 128 (bits BinOp.and IntKind.i64 1023 63%256)=191:=jq;have l:bits BinOp.or IntKind.u8 224 15=239:=jq
 have f:Hid ([.int .u8 239,.int .u8 191,.int .u8 189]=bv (fE 65533)∧3=(fE 65533).length):=by
  show _∧_;unfold fE;rw[zH jo,zH jo,zI jo];exact⟨by simp only[bv,List.map_cons,List.map_nil,iH (224+65533/4096) jo,iH (128+65533/64%64) jo,iH (128+65533%64) jo];rfl,rfl⟩
 rcases hbad with h|h|h
 ·go_enter func203,ntmps203
  go_wp2_with (first
   | (refine vJ (o:=⟨some 76,_,_,_,_,_⟩) _ rfl _ _ 30 rfl base 5 g (.int .u8 0) 1 1 underlying30 a b c d rfl jd v n xs rfl (Hown.out.alloc _) ⟨w.heap.size,0,none⟩ 3 3 [.int .u8 239,.int .u8 191,.int .u8 189] rfl rfl (vH (cs:=#[.int .u8 239,.int .u8 191,.int .u8 189]) (t:=5) (fr:=(0,0)) (vK w _)) jt jx jo jm ?_;intro v' w3 hown3 hg3 _))
  go_ret;exact lI Hown.out hown3 hg3 f.out
 ·have j:¬r<0:=jo;go_enter func203,ntmps203
  go_wp2_with (first
   | (refine vJ (o:=⟨some 76,_,_,_,_,_⟩) _ rfl _ _ 30 rfl base 5 g (.int .u8 0) 1 1 underlying30 a b c d rfl jd v n xs rfl (Hown.out.alloc _) ⟨w.heap.size,0,none⟩ 3 3 [.int .u8 239,.int .u8 191,.int .u8 189] rfl rfl (vH (cs:=#[.int .u8 239,.int .u8 191,.int .u8 189]) (t:=5) (fr:=(0,0)) (vK w _)) jt jx jo jm ?_;intro v' w3 hown3 hg3 _))
  go_ret;exact lI Hown.out hown3 hg3 f.out
 have j:¬r<0:=jo;have m:¬1114111<r:=jo;have p:gX r=true:=by simp only[gX,zr,zg];exact h
 clear h;go_enter func203,ntmps203
 go_wp2_with (first
  | (go_at_call 202;refine(iz _ _).mono ?_;rintro e q ⟨rfl,rfl⟩)
  | (refine vJ (o:=⟨some 76,_,_,_,_,_⟩) _ rfl _ _ 30 rfl base 5 g (.int .u8 0) 1 1 underlying30 a b c d rfl jd v n xs rfl (Hown.out.alloc _) ⟨w.heap.size,0,none⟩ 3 3 [.int .u8 239,.int .u8 191,.int .u8 189] rfl rfl (vH (cs:=#[.int .u8 239,.int .u8 191,.int .u8 189]) (t:=5) (fr:=(0,0)) (vK w _)) jt jx jo jm ?_;intro v' w3 hown3 hg3 _))
 go_ret;exact lI Hown.out hown3 hg3 f.out
end Ut
end Go.Proofs.YtmomjpolkkbhnaaGreat
