/- utf.Decode at every place; all runes of a text. -/
import Derived.Test.YtmomjpolkkbhnaaGreatQModelCountsRow1
import Derived.Test.YtmomjpolkkbhnaaGreatQModelCountsRow5
set_option maxRecDepth 20000
set_option maxHeartbeats 100000000
set_option linter.unusedSimpArgs false
open Go.Proofs.Tryz
namespace Go.Proofs.YtmomjpolkkbhnaaGreat
namespace Ut
open Go.RowKit
set_option maxRecDepth 100000 in
theorem Ei(s:ByteArray)(k m:Nat)(w:World)(hk:k<s.size)(hm:(s[k]).toNat=m)(h128:128≤m)(h256:m<256)(h6:¬m/32=6)(h14:¬m/16=14)(h30:¬m/8=30) :
  Calls prog 181 #[.string s,.int .i64 (k:Int)] w fun e w'=>e=.returned (.tuple #[.int .i64 65533,.int .i64 1])∧zWW w w':=by
 have h0:¬(k:Int)<0:=jo;have h1:¬(s.size:Int)≤(k:Int):=jo;have h2:¬(m:Int)<128:=jo;have hm0:=nK m h256;have hm1:=nL m h256;have hm2:=nM m h256;rw[show decide (m/32=6)=false from by simp;omega]at hm0;rw[show decide (m/16=14)=false from by simp;omega]at hm1;rw[show decide (m/8=30)=false from by simp;omega]at hm2;simp only[Bool.not_false]at hm0 hm1 hm2;have i0:=mi;have i1:=mo;have i2:=mq;go_enter func181,ntmps181;go_wp2_with (go_at_call 201;refine(iV _).mono ?_;rintro e w1 ⟨rfl,hb1⟩);refine wp_loop_rounds 4 ?_;rw[rounds_succ];go_wp2_with fail;rw[rounds_succ];go_wp2_with fail;rw[rounds_succ];go_wp2_with fail;rw[rounds_succ];go_wp2_with fail;go_ret2;exact⟨rfl,((hb1.alloc hb1.size _).alloc (by have:=hb1.size;simp;omega) _).alloc (by have:=hb1.size;simp;omega) _⟩
theorem oN(s:ByteArray)(a:Int)(w:World)(hs:s.size≤140737488351232) :
  Calls prog 181 #[.string s,.int .i64 a] w fun e w'=>e=.returned (.tuple #[.int .i64 ((eM s a).1:Nat),.int .i64 ((eM s a).2:Nat)])∧zWW w w':=by
 by_cases h:a<0∨(s.size:Int)≤a
 ·have e:eM s a=(0,0):=by
   unfold eM;by_cases h0:a<0
   ·rw[zI h0]
   rw[zH h0,mG s a.toNat jo];rfl
  rw[e];exact(Gs s a w h).mono fun _ _ ⟨he,hw⟩=>⟨he,hw ▸ zw _ _⟩
 obtain⟨k,rfl⟩:=Int.eq_ofNat_of_zero_le (show 0≤a by omega);have hk:k<s.size:=jo
 have e:eM s (k:Int)=dec (s[k]::s.data.toList.drop (k+1)):=by
  unfold eM;rw[zH jo,Int.toNat_natCast,l4 s k hk]
 have h256:=(s[k]).toNat_lt;rw[e,mF];by_cases h1:(s[k]).toNat<128
 ·rw[zI h1];exact(Gt s k _ w hk rfl h1).mono fun _ _ ⟨he,hw⟩=>⟨he,hw ▸ zw _ _⟩
 rw[zH h1];by_cases h2:(s[k]).toNat/32=6
 ·rw[zI h2];exact Ct s k _ w hk rfl jo h256 h2 hs
 rw[zH h2];by_cases h3:(s[k]).toNat/16=14
 ·rw[zI h3];exact Cv s k _ w hk rfl jo h256 h3 hs
 rw[zH h3];by_cases h4:(s[k]).toNat/8=30
 ·rw[zI h4];exact Cw s k _ w hk rfl jo h256 h4 hs
 rw[zH h4];exact Ei s k _ w hk rfl jo h256 h2 h3 h4
theorem uC(s:ByteArray)(k:Nat):eM s (k:Int)=dec (s.data.toList.drop k):=by
 unfold eM;rw[zH jo,Int.toNat_natCast]
theorem iY:(prog.info? 3).map (fun i=>(i.zero,i.size,i.bytes))=some (some (.int .i64 0),1,8):=by kernel_rfl
def rv(l:List Nat):List Value:=l.map (fun r:Nat=>Value.int .i64 (r:Int))
theorem Cx(s:ByteArray)(w:World)(hs:s.size≤4398046511104) :
  Calls prog 164 #[.string s] w fun e w'=>∃v,e=.returned v∧w'.ownsRow w.heap.size 3 1 v (bT s.data.toList).length (rv (bT s.data.toList))∧zWW w w':=by
 obtain⟨i0,hi0,hz0,hz1,hz2⟩:=info_parts iY;go_enter func164,ntmps164;go_wp2
 go_loopw [3,4] (fun v i wr=>∃(k:Nat) (l:List Nat),k≤s.size∧i=.int .i64 k∧l.length≤k∧bT s.data.toList=l++bT (s.data.toList.drop k)∧wr.ownsRow w.heap.size 3 1 v l.length (rv l)∧zWW w wr)
  (fun _ i _=>s.size-(intOf i).toNat)
 case atStart=>exact⟨0,[],zS _,rfl,jz,rfl,vM _ _ _ _,zw _ _⟩
 obtain⟨k,l,hk,rfl,hlk,hru,hown,hb⟩:=hrel;by_cases hlt:k<s.size
 ·have hne:s.data.toList.drop k≠[]:=by rw[l4 s k hlt];simp
  have hsz:=ku _ hne;rw[zP,aB]at hsz;have hrc:=oJ _ hne;rw[hrc,List.drop_drop]at hru;have c:=oN s (k:Int) wr jo;rw[uC]at c;have Hru:=zh hru;clear hrc hru hne;generalize dec (s.data.toList.drop k)=d at *;have hd1:=hsz.1;have hd2:=hsz.2.1;have hd4:=hsz.2.2;clear hsz;go_wp2_with fail;refine c.mono ?_;rintro e w2 ⟨rfl,hb2⟩;have hbw:=hb.trans (hb2.mono hb.size);have hown2:=hown.kept (aJ hb2 none) (by cases hv:u3.ownBlock<;>simp);have hsz2:=hbw.size;go_wp2_with (at_builtin;refine vH _ rfl _ _ 27 rfl w.heap.size 3 i0 (.int .i64 0) 1 8 underlying27 hi0 hz0 hz1 hz2 rfl jd _ _ _ rfl (hown2.alloc _) ⟨w2.heap.size,0,none⟩ 1 1 [.int .i64 (d.1:Int)] rfl rfl ?c1 ?c2 ?c3 ?c4 ?c5 ?_)
  case c1=>exact zy (cs:=#[.int .i64 (d.1:Int)]) (t:=3) (fr:=(0,0)) (vI w2 _)
  case c2=>intro u hu;simp at hu;subst hu;rfl
  case c3=>unfold maxLen;omega
  case c4=>omega
  case c5=>simp;omega
  intro v' w3 hown3 hg3 _;have hb3:zWW w w3:=(hbw.alloc hsz2 _).grown hg3 jm (fun j hj=>(hown2.lt _ hj).1);have Hb3:=zh hb3;have Hown3:=zh hown3;clear hb3 hown3 hg3 hown2 hbw hown hb;go_wp2;go_roundw
  case rel=>exact⟨k+d.2,l ++ [d.1],jo,ju,by rw[zJ];simp;omega,by rw[Hru.out];simp,by
    rw[zJ];have:=Hown3.out
    simpa[rv]using this,Hb3.out⟩
  simp[intOf];omega
 have hd0:s.data.toList.drop k=[]:=mG s k jo;rw[hd0,ol,List.append_nil]at hru;have Hru:=zh hru;clear hru hd0;go_wp2;go_ret;exact⟨_,rfl,by rw[Hru.out];exact hown,hb⟩
end Ut

namespace Ut
open Go.RowKit
theorem eX:(prog.info? 5).map (fun i=>(i.zero,i.size,i.bytes))=some (some (.int .u8 0),1,1):=by kernel_rfl
def bv(l:List UInt8):List Value:=l.map (fun b=>Value.int .u8 (b.toNat:Int))
theorem bi(n:Nat)(h:n<256):((B n).toNat:Int)=(n:Int):=by rw[fT n h]
theorem dH(l:List UInt8):(bv l).length=l.length:=by simp[bv]
theorem Cy(a b:List UInt8):bv (a++b)=bv a++bv b:=by simp[bv]
def dV(w:World)(base n:Nat)(v:Value)(xs:List Value)(bs:List UInt8)(e:Ending)(w':World):Prop:=
 ∃v',e=.returned v'∧w'.ownsRow base 5 1 v' (n+bs.length) (xs++bv bs)∧w.grownBy w' v.ownBlock
theorem or_all:(∀y:Fin 32,bits BinOp.or IntKind.u8 192 ((y.val:Nat):Int)=((192+y.val:Nat):Int))∧(∀y:Fin 64,bits BinOp.or IntKind.u8 128 ((y.val:Nat):Int)=((128+y.val:Nat):Int)) ∧
  (∀y:Fin 16,bits BinOp.or IntKind.u8 224 ((y.val:Nat):Int)=((224+y.val:Nat):Int))∧(∀y:Fin 8,bits BinOp.or IntKind.u8 240 ((y.val:Nat):Int)=((240+y.val:Nat):Int)):=jq
theorem KG(y:Nat)(h:y<64):bits BinOp.or IntKind.u8 128 (y:Int)=((128+y:Nat):Int):=or_all.2.1 ⟨y,h⟩
theorem fD{w w3:World}{base n m:Nat}{v v':Value}{xs news:List Value}{bs:List UInt8}(_hown:w.ownsRow base 5 1 v n xs)(hown3:w3.ownsRow base 5 1 v' (n+m) (xs++news))(hg:(w.alloc (.cells news.toArray 5)).grownBy w3 v.ownBlock)(hnews:news=bv bs∧m=bs.length):dV w base n v xs bs (.returned v') w3:=by
 obtain⟨rfl,rfl⟩:=hnews;exact⟨v',rfl,hown3,⟨hg.os,hg.tape,hg.output,zY jz hg.size,fun k hk hne=>(hg.block k jm hne).trans (Below.heap_alloc w _ k hk)⟩⟩
theorem Cz(n:Nat)(h:n<9223372036854775808):bits BinOp.and IntKind.i64 (n:Int) 63=((n%64:Nat):Int):=by
 have h1:(BitVec.ofInt 64 (n:Int)).toNat=n:=by
  rw[BitVec.ofInt_natCast,BitVec.toNat_ofNat];exact Nat.mod_eq_of_lt jo
 show IntKind.i64.wrap ((BitVec.ofInt 64 (n:Int) &&& BitVec.ofInt 64 63).toNat:Int)=_;rw[BitVec.toNat_and,h1,show (BitVec.ofInt 64 63).toNat=63 from by decide,IntKind.wrap_i64];have:=Nat.and_two_pow_sub_one_eq_mod n 6;simp only[show 2 ^ 6-1=63 from rfl,show 2 ^ 6=64 from rfl]at this;rw[this];omega
theorem kG(n:Nat)(z:Int)(h:n<9223372036854775808)(hz:z=n):bits BinOp.or IntKind.u8 128 (bits BinOp.and IntKind.i64 z 63%256)=128+z%64:=by
 subst hz;rw[Cz n h,show ((n%64:Nat):Int)%256=((n%64:Nat):Int)from by omega,KG _ jo];omega
set_option maxRecDepth 100000 in
theorem KH(base n:Nat)(v:Value)(xs:List Value)(r:Nat)(h1:r<128)(w:World)(hown:w.ownsRow base 5 1 v n xs)(hbase:base≤w.heap.size)(hn:n≤140737488000000) :
  Calls prog 203 #[v,.int .i64 ((r:Int))] w (dV w base n v xs (aG r)):=by
 obtain⟨i0,hi0,hz0,hz1,hz2⟩:=info_parts eX;have Hown:=zh hown;clear hown;have hhf:bO (r:Int)=false:=by simp only[bO,Bool.and_eq_false_iff,decide_eq_false_iff_not];omega
 have fin:Hid ([.int .u8 ((r:Int))]=bv (aG r)∧1=(aG r).length):=by
  show _∧_;unfold aG;rw[zI jo];simp only[bv,List.map_cons,List.map_nil,zV,List.length_nil,and_true,zf,zQ,Value.int.injEq,true_and];rw[bi _ jo]
 go_enter func203,ntmps203
 go_wp2_with (first
  | (go_at_call 202;refine(dG _ _).mono ?_;rintro e w' ⟨rfl,rfl⟩)
  | (refine vH (o:=⟨some 43,_,_,_,_,_⟩) _ rfl _ _ 30 rfl base 5 i0 (.int .u8 0) 1 1 underlying30 hi0 hz0 hz1 hz2 rfl jd v n xs rfl (Hown.out.alloc _) ⟨w.heap.size,0,none⟩ 1 1 [.int .u8 ((r:Int))] rfl rfl (zy (cs:=[.int .u8 ((r:Int))].toArray) (t:=5) (fr:=(0,0)) (vI w _)) jt jx jo jm ?_;intro v' w3 hown3 hg3 _))
 go_ret;exact fD Hown.out hown3 hg3 fin.out
set_option maxRecDepth 100000 in
theorem KI(base n:Nat)(v:Value)(xs:List Value)(r:Nat)(h1:128≤r)(h2:r<2048)(w:World)(hown:w.ownsRow base 5 1 v n xs)(hbase:base≤w.heap.size)(hn:n≤140737488000000) :
  Calls prog 203 #[v,.int .i64 ((r:Int))] w (dV w base n v xs (aG r)):=by
 obtain⟨i0,hi0,hz0,hz1,hz2⟩:=info_parts eX;have Hown:=zh hown;clear hown;have hhf:bO (r:Int)=false:=by simp only[bO,Bool.and_eq_false_iff,decide_eq_false_iff_not];omega
 have hx1:bits BinOp.or IntKind.u8 128 (bits BinOp.and IntKind.i64 ((r:Int)) 63%256)=128+(r:Int)%64:=kG r _ jo jo
 have fin:Hid ([.int .u8 (192+(r:Int)/64),.int .u8 (128+(r:Int)%64)]=bv (aG r)∧2=(aG r).length):=by
  show _∧_;unfold aG;rw[zH jo,zI jo];simp only[bv,List.map_cons,List.map_nil,zV,List.length_nil,and_true,zf,zQ,Value.int.injEq,true_and];refine⟨by rw[bi _ jo];omega,by rw[bi _ jo];omega⟩
 go_enter func203,ntmps203
 go_wp2_with (first
  | (go_at_call 202;refine(dG _ _).mono ?_;rintro e w' ⟨rfl,rfl⟩)
  | (refine vH (o:=⟨some 57,_,_,_,_,_⟩) _ rfl _ _ 30 rfl base 5 i0 (.int .u8 0) 1 1 underlying30 hi0 hz0 hz1 hz2 rfl jd v n xs rfl (Hown.out.alloc _) ⟨w.heap.size,0,none⟩ 2 2 [.int .u8 (192+(r:Int)/64),.int .u8 (128+(r:Int)%64)] rfl rfl (zy (cs:=[.int .u8 (192+(r:Int)/64),.int .u8 (128+(r:Int)%64)].toArray) (t:=5) (fr:=(0,0)) (vI w _)) jt jx jo jm ?_;intro v' w3 hown3 hg3 _))
 go_ret;exact fD Hown.out hown3 hg3 fin.out
set_option maxRecDepth 100000 in
theorem Gu(base n:Nat)(v:Value)(xs:List Value)(r:Int)(hbad:r<0∨1114111<r∨(55296≤r∧r≤57343))(w:World)(hown:w.ownsRow base 5 1 v n xs)(hbase:base≤w.heap.size)(hn:n≤140737488000000) :
  Calls prog 203 #[v,.int .i64 r] w (dV w base n v xs (aG 65533)):=by
 obtain⟨i0,hi0,hz0,hz1,hz2⟩:=info_parts eX;have Hown:=zh hown;clear hown;have hx1:bits BinOp.or IntKind.u8 128 (bits BinOp.and IntKind.i64 65533 63%256)=189:=jq;have hx2:bits BinOp.or IntKind.u8 128 (bits BinOp.and IntKind.i64 1023 63%256)=191:=jq;have hx3:bits BinOp.or IntKind.u8 224 15=239:=jq
 have fin:Hid ([.int .u8 239,.int .u8 191,.int .u8 189]=bv (aG 65533)∧3=(aG 65533).length):=by
  show _∧_;unfold aG;rw[zH jo,zH jo,zI jo];exact⟨by simp only[bv,List.map_cons,List.map_nil,bi (224+65533/4096) jo,bi (128+65533/64%64) jo,bi (128+65533%64) jo];rfl,rfl⟩
 rcases hbad with h|h|h
 ·go_enter func203,ntmps203
  go_wp2_with (first
   | (refine vH (o:=⟨some 76,_,_,_,_,_⟩) _ rfl _ _ 30 rfl base 5 i0 (.int .u8 0) 1 1 underlying30 hi0 hz0 hz1 hz2 rfl jd v n xs rfl (Hown.out.alloc _) ⟨w.heap.size,0,none⟩ 3 3 [.int .u8 239,.int .u8 191,.int .u8 189] rfl rfl (zy (cs:=#[.int .u8 239,.int .u8 191,.int .u8 189]) (t:=5) (fr:=(0,0)) (vI w _)) jt jx jo jm ?_;intro v' w3 hown3 hg3 _))
  go_ret;exact fD Hown.out hown3 hg3 fin.out
 ·have h':¬r<0:=jo;go_enter func203,ntmps203
  go_wp2_with (first
   | (refine vH (o:=⟨some 76,_,_,_,_,_⟩) _ rfl _ _ 30 rfl base 5 i0 (.int .u8 0) 1 1 underlying30 hi0 hz0 hz1 hz2 rfl jd v n xs rfl (Hown.out.alloc _) ⟨w.heap.size,0,none⟩ 3 3 [.int .u8 239,.int .u8 191,.int .u8 189] rfl rfl (zy (cs:=#[.int .u8 239,.int .u8 191,.int .u8 189]) (t:=5) (fr:=(0,0)) (vI w _)) jt jx jo jm ?_;intro v' w3 hown3 hg3 _))
  go_ret;exact fD Hown.out hown3 hg3 fin.out
 have h':¬r<0:=jo;have h'':¬1114111<r:=jo;have hh:bO r=true:=by simp only[bO,zo,zd];exact h
 clear h;go_enter func203,ntmps203
 go_wp2_with (first
  | (go_at_call 202;refine(dG _ _).mono ?_;rintro e w' ⟨rfl,rfl⟩)
  | (refine vH (o:=⟨some 76,_,_,_,_,_⟩) _ rfl _ _ 30 rfl base 5 i0 (.int .u8 0) 1 1 underlying30 hi0 hz0 hz1 hz2 rfl jd v n xs rfl (Hown.out.alloc _) ⟨w.heap.size,0,none⟩ 3 3 [.int .u8 239,.int .u8 191,.int .u8 189] rfl rfl (zy (cs:=#[.int .u8 239,.int .u8 191,.int .u8 189]) (t:=5) (fr:=(0,0)) (vI w _)) jt jx jo jm ?_;intro v' w3 hown3 hg3 _))
 go_ret;exact fD Hown.out hown3 hg3 fin.out
end Ut

namespace Ut
open Go.RowKit
set_option maxRecDepth 100000 in
theorem KJ(base n:Nat)(v:Value)(xs:List Value)(r:Nat)(h1:2048≤r)(h2:r<65536)(h3:¬(55296≤r∧r≤57343))(w:World)(hown:w.ownsRow base 5 1 v n xs)(hbase:base≤w.heap.size)(hn:n≤140737488000000) :
  Calls prog 203 #[v,.int .i64 ((r:Int))] w (dV w base n v xs (aG r)):=by
 obtain⟨i0,hi0,hz0,hz1,hz2⟩:=info_parts eX;have Hown:=zh hown;clear hown;have hhf:bO (r:Int)=false:=by simp only[bO,Bool.and_eq_false_iff,decide_eq_false_iff_not];omega
 have hx1:bits BinOp.or IntKind.u8 128 (bits BinOp.and IntKind.i64 ((r:Int)) 63%256)=128+(r:Int)%64:=kG r _ jo jo;have hx2:bits BinOp.or IntKind.u8 128 (bits BinOp.and IntKind.i64 ((r:Int)/64) 63%256)=128+(r:Int)/64%64:=kG (r/64) _ jo jo
 have fin:Hid ([.int .u8 (224+(r:Int)/4096),.int .u8 (128+(r:Int)/64%64),.int .u8 (128+(r:Int)%64)]=bv (aG r)∧3=(aG r).length):=by
  show _∧_;unfold aG;rw[zH jo,zH jo,zI jo];simp only[bv,List.map_cons,List.map_nil,zV,List.length_nil,and_true,zf,zQ,Value.int.injEq,true_and];refine⟨by rw[bi _ jo];omega,by rw[bi _ jo];omega,by rw[bi _ jo];omega⟩
 have g1:(2048:Int)≤(r:Int):=jo;have g2:(r:Int)≤65535:=jo;clear h1 h2 h3;go_enter func203,ntmps203
 go_wp2_with (first
  | (go_at_call 202;refine(dG _ _).mono ?_;rintro e w' ⟨rfl,rfl⟩)
  | (refine sU (o:=⟨some 60,_,_,_,_,_⟩) rfl _ _ _ _ rfl .i64 _ 65536 rfl rfl true (by rw[zd];omega) ?_)
  | (refine vH (o:=⟨some 76,_,_,_,_,_⟩) _ rfl _ _ 30 rfl base 5 i0 (.int .u8 0) 1 1 underlying30 hi0 hz0 hz1 hz2 rfl jd v n xs rfl (Hown.out.alloc _) ⟨w.heap.size,0,none⟩ 3 3 [.int .u8 (224+(r:Int)/4096),.int .u8 (128+(r:Int)/64%64),.int .u8 (128+(r:Int)%64)] rfl rfl (zy (cs:=[.int .u8 (224+(r:Int)/4096),.int .u8 (128+(r:Int)/64%64),.int .u8 (128+(r:Int)%64)].toArray) (t:=5) (fr:=(0,0)) (vI w _)) jt jx jo jm ?_;intro v' w3 hown3 hg3 _))
 go_ret;exact fD Hown.out hown3 hg3 fin.out
set_option maxRecDepth 100000 in
theorem KL(base n:Nat)(v:Value)(xs:List Value)(r:Nat)(h1:65536≤r)(h2:r≤1114111)(w:World)(hown:w.ownsRow base 5 1 v n xs)(hbase:base≤w.heap.size)(hn:n≤140737488000000) :
  Calls prog 203 #[v,.int .i64 ((r:Int))] w (dV w base n v xs (aG r)):=by
 obtain⟨i0,hi0,hz0,hz1,hz2⟩:=info_parts eX;have Hown:=zh hown;clear hown;have hhf:bO (r:Int)=false:=by simp only[bO,Bool.and_eq_false_iff,decide_eq_false_iff_not];omega
 have hx1:bits BinOp.or IntKind.u8 128 (bits BinOp.and IntKind.i64 ((r:Int)) 63%256)=128+(r:Int)%64:=kG r _ jo jo;have hx2:bits BinOp.or IntKind.u8 128 (bits BinOp.and IntKind.i64 ((r:Int)/64) 63%256)=128+(r:Int)/64%64:=kG (r/64) _ jo jo;have hx3:bits BinOp.or IntKind.u8 128 (bits BinOp.and IntKind.i64 ((r:Int)/4096) 63%256)=128+(r:Int)/4096%64:=kG (r/4096) _ jo jo
 have fin:Hid ([.int .u8 (240+(r:Int)/262144),.int .u8 (128+(r:Int)/4096%64),.int .u8 (128+(r:Int)/64%64),.int .u8 (128+(r:Int)%64)]=bv (aG r)∧4=(aG r).length):=by
  show _∧_;unfold aG;rw[zH jo,zH jo,zH jo];simp only[bv,List.map_cons,List.map_nil,zV,List.length_nil,and_true,zf,zQ,Value.int.injEq,true_and];refine⟨by rw[bi _ jo];omega,by rw[bi _ jo];omega,by rw[bi _ jo];omega,by rw[bi _ jo];omega⟩
 have g1:(65535:Int)<(r:Int):=jo;have g2:(r:Int)≤1114111:=jo;clear h1 h2;go_enter func203,ntmps203
 go_wp2_with (first
  | (go_at_call 202;refine(dG _ _).mono ?_;rintro e w' ⟨rfl,rfl⟩)
  | (refine sU (o:=⟨some 60,_,_,_,_,_⟩) rfl _ _ _ _ rfl .i64 _ 65536 rfl rfl false (by rw[decide_eq_false_iff_not];omega) ?_)
  | (refine vH (o:=⟨some 35,_,_,_,_,_⟩) _ rfl _ _ 30 rfl base 5 i0 (.int .u8 0) 1 1 underlying30 hi0 hz0 hz1 hz2 rfl jd v n xs rfl (Hown.out.alloc _) ⟨w.heap.size,0,none⟩ 4 4 [.int .u8 (240+(r:Int)/262144),.int .u8 (128+(r:Int)/4096%64),.int .u8 (128+(r:Int)/64%64),.int .u8 (128+(r:Int)%64)] rfl rfl (zy (cs:=[.int .u8 (240+(r:Int)/262144),.int .u8 (128+(r:Int)/4096%64),.int .u8 (128+(r:Int)/64%64),.int .u8 (128+(r:Int)%64)].toArray) (t:=5) (fr:=(0,0)) (vI w _)) jt jx jo jm ?_;intro v' w3 hown3 hg3 _))
 go_ret;exact fD Hown.out hown3 hg3 fin.out
theorem qG(base n:Nat)(v:Value)(xs:List Value)(r:Int)(w:World)(hown:w.ownsRow base 5 1 v n xs)(hbase:base≤w.heap.size)(hn:n≤140737488000000) :
  Calls prog 203 #[v,.int .i64 r] w (dV w base n v xs (enc r)):=by
 unfold enc fix;by_cases h:r<0∨1114111<r∨(55296≤r∧r≤57343)
 ·rw[zI h];exact Gu base n v xs r h w hown hbase hn
 rw[zH h];obtain⟨k,rfl⟩:=Int.eq_ofNat_of_zero_le (show 0≤r by omega);rw[Int.toNat_natCast];by_cases h1:k<128
 ·exact KH base n v xs k h1 w hown hbase hn
 by_cases h2:k<2048
 ·exact KI base n v xs k jo h2 w hown hbase hn
 by_cases h3:k<65536
 ·exact KJ base n v xs k jo h3 jo w hown hbase hn
 exact KL base n v xs k jo jo w hown hbase hn
end Ut

namespace Ut
open Go.RowKit
def str(l:List UInt8):ByteArray:=⟨l.toArray⟩
theorem bE(l:List UInt8):(str l).data.toList=l:=by simp[str]
theorem iZ(l:List UInt8):(str l).size=l.length:=by rw[←aB,bE]
theorem fE(s:ByteArray):str s.data.toList=s:=by
 obtain⟨d⟩:=s;simp[str]
theorem uq{P:Program}{w:World}{base:Nat}{tb ts tu:TypeId}{v:Value}{n:Nat}{l:List UInt8}(h:w.ownsRow base tu 1 v n (bv l))(hs:P.underlying tb=some (.slice tu))(he:P.underlying tu=some (.int .u8))(hd:P.underlying ts=some .string) :
  (convert tb ts v).run P w=.ok (.string (str l)) w:=by
 have hl:l.length=n:=by have:=h.1;simpa[bv]using this
 rcases h.2 with⟨rfl,rfl⟩|⟨g,cap,cur,rfl,hb,hg,hnc,hcm,hcs,htake⟩
 ·have:l=[]:=List.eq_nil_of_length_eq_zero hl;subst this;rw[run_convert_bytes_nil w tb tu hs he 0 0 ts hd];rfl
 subst hl
 exact run_convert_bytes_back w tb ts tu ⟨g,0,none⟩ cap l hs he hd fun j hj=>by
  have:=h.cells (g:=g) rfl j (.int .u8 ((l[j]).toNat:Int)) (by simp[bv,zU hj]);exact this
structure Putting (w wr:World) (v:Value) (rs:List Int):Prop where
 own:wr.ownsRow w.heap.size 5 1 v (bQ rs).length (bv (bQ rs))
 bel:zWW w wr
theorem Putting.start(w:World):Putting w w (.slice none 0 0) []:=⟨vM _ _ _ _,zw _ _⟩
theorem Putting.below{w wr w2:World}{v:Value}{rs:List Int}(h:Putting w wr v rs)(hb:zWW wr w2):Putting w w2 v rs:=
 ⟨h.own.kept (aJ hb none) (by cases hv:v.ownBlock<;>simp),h.bel.trans (hb.mono h.bel.size)⟩
theorem Putting.put{w wr w2:World}{v v':Value}{rs:List Int}{r:Int}(h:Putting w wr v rs)
  (hp:w2.ownsRow w.heap.size 5 1 v' ((bQ rs).length+(enc r).length) (bv (bQ rs)++bv (enc r))) (hg:wr.grownBy w2 v.ownBlock):Putting w w2 v' (rs ++ [r]):=by
 refine⟨?_,h.bel.grown hg h.bel.size (fun k hk=>(h.own.lt k hk).1)⟩;rw[Al,zJ,Cy];exact hp
theorem li(A:Option Addr)(n c:Nat)(rs:List Int)(w:World)(hR:Reads w w.heap.size 1 A n (rs.map (Value.int .i64)))(hn:n≤35000000000000) :
  Calls prog 183 #[.slice A n c] w fun e w'=>e=.returned (.string (str (bQ rs)))∧zWW w w':=by
 have hlen:rs.length=n:=by have:=hR.1;simpa using this
 have HR:=zh hR;have Hl:=zh hlen;have St:=zh (Putting.start w);clear hR hlen;go_enter func183,ntmps183;go_wp2;go_loopw [3,8] (fun v i wr=>∃k:Nat,k≤n∧i=.int .i64 k∧Putting w wr v (rs.take k)) (fun _ i _=>n-(intOf i).toNat)
 case atStart=>exact⟨0,zS _,rfl,St.out⟩
 obtain⟨k,hk,rfl,hp⟩:=hrel;have hel:=sV (rs.take k);have htl:(rs.take k).length≤n:=jw;by_cases hlt:k<n
 ·obtain⟨ab,ao,hkl,rfl,hab,hcw⟩:=HR.out.at_map hlt;have hcx:=(hp.bel.cell (p:=⟨ab,ao+k,none⟩) hab).trans hcw;have hts:rs.take (k+1)=rs.take k ++ [rs[k]]:=by rw[zL hkl]
  have Hts:=zh hts;have c1:=qG w.heap.size _ u3 _ rs[k] wr hp.own hp.bel.size jo;have Hp:=zh hp;clear hts hcw hp;generalize rs[k]=r at *;go_wp2_with fail;refine c1.mono ?_;rintro e w2 ⟨v',rfl,hown2,hg2⟩;have Hp2:=zh (Hp.out.put hown2 hg2);clear hown2 hg2;go_wp2;go_roundw
  case rel=>exact⟨k+1,jo,ju,by rw[Hts.out];exact Hp2.out⟩
  simp[intOf];omega
 have hall:rs.take k=rs:=zR (by rw[Hl.out];omega);have hcv:=uq (P:=prog) (tb:=30) (ts:=9) hp.own underlying30 underlying5 underlying9;have Hall:=zh hall;have Hb:=zh hp.bel;clear hall hp hel htl;go_wp2;go_ret;exact⟨by rw[Hall.out];rfl,Hb.out⟩
end Ut

namespace Ut
open Go.RowKit
theorem G8(s:ByteArray)(p n:Nat)(w:World)(h:s.size≤p):Calls prog 217 #[.string s,.int .i64 (p:Int),.int .i64 (n:Int)] w fun e w'=>e=.returned (.tuple #[.int .i64 0,.bool false])∧w=w':=by
 have h1:(s.size:Int)≤(p:Int):=jo;go_enter func217,ntmps217;go_wp2;go_ret2;exact⟨rfl,rfl⟩
theorem Eo(s:ByteArray)(p n m:Nat)(w:World)(h:p<s.size)(hm:(s[p]).toNat=m)(hc:¬m/64=2)(h256:m<256):Calls prog 217 #[.string s,.int .i64 (p:Int),.int .i64 (n:Int)] w fun e w'=>e=.returned (.tuple #[.int .i64 0,.bool false])∧w=w':=by
 have h1:¬(s.size:Int)≤(p:Int):=jo;have h2:¬((m:Int)/64=2):=jo;go_enter func217,ntmps217;go_wp2;go_ret2;exact⟨rfl,rfl⟩
theorem Ep(s:ByteArray)(p n m:Nat)(w:World)(h:p<s.size)(hm:(s[p]).toNat=m)(hc:m/64=2)(h256:m<256)(hn:n<1000000000):Calls prog 217 #[.string s,.int .i64 (p:Int),.int .i64 (n:Int)] w fun e w'=>e=.returned (.tuple #[.int .i64 ((n*64+m%64:Nat):Int),.bool true])∧w=w':=by
 have h1:¬(s.size:Int)≤(p:Int):=jo;have h2:((m:Int)/64=2):=jo;go_enter func217,ntmps217;go_wp2;go_ret2;exact⟨ju,rfl⟩
theorem lo1(r:Int)(h:(65≤r∧r≤90)∨(192≤r∧r≤222∧r≠215)∨(913≤r∧r≤939∧r≠930)∨(1040≤r∧r≤1071)):r+32=lower r:=by unfold lower;rw[zI h]
theorem lo2(r:Int)(h:1024≤r∧r≤1039):r+80=lower r:=by unfold lower;rw[zH (by omega),zI h]
theorem lo3(r:Int)(h:¬((65≤r∧r≤90)∨(192≤r∧r≤222∧r≠215)∨(913≤r∧r≤939∧r≠930)∨(1040≤r∧r≤1071)))(h2:¬(1024≤r∧r≤1039)):r=lower r:=by unfold lower;rw[zH h,zH h2]
theorem DT(r:Int)(w:World):Calls prog 207 #[.int .i64 r] w fun e w'=>e=.returned (.int .i64 (lower r))∧w=w':=by
 go_enter func207,ntmps207;go_wp2
 all_goals
  go_ret;refine⟨congrArg (fun x=>Ending.returned (Value.int .i64 x)) ?_,rfl⟩;try simp only[bne_iff_ne,ne_eq,bne_eq_false_iff_eq]at *
  first|exact lo1 r jo|exact lo2 r jo|exact lo3 r jo jo
def cL(t:List UInt8)(k:Nat):Bool:=decide (k-1≤t.length)&&(t.take (k-1)).all ax
def df(m:Nat)(t:List UInt8)(k:Nat):Nat:=if cL t k then acc m (t.take (k-1))else 0
theorem Er(s:ByteArray)(p n:Nat)(w:World)(hn:n<1000000000):Calls prog 217 #[.string s,.int .i64 (p:Int),.int .i64 (n:Int)] w fun e w'=>w=w' ∧
  ((∃h:p<s.size,ax s[p]=true∧e=.returned (.tuple #[.int .i64 ((n*64+(s[p]).toNat%64:Nat):Int),.bool true]))∨(¬(∃h:p<s.size,ax s[p]=true)∧e=.returned (.tuple #[.int .i64 0,.bool false]))):=by
 by_cases h:p<s.size
 ·have h256:=(s[p]).toNat_lt;by_cases hc:(s[p]).toNat/64=2
  ·refine(Ep s p n _ w h rfl hc h256 hn).mono ?_;rintro e w' ⟨rfl,rfl⟩;exact⟨rfl,Or.inl ⟨h,by simp[ax,hc],rfl⟩⟩
  refine(Eo s p n _ w h rfl hc h256).mono ?_;rintro e w' ⟨rfl,rfl⟩;exact⟨rfl,Or.inr ⟨fun⟨h',h2⟩=>hc (by simpa[ax]using h2),rfl⟩⟩
 refine(G8 s p n w jo).mono ?_;rintro e w' ⟨rfl,rfl⟩;exact⟨rfl,Or.inr ⟨fun⟨h',_⟩=>h h',rfl⟩⟩
theorem wm(s:ByteArray)(k j:Nat)(hj:1≤j)(h:k+j<s.size):(s.data.toList.drop (k+1)).take j=(s.data.toList.drop (k+1)).take (j-1) ++ [s[k+j]]:=by
 obtain⟨i,rfl⟩:∃i,j=i+1:=⟨j-1,jo⟩;have hl:i<(s.data.toList.drop (k+1)).length:=by rw[zP,aB];omega
 rw[zL hl,Nat.add_sub_cancel];congr 2;rw[List.getElem_drop,Array.getElem_toList];have:k+1+i=k+(i+1):=jo;simp only[this];rfl
theorem Es(s:ByteArray)(k j m:Nat)(hj:1≤j)(h:k+j<s.size)(hc:ax s[k+j]=true)(hok:cL (s.data.toList.drop (k+1)) j=true) :
  cL (s.data.toList.drop (k+1)) (j+1)=true∧acc m ((s.data.toList.drop (k+1)).take j)=acc m ((s.data.toList.drop (k+1)).take (j-1))*64+(s[k+j]).toNat%64:=by
 have ht:=wm s k j hj h;refine⟨?_,by rw[ht,mE]⟩;simp only[cL,zo,zd,Nat.add_sub_cancel]at hok ⊢;refine⟨by rw[zP,aB];omega,?_⟩;rw[ht,List.all_append,hok.2];simp[hc]
theorem Et(s:ByteArray)(k j z:Nat)(hj:1≤j)(hz:j<z)(hno:¬ ∃h:k+j<s.size,ax s[k+j]=true):cL (s.data.toList.drop (k+1)) z=false:=by
 cases hr:cL (s.data.toList.drop (k+1)) z with
 | false=>rfl
 | true=>
  exfalso;simp only[cL,zo,zd]at hr;have hl:=hr.1;rw[zP,aB]at hl;have h:k+j<s.size:=jo;refine hno ⟨h,List.all_eq_true.1 hr.2 _ ?_⟩;have ht:=wm s k j hj h;have:s[k+j]∈(s.data.toList.drop (k+1)).take j:=by rw[ht];simp
  exact(List.take_subset_take_left _ jo) this
theorem qH(s:ByteArray)(k m z:Nat)(w:World)(hk:k<s.size)(hs:s.size≤140737488351232)(hm:m<32)(hz:1≤z)(hz4:z≤4):Calls prog 213 #[.string s,.int .i64 (k:Int),.int .i64 (m:Int),.int .i64 (z:Int)] w fun e w'=>e=.returned (.tuple #[.int .i64 (df m (s.data.toList.drop (k+1)) z:Nat),.bool (cL (s.data.toList.drop (k+1)) z)])∧w=w':=by
 have r0:cL (s.data.toList.drop (k+1)) 1=true:=by simp[cL]
 have R0:=zh r0;have hyes:=fun(j:Nat) (hj:1≤j) (h:k+j<s.size) (hc:ax s[k+j]=true) (hok:cL (s.data.toList.drop (k+1)) j=true)=>Es s k j m hj h hc hok
 have hno:=fun(j:Nat) (hj:1≤j) (hz:j<z) (h:¬ ∃h:k+j<s.size,ax s[k+j]=true)=>Et s k j z hj hz h
 have hlt:=fun(j:Nat) (hj:j≤4)=>ic m ((s.data.toList.drop (k+1)).take (j-1)) hm jw
 have hof:df m (s.data.toList.drop (k+1)) z=if cL (s.data.toList.drop (k+1)) z then acc m ((s.data.toList.drop (k+1)).take (z-1))else 0:=rfl;have Hof:=zh hof;have Hyes:=zh hyes;have Hno:=zh hno;have Hlt:=zh hlt;clear r0 hyes hno hlt hof;go_enter func213,ntmps213;go_wp2
 go_loopw [2,10] (fun n i wr=>∃j:Nat,1≤j∧j≤z∧i=.int .i64 j∧n=.int .i64 (acc m ((s.data.toList.drop (k+1)).take (j-1)):Nat)∧Hid (cL (s.data.toList.drop (k+1)) j=true)∧wr=w)
  (fun _ i _=>z-(intOf i).toNat)
 case atStart=>exact⟨1,jo,jo,rfl,rfl,R0,rfl⟩
 obtain⟨j,hj1,hjz,rfl,rfl,Hok,rfl⟩:=hrel;by_cases hjl:j<z
 ·have hal:=Hlt.out j jo;have c:=Er s (k+j) (acc m ((s.data.toList.drop (k+1)).take (j-1))) wr jo;have Hst:=zh (Hno.out j hj1 hjl);have Hgo:=zh (fun h hc=>(Hyes.out j hj1 h hc Hok.out));generalize acc m ((s.data.toList.drop (k+1)).take (j-1))=a at *;go_wp2_with fail;refine c.mono ?_;rintro e w' ⟨rfl,h⟩;rcases h with⟨h,hc,rfl⟩|⟨h,rfl⟩
  ·have Hg:=zh (Hgo.out h hc);clear hc Hgo Hst;go_wp2;go_roundw
   case rel=>exact⟨j+1,jo,jo,ju,by rw[Nat.add_sub_cancel,Hg.out.2];go_num,zh Hg.out.1,trivial⟩
   simp[intOf];omega
  have Hg:=zh (Hst.out h);clear h Hgo Hst;go_wp2;go_ret2;exact⟨by rw[Hof.out,Hg.out];rfl,rfl⟩
 obtain rfl:j=z:=jo;generalize hac:acc m ((s.data.toList.drop (k+1)).take (j-1))=a at *;have Hac:=zh hac;clear hac;go_wp2;go_ret2;exact⟨by rw[Hof.out,Hok.out,zI rfl];rfl,rfl⟩
theorem Eu(m:Nat)(t:List UInt8)(k lo hi:Nat):dF m t k lo hi=(cL t k&&(decide (lo≤df m t k)&&(decide (df m t k≤hi) && !(decide (55296≤df m t k)&&decide (df m t k≤57343))))):=by
 unfold dF df
 cases h:cL t k with
 | true=>
  rw[zI rfl];unfold cL at h;rw[zo]at h;rw[h.1,h.2,Bool.true_and]
 | false=>
  rw[Bool.false_and];unfold cL at h;rw[←Bool.and_assoc,h,Bool.false_and]
theorem pQ(m:Nat)(t:List UInt8)(k lo hi a:Nat)(ok:Bool)(ha:df m t k=a)(ho:cL t k=ok) :
  (ok=true→lo≤a→a≤hi→¬(55296≤a∧a≤57343)→aR m t k lo hi=(a,k))∧((ok=false∨a<lo∨hi<a∨(55296≤a∧a≤57343))→aR m t k lo hi=(65533,1)):=by
 have hf:=Eu m t k lo hi;rw[ha,ho]at hf;refine⟨fun h1 h2 h3 h4=>?_,fun h=>?_⟩
 ·have hff:dF m t k lo hi=true:=by
   rw[hf];simp only[zo,zd,Bool.not_eq_true',Bool.and_eq_false_iff,decide_eq_false_iff_not];exact⟨h1,h2,h3,jo⟩
  unfold aR;rw[zI hff];have:df m t k=acc m (t.take (k-1)):=by unfold df;rw[zI (by rw[ho];exact h1)]
  rw[←ha,this]
 have hff:dF m t k lo hi=false:=by
  cases hx:dF m t k lo hi with
  | false=>rfl
  | true=>
   exfalso;rw[hf]at hx;simp only[zo,zd,Bool.not_eq_true',Bool.and_eq_false_iff,decide_eq_false_iff_not]at hx;obtain⟨x1,x2,x3,x4⟩:=hx;rcases h with h|h|h|h
   ·rw[h]at x1;cases x1
   ·omega
   ·omega
   omega
 unfold aR;rw[zH (by rw[hff];decide)]
theorem xu(m M:Nat)(t:List UInt8)(k:Nat)(hm:m<M)(hM:M≤32)(hk:1≤k)(hk4:k≤4):df m t k<M*64 ^ (k-1):=by
 unfold df
 split
 ·have hl:(t.take (k-1)).length≤k-1:=jw;have hp:0<64 ^ (k-1):=Nat.pow_pos jd
  have key:∀l:List UInt8,l.length≤k-1→acc m l<M*64 ^ (k-1):=by
   intro l hl;have h2:k-1=0∨k-1=1∨k-1=2∨k-1=3:=jo
   match l,hl with
   | [],_=>simp only[acc,List.foldl_nil];rcases h2 with h|h|h|h<;>rw[h]<;>omega
   | [a],hl=>simp only[acc,List.foldl_cons,List.foldl_nil];simp only[zV,List.length_nil]at hl;rcases h2 with h|h|h|h<;>rw[h]at hl ⊢ <;> omega
   | [a,b],hl=>simp only[acc,List.foldl_cons,List.foldl_nil];simp only[zV,List.length_nil]at hl;rcases h2 with h|h|h|h<;>rw[h]at hl ⊢ <;> omega
   | [a,b,c],hl=>simp only[acc,List.foldl_cons,List.foldl_nil];simp only[zV,List.length_nil]at hl;rcases h2 with h|h|h|h<;>rw[h]at hl ⊢ <;> omega
   | a::b::c::d::l,hl=>simp only[zV]at hl;omega
  exact key _ hl
 exact Nat.mul_pos jo (Nat.pow_pos jd)
end Ut

namespace Ut
open Go.RowKit
set_option maxRecDepth 20000 in
theorem JP(s:ByteArray)(k m:Nat)(w:World)(hk:k<s.size)(hs:s.size≤140737488351232)(hm:(s[k]).toNat=m)(h6:m/32=6) :
  Calls prog 205 #[.string s,.int .i64 (k:Int)] w fun e w'=>e=.returned (.tuple #[.int .i64 ((aR (m%32) (s.data.toList.drop (k+1)) 2 128 2047).1:Nat),.int .i64 ((aR (m%32) (s.data.toList.drop (k+1)) 2 128 2047).2:Nat)])∧w=w':=by
 have h0:¬(k:Int)<0:=jo;have h1:¬(s.size:Int)≤(k:Int):=jo;have h2:¬(m:Int)<128:=jo;have h3:(m:Int)/32=6:=jo;have h4:¬(m:Int)/16=14:=jo;have h5:¬(m:Int)/8=30:=jo;have c:=qH s k (m%32) 2 w hk hs jo jo jo;have hlt:=xu (m%32) 32 (s.data.toList.drop (k+1)) 2 jo jo jo jo;have hfo:=pQ (m%32) (s.data.toList.drop (k+1)) 2 128 2047 _ _ rfl rfl;rw[show ((m%32:Nat):Int)=(m:Int)%32 from by omega]at c;generalize aR (m%32) (s.data.toList.drop (k+1)) 2 128 2047=F at *;generalize df (m%32) (s.data.toList.drop (k+1)) 2=a at *;generalize cL (s.data.toList.drop (k+1)) 2=ok at *;clear h6;by_cases hcase:ok=true∧128≤a
 ·obtain⟨rfl,h128⟩:=hcase;have hF:=hfo.1 rfl h128 jo jo;subst hF;have h129:¬(a:Int)<128:=jo;clear hfo;go_enter func205,ntmps205;go_wp2_with fail;refine c.mono ?_;rintro e w1 ⟨rfl,rfl⟩;go_wp2;go_ret2;exact⟨rfl,rfl⟩
 have hF:=hfo.2 (by rcases Bool.eq_false_or_eq_true ok with h|h;(· exact Or.inr (Or.inl (by have:¬128≤a:=fun h'=>hcase ⟨h,h'⟩;omega)));exact Or.inl h);subst hF;clear hfo;rcases Bool.eq_false_or_eq_true ok with rfl|rfl
 ·have h129:(a:Int)<128:=by have:¬128≤a:=fun h'=>hcase ⟨rfl,h'⟩;omega
  clear hcase;go_enter func205,ntmps205;go_wp2_with fail;refine c.mono ?_;rintro e w1 ⟨rfl,rfl⟩;go_wp2;go_ret2;exact⟨rfl,rfl⟩
 clear hcase;go_enter func205,ntmps205;go_wp2_with fail;refine c.mono ?_;rintro e w1 ⟨rfl,rfl⟩;go_wp2;go_ret2;exact⟨rfl,rfl⟩
set_option maxRecDepth 20000 in
theorem JQ(s:ByteArray)(k m:Nat)(w:World)(hk:k<s.size)(hs:s.size≤140737488351232)(hm:(s[k]).toNat=m)(h6:m/16=14) :
  Calls prog 205 #[.string s,.int .i64 (k:Int)] w fun e w'=>e=.returned (.tuple #[.int .i64 ((aR (m%16) (s.data.toList.drop (k+1)) 3 2048 65535).1:Nat),.int .i64 ((aR (m%16) (s.data.toList.drop (k+1)) 3 2048 65535).2:Nat)])∧w=w':=by
 have h0:¬(k:Int)<0:=jo;have h1:¬(s.size:Int)≤(k:Int):=jo;have h2:¬(m:Int)<128:=jo;have h3:¬(m:Int)/32=6:=jo;have h4:(m:Int)/16=14:=jo;have h5:¬(m:Int)/8=30:=jo;have c:=qH s k (m%16) 3 w hk hs jo jo jo;have hlt:=xu (m%16) 16 (s.data.toList.drop (k+1)) 3 jo jo jo jo;have hfo:=pQ (m%16) (s.data.toList.drop (k+1)) 3 2048 65535 _ _ rfl rfl;rw[show ((m%16:Nat):Int)=(m:Int)%16 from by omega]at c;generalize aR (m%16) (s.data.toList.drop (k+1)) 3 2048 65535=F at *;generalize df (m%16) (s.data.toList.drop (k+1)) 3=a at *;generalize cL (s.data.toList.drop (k+1)) 3=ok at *;clear h6;have Hlt:Hid (a≤65535):=zh jo;clear hlt;rcases Bool.eq_false_or_eq_true ok with rfl|rfl
 ·by_cases g1:2048≤a
  ·have g1':¬(a:Int)<2048:=jo;by_cases g2:55296≤a
   ·by_cases g3:a≤57343
    ·have hF:=hfo.2 (Or.inr (Or.inr (Or.inr ⟨g2,g3⟩)));subst hF;have g2':¬(a:Int)<55296:=jo;have g3':¬(57343:Int)<a:=jo;clear hfo g1 g2 g3;try dsimp only
     generalize (a:Int)=z at *;go_enter func205,ntmps205;go_wp2_with fail;refine c.mono ?_;rintro e w1 ⟨rfl,rfl⟩;go_wp2;go_ret2;exact⟨rfl,rfl⟩
    have hF:=hfo.1 rfl g1 Hlt.out jo;subst hF;have g2':¬(a:Int)<55296:=jo;have g3':(57343:Int)<a:=jo;clear hfo g1 g2 g3;try dsimp only
    generalize (a:Int)=z at *;go_enter func205,ntmps205;go_wp2_with fail;refine c.mono ?_;rintro e w1 ⟨rfl,rfl⟩;go_wp2;go_ret2;exact⟨rfl,rfl⟩
   have hF:=hfo.1 rfl g1 Hlt.out jo;subst hF;have g2':(a:Int)<55296:=jo;clear hfo g1 g2;try dsimp only
   generalize (a:Int)=z at *;go_enter func205,ntmps205;go_wp2_with fail;refine c.mono ?_;rintro e w1 ⟨rfl,rfl⟩;go_wp2;go_ret2;exact⟨rfl,rfl⟩
  have hF:=hfo.2 (Or.inr (Or.inl jo));subst hF;have g1':(a:Int)<2048:=jo;clear hfo g1;try dsimp only
  generalize (a:Int)=z at *;go_enter func205,ntmps205;go_wp2_with fail;refine c.mono ?_;rintro e w1 ⟨rfl,rfl⟩;go_wp2;go_ret2;exact⟨rfl,rfl⟩
 have hF:=hfo.2 (Or.inl rfl);subst hF;clear hfo;try dsimp only
 generalize (a:Int)=z at *;go_enter func205,ntmps205;go_wp2_with fail;refine c.mono ?_;rintro e w1 ⟨rfl,rfl⟩;go_wp2;go_ret2;exact⟨rfl,rfl⟩
set_option maxRecDepth 20000 in
theorem JR(s:ByteArray)(k m:Nat)(w:World)(hk:k<s.size)(hs:s.size≤140737488351232)(hm:(s[k]).toNat=m)(h6:m/8=30) :
  Calls prog 205 #[.string s,.int .i64 (k:Int)] w fun e w'=>e=.returned (.tuple #[.int .i64 ((aR (m%8) (s.data.toList.drop (k+1)) 4 65536 1114111).1:Nat),.int .i64 ((aR (m%8) (s.data.toList.drop (k+1)) 4 65536 1114111).2:Nat)])∧w=w':=by
 have h0:¬(k:Int)<0:=jo;have h1:¬(s.size:Int)≤(k:Int):=jo;have h2:¬(m:Int)<128:=jo;have h3:¬(m:Int)/32=6:=jo;have h4:¬(m:Int)/16=14:=jo;have h5:(m:Int)/8=30:=jo;have c:=qH s k (m%8) 4 w hk hs jo jo jo;have hfo:=pQ (m%8) (s.data.toList.drop (k+1)) 4 65536 1114111 _ _ rfl rfl;rw[show ((m%8:Nat):Int)=(m:Int)%8 from by omega]at c;generalize aR (m%8) (s.data.toList.drop (k+1)) 4 65536 1114111=F at *;generalize df (m%8) (s.data.toList.drop (k+1)) 4=a at *;generalize cL (s.data.toList.drop (k+1)) 4=ok at *;clear h6;rcases Bool.eq_false_or_eq_true ok with rfl|rfl
 ·by_cases g1:65536≤a
  ·have g1':¬(a:Int)<65536:=jo;by_cases g2:a≤1114111
   ·have hF:=hfo.1 rfl g1 g2 jo;subst hF;have g2':¬(1114111:Int)<a:=jo;clear hfo g1 g2;try dsimp only
    generalize (a:Int)=z at *;go_enter func205,ntmps205;go_wp2_with fail;refine c.mono ?_;rintro e w1 ⟨rfl,rfl⟩;go_wp2;go_ret2;exact⟨rfl,rfl⟩
   have hF:=hfo.2 (Or.inr (Or.inr (Or.inl jo)));subst hF;have g2':(1114111:Int)<a:=jo;clear hfo g1 g2;try dsimp only
   generalize (a:Int)=z at *;go_enter func205,ntmps205;go_wp2_with fail;refine c.mono ?_;rintro e w1 ⟨rfl,rfl⟩;go_wp2;go_ret2;exact⟨rfl,rfl⟩
  have hF:=hfo.2 (Or.inr (Or.inl jo));subst hF;have g1':(a:Int)<65536:=jo;clear hfo g1;try dsimp only
  generalize (a:Int)=z at *;go_enter func205,ntmps205;go_wp2_with fail;refine c.mono ?_;rintro e w1 ⟨rfl,rfl⟩;go_wp2;go_ret2;exact⟨rfl,rfl⟩
 have hF:=hfo.2 (Or.inl rfl);subst hF;clear hfo;try dsimp only
 generalize (a:Int)=z at *;go_enter func205,ntmps205;go_wp2_with fail;refine c.mono ?_;rintro e w1 ⟨rfl,rfl⟩;go_wp2;go_ret2;exact⟨rfl,rfl⟩
theorem Ew(s:ByteArray)(a:Int)(w:World)(h:a<0∨(s.size:Int)≤a) :
  Calls prog 205 #[.string s,.int .i64 a] w fun e w'=>e=.returned (.tuple #[.int .i64 0,.int .i64 0])∧w=w':=by
 by_cases h0:a<0
 ·clear h;go_enter func205,ntmps205;go_wp2;go_ret2;exact⟨rfl,rfl⟩
 have h1:(s.size:Int)≤a:=jo;clear h;go_enter func205,ntmps205;go_wp2;go_ret2;exact⟨rfl,rfl⟩
theorem Ex(s:ByteArray)(k m:Nat)(w:World)(hk:k<s.size)(hm:(s[k]).toNat=m)(h:m<128) :
  Calls prog 205 #[.string s,.int .i64 (k:Int)] w fun e w'=>e=.returned (.tuple #[.int .i64 (m:Int),.int .i64 1])∧w=w':=by
 have h0:¬(k:Int)<0:=jo;have h1:¬(s.size:Int)≤(k:Int):=jo;have h2:(m:Int)<128:=jo;go_enter func205,ntmps205;go_wp2;go_ret2;exact⟨rfl,rfl⟩
theorem DU(s:ByteArray)(k m:Nat)(w:World)(hk:k<s.size)(hm:(s[k]).toNat=m)(h128:128≤m)(h256:m<256)(h6:¬m/32=6)(h14:¬m/16=14)(h30:¬m/8=30) :
  Calls prog 205 #[.string s,.int .i64 (k:Int)] w fun e w'=>e=.returned (.tuple #[.int .i64 65533,.int .i64 1])∧w=w':=by
 have h0:¬(k:Int)<0:=jo;have h1:¬(s.size:Int)≤(k:Int):=jo;have h2:¬(m:Int)<128:=jo;have h3:¬(m:Int)/32=6:=jo;have h4:¬(m:Int)/16=14:=jo;have h5:¬(m:Int)/8=30:=jo;go_enter func205,ntmps205;go_wp2;go_ret2;exact⟨rfl,rfl⟩
theorem Ey(s:ByteArray)(a:Int)(w:World)(hs:s.size≤140737488351232) :
  Calls prog 205 #[.string s,.int .i64 a] w fun e w'=>e=.returned (.tuple #[.int .i64 ((eM s a).1:Nat),.int .i64 ((eM s a).2:Nat)])∧w=w':=by
 by_cases h:a<0∨(s.size:Int)≤a
 ·have e:eM s a=(0,0):=by
   unfold eM;by_cases h0:a<0
   ·rw[zI h0]
   rw[zH h0,mG s a.toNat jo];rfl
  rw[e];exact Ew s a w h
 obtain⟨k,rfl⟩:=Int.eq_ofNat_of_zero_le (show 0≤a by omega);have hk:k<s.size:=jo
 have e:eM s (k:Int)=dec (s[k]::s.data.toList.drop (k+1)):=by
  unfold eM;rw[zH jo,Int.toNat_natCast,l4 s k hk]
 rw[e,mF];by_cases h1:(s[k]).toNat<128
 ·rw[zI h1];exact Ex s k _ w hk rfl h1
 rw[zH h1];by_cases h2:(s[k]).toNat/32=6
 ·rw[zI h2];exact JP s k _ w hk hs rfl h2
 rw[zH h2];by_cases h3:(s[k]).toNat/16=14
 ·rw[zI h3];exact JQ s k _ w hk hs rfl h3
 rw[zH h3];by_cases h4:(s[k]).toNat/8=30
 ·rw[zI h4];exact JR s k _ w hk hs rfl h4
 rw[zH h4];exact DU s k _ w hk rfl jo (s[k]).toNat_lt h2 h3 h4
end Ut
end Go.Proofs.YtmomjpolkkbhnaaGreat
