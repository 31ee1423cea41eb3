/- utf.put at every rune. -/
import Derived.Test.YtmomjpolkkbhnaaGreatQModelRunsRow5
set_option maxRecDepth 20000
set_option maxHeartbeats 100000000
set_option linter.unusedSimpArgs false
open Go.Proofs.Tryz
namespace Go.Proofs.YtmomjpolkkbhnaaGreat
namespace Ut
open Go.RowKit
set_option maxRecDepth 100000 in
theorem Nh(base n:Nat)(v:Value)(xs:List Value)(r:Nat)(h1:2048≤r)(h2:r<65536)(h3:¬(55296≤r∧r≤57343))(w:World)(hown:w.ownsRow base 5 1 v n xs)(hbase:base≤w.heap.size)(hn:n≤140737488000000) :
  Calls prog 203 #[v,.int .i64 ((r:Int))] w (kC w base n v xs (fE r)):=by
 obtain⟨g,a,b,c,d⟩:=info_parts ku;have Hown:=zh hown;clear hown;have i:gX (r:Int)=false:=by simp only[gX,Bool.and_eq_false_iff,decide_eq_false_iff_not];omega
 have h:bits BinOp.or IntKind.u8 128 (bits BinOp.and IntKind.i64 ((r:Int)) 63%256)=128+(r:Int)%64:=ou r _ jo jo;have j:bits BinOp.or IntKind.u8 128 (bits BinOp.and IntKind.i64 ((r:Int)/64) 63%256)=128+(r:Int)/64%64:=ou (r/64) _ jo jo
 have f:Hid ([.int .u8 (224+(r:Int)/4096),.int .u8 (128+(r:Int)/64%64),.int .u8 (128+(r:Int)%64)]=bv (fE r)∧3=(fE r).length):=by
  show _∧_;unfold fE;rw[zH jo,zH jo,zI jo];simp only[bv,List.map_cons,List.map_nil,zV,List.length_nil,and_true,zi,zQ,Value.int.injEq,true_and];refine⟨by rw[iH _ jo];omega,by rw[iH _ jo];omega,by rw[iH _ jo];omega⟩
 have l:(2048:Int)≤(r:Int):=jo;have k:(r:Int)≤65535:=jo;clear h1 h2 h3;go_enter func203,ntmps203
 go_wp2_with (first
  | (go_at_call 202;refine(iz _ _).mono ?_;rintro e m ⟨rfl,rfl⟩)
  | (refine yE (o:=⟨some 60,_,_,_,_,_⟩) rfl _ _ _ _ rfl .i64 _ 65536 rfl rfl true (by rw[zg];omega) ?_)
  | (refine vJ (o:=⟨some 76,_,_,_,_,_⟩) _ rfl _ _ 30 rfl base 5 g (.int .u8 0) 1 1 underlying30 a b c d rfl jd v n xs rfl (Hown.out.alloc _) ⟨w.heap.size,0,none⟩ 3 3 [.int .u8 (224+(r:Int)/4096),.int .u8 (128+(r:Int)/64%64),.int .u8 (128+(r:Int)%64)] rfl rfl (vH (cs:=[.int .u8 (224+(r:Int)/4096),.int .u8 (128+(r:Int)/64%64),.int .u8 (128+(r:Int)%64)].toArray) (t:=5) (fr:=(0,0)) (vK w _)) jt jx jo jm ?_;intro v' w3 hown3 hg3 _))
 go_ret;exact lI Hown.out hown3 hg3 f.out
set_option maxRecDepth 100000 in
theorem Ni(base n:Nat)(v:Value)(xs:List Value)(r:Nat)(h1:65536≤r)(h2:r≤1114111)(w:World)(hown:w.ownsRow base 5 1 v n xs)(hbase:base≤w.heap.size)(hn:n≤140737488000000) :
  Calls prog 203 #[v,.int .i64 ((r:Int))] w (kC w base n v xs (fE r)):=by
 obtain⟨g,a,b,c,d⟩:=info_parts ku;have Hown:=zh hown;clear hown;have i:gX (r:Int)=false:=by simp only[gX,Bool.and_eq_false_iff,decide_eq_false_iff_not];omega
 have h:bits BinOp.or IntKind.u8 128 (bits BinOp.and IntKind.i64 ((r:Int)) 63%256)=128+(r:Int)%64:=ou r _ jo jo;have j:bits BinOp.or IntKind.u8 128 (bits BinOp.and IntKind.i64 ((r:Int)/64) 63%256)=128+(r:Int)/64%64:=ou (r/64) _ jo jo;have k:bits BinOp.or IntKind.u8 128 (bits BinOp.and IntKind.i64 ((r:Int)/4096) 63%256)=128+(r:Int)/4096%64:=ou (r/4096) _ jo jo
 have f:Hid ([.int .u8 (240+(r:Int)/262144),.int .u8 (128+(r:Int)/4096%64),.int .u8 (128+(r:Int)/64%64),.int .u8 (128+(r:Int)%64)]=bv (fE r)∧4=(fE r).length):=by
  show _∧_;unfold fE;rw[zH jo,zH jo,zH jo];simp only[bv,List.map_cons,List.map_nil,zV,List.length_nil,and_true,zi,zQ,Value.int.injEq,true_and];refine⟨by rw[iH _ jo];omega,by rw[iH _ jo];omega,by rw[iH _ jo];omega,by rw[iH _ jo];omega⟩
 have m:(65535:Int)<(r:Int):=jo;have l:(r:Int)≤1114111:=jo;clear h1 h2;go_enter func203,ntmps203
 go_wp2_with (first
  | (go_at_call 202;refine(iz _ _).mono ?_;rintro e p ⟨rfl,rfl⟩)
  | (refine yE (o:=⟨some 60,_,_,_,_,_⟩) rfl _ _ _ _ rfl .i64 _ 65536 rfl rfl false (by rw[decide_eq_false_iff_not];omega) ?_)
  | (refine vJ (o:=⟨some 35,_,_,_,_,_⟩) _ rfl _ _ 30 rfl base 5 g (.int .u8 0) 1 1 underlying30 a b c d rfl jd v n xs rfl (Hown.out.alloc _) ⟨w.heap.size,0,none⟩ 4 4 [.int .u8 (240+(r:Int)/262144),.int .u8 (128+(r:Int)/4096%64),.int .u8 (128+(r:Int)/64%64),.int .u8 (128+(r:Int)%64)] rfl rfl (vH (cs:=[.int .u8 (240+(r:Int)/262144),.int .u8 (128+(r:Int)/4096%64),.int .u8 (128+(r:Int)/64%64),.int .u8 (128+(r:Int)%64)].toArray) (t:=5) (fr:=(0,0)) (vK w _)) jt jx jo jm ?_;intro v' w3 hown3 hg3 _))
 go_ret;exact lI Hown.out hown3 hg3 f.out
theorem uw(base n:Nat)(v:Value)(xs:List Value)(r:Int)(w:World)(hown:w.ownsRow base 5 1 v n xs)(hbase:base≤w.heap.size)(hn:n≤140737488000000) :
  Calls prog 203 #[v,.int .i64 r] w (kC w base n v xs (enc r)):=by
 unfold enc fix;by_cases h:r<0∨1114111<r∨(55296≤r∧r≤57343)
 ·rw[zI h];exact Kj base n v xs r h w hown hbase hn
 rw[zH h];obtain⟨k,rfl⟩:=Int.eq_ofNat_of_zero_le (show 0≤r by omega);rw[Int.toNat_natCast];by_cases b:k<128
 ·exact Nf base n v xs k b w hown hbase hn
 by_cases c:k<2048
 ·exact Ng base n v xs k jo c w hown hbase hn
 by_cases a:k<65536
 ·exact Nh base n v xs k jo a jo w hown hbase hn
 exact Ni base n v xs k jo jo w hown hbase hn
end Ut

namespace Ut
open Go.RowKit
def str(l:List UInt8):ByteArray:=⟨l.toArray⟩
theorem gM(l:List UInt8):(str l).data.toList=l:=by simp[str]
theorem ni(l:List UInt8):(str l).size=l.length:=by rw[←fB,gM]
theorem kQ(s:ByteArray):str s.data.toList=s:=by
 obtain⟨d⟩:=s;simp[str]
theorem Am{P:Program}{w:World}{base:Nat}{tb ts tu:TypeId}{v:Value}{n:Nat}{l:List UInt8}(h:w.ownsRow base tu 1 v n (bv l))(hs:P.underlying tb=some (.slice tu))(he:P.underlying tu=some (.int .u8))(hd:P.underlying ts=some .string) :
  (convert tb ts v).run P w=.ok (.string (str l)) w:=by
 have c:l.length=n:=by have:=h.1;simpa[bv]using this
 rcases h.2 with⟨rfl,rfl⟩|⟨g,a,d,rfl,o,m,e,f,k,b⟩
 ·have:l=[]:=List.eq_nil_of_length_eq_zero c;subst this;rw[run_convert_bytes_nil w tb tu hs he 0 0 ts hd];rfl
 subst c
 exact run_convert_bytes_back w tb ts tu ⟨g,0,none⟩ a l hs he hd fun j i=>by
  have:=h.cells (g:=g) rfl j (.int .u8 ((l[j]).toNat:Int)) (by simp[bv,zU i]);exact this
structure Putting (w wr:World) (v:Value) (rs:List Int):Prop where
 own:wr.ownsRow w.heap.size 5 1 v (gh rs).length (bv (gh rs))
 bel:zWW w wr
theorem Putting.start(w:World):Putting w w (.slice none 0 0) []:=⟨vO _ _ _ _,zy _ _⟩
theorem Putting.below{w wr w2:World}{v:Value}{rs:List Int}(h:Putting w wr v rs)(hb:zWW wr w2):Putting w w2 v rs:=
 ⟨h.own.kept (fH hb none) (by cases hv:v.ownBlock<;>simp),h.bel.trans (hb.mono h.bel.size)⟩
theorem Putting.put{w wr w2:World}{v v':Value}{rs:List Int}{r:Int}(h:Putting w wr v rs)
  (hp:w2.ownsRow w.heap.size 5 1 v' ((gh rs).length+(enc r).length) (bv (gh rs)++bv (enc r))) (hg:wr.grownBy w2 v.ownBlock):Putting w w2 v' (rs ++ [r]):=by
 refine⟨?_,h.bel.grown hg h.bel.size (fun k a=>(h.own.lt k a).1)⟩;rw[Ea,zJ,GL];exact hp
theorem qa(A:Option Addr)(n c:Nat)(rs:List Int)(w:World)(hR:Reads w w.heap.size 1 A n (rs.map (Value.int .i64)))(hn:n≤35000000000000) :
  Calls prog 183 #[.slice A n c] w fun e w'=>e=.returned (.string (str (gh rs)))∧zWW w w':=by
 have f:rs.length=n:=by have:=hR.1;simpa using this
 have F:=zh hR;have u:=zh f;have B:=zh (Putting.start w);clear hR f;go_enter func183,ntmps183;go_wp2;go_loopw [3,8] (fun v i wr=>∃k:Nat,k≤n∧i=.int .i64 k∧Putting w wr v (rs.take k)) (fun _ i _=>n-(intOf i).toNat)
 case atStart=>exact⟨0,zS _,rfl,B.out⟩
 obtain⟨k,I,rfl,b⟩:=hrel;have s:=yF (rs.take k);have l:(rs.take k).length≤n:=jw;by_cases q:k<n
 ·obtain⟨y,x,o,rfl,t,h⟩:=F.out.at_map q;have C:=(b.bel.cell (p:=⟨y,x+k,none⟩) t).trans h;have j:rs.take (k+1)=rs.take k ++ [rs[k]]:=by rw[zL o]
  have Hts:=zh j;have z:=uw w.heap.size _ u3 _ rs[k] wr b.own b.bel.size jo;have D:=zh b;clear j h b;generalize rs[k]=r at *;go_wp2_with fail;refine z.mono ?_;rintro e J ⟨H,rfl,a,g⟩;have m:=zh (D.out.put a g);clear a g;go_wp2;go_roundw
  case rel=>exact⟨k+1,jo,ju,by rw[Hts.out];exact m.out⟩
  simp[intOf];omega
 have d:rs.take k=rs:=zR (by rw[u.out];omega);have G:=Am (P:=prog) (tb:=30) (ts:=9) b.own underlying30 underlying5 underlying9;have Hall:=zh d;have E:=zh b.bel;clear d b s l;go_wp2;go_ret;exact⟨by rw[Hall.out];rfl,E.out⟩
end Ut
end Go.Proofs.YtmomjpolkkbhnaaGreat
