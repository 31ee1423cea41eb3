/- Arguments that came in, opened to what the walks ask. -/
import Derived.ProofKit
import Derived.OpenShut
import Derived.ShutString
import Derived.ChangeOld
import Derived.SliceStrings
import Derived.SizedLaws
import Derived.Deep.QuietTactic
import Derived.BigQuiet
import Derived.Shelf.Strings.Builder1
import Derived.Test.YtmomjpolkkbhnaaGreatQModelCountsRow0
import Derived.Test.YtmomjpolkkbhnaaGreatQModelCountsRow8
set_option maxRecDepth 20000
set_option maxHeartbeats 100000000
set_option linter.unusedSimpArgs false
open Go.Proofs.Tryz
namespace Go.Proofs.YtmomjpolkkbhnaaGreat
section
open Go.RowKit Go.ChangeShapes Go.WideShapes Go.ChangeAt
section
variable {H:Type} {enc:TypeId × Value→H} {P:Program} {W:World} {base:Nat} {t e:TypeId} {v:Value} {d:DataW H} {p:List MemPlace}
theorem jC{ts:List TypeId}{ds:List (DataW H)}(h:(DataW.weightsEach P ts ds).all (·≤reachBytes)=true){j:Nat}(ht:ts[j]?=some t)(hd:ds[j]?=some d):∀n∈d.weights P t,n≤140737488351232:=by
 intro n hn;have:=List.all_eq_true.1 h _ (DataW.weights_mem_each ht hd n hn);have e:reachBytes=140737488351232:=jd;rw[←e]
 simpa using this
theorem rN{e:TypeId}{y:DataW H}:∀ {l:List (DataW H)},y∈l→∀n∈y.weights P e,n∈DataW.weightsAll P e l
 | [],h,_,_=>by cases h
 | x::l,h,n,hn=>by
  simp only[DataW.weightsAll,List.mem_append];rcases List.mem_cons.1 h with rfl|h
  ·exact Or.inl hn
  exact Or.inr (rN h n hn)
theorem AB{α:Type}(l:List α)(x:α)(n:Nat)(h:n≤l.length):(List.range n).map (fun i=>l.getD i x)=l.take n:=by
 apply List.ext_getElem
 ·simp;omega
 intro i h1 h2;simp at h1;simp[List.getD_eq_getElem?_getD,zU (show i<l.length by omega)]
theorem JG(ht:P.underlying t=some .string)(hv:Value.okWide P W .any base t v)(h:DataW.Trod enc P W 0 (fun _=>true) true t v d p)(hw:∀n∈d.weights P t,n≤140737488351232) :
  ∃s,v=.string s∧s.size≤140737488351232:=by
 obtain⟨s,rfl,rfl,rfl,hs⟩:=Go.ChangeMaps.open_string ht hv h;refine⟨s,rfl,?_⟩;have:=hw s.data.toList.length (by simp[DataW.weights])
 rwa[aB]at this
end
end

namespace Tk
open Go.RowKit Ut
def dW(a:List UInt8):List Nat→List UInt8
 | []=>a
 | r::t=>if 32<a.length+(enc (lower (r:Int))).length then a else dW (a++enc (lower (r:Int))) t
def ai(l:List Nat):List UInt8:=dW [] l
theorem iA(a:List UInt8)(r:Nat)(t:List Nat):dW a (r::t)=if 32<a.length+(enc (lower (r:Int))).length then a else dW (a++enc (lower (r:Int))) t:=rfl
theorem sW:∀(l:List Nat) (a:List UInt8),a.length≤32→(dW a l).length≤32
 | [],a,h=>h
 | r::t,a,h=>by
  rw[iA]
  split
  ·exact h
  exact sW t _ (by rw[zJ];omega)
theorem Ea(l:List Nat):(ai l).length≤32:=sW l [] (by simp)
def last(c:List Nat):List (List Nat):=if c=[]then[]else[c]
def bY(c:List Nat):List Nat→List (List Nat)
 | []=>last c
 | r::t=>if au (r:Int)then bY (c ++ [r]) t else last c++bY [] t
theorem gL(c:List Nat):bY c []=last c:=rfl
theorem ez(c:List Nat)(r:Nat)(t:List Nat):bY c (r::t)=if au (r:Int)then bY (c ++ [r]) t else last c++bY [] t:=rfl
theorem pJ:∀(l c:List Nat) (b:Nat),au (b:Int)=false→bY c (l ++ [b])=bY c l
 | [],c,b,h=>by
  rw[List.nil_append,ez,h,zH jd,gL,gL];simp[last]
 | r::t,c,b,h=>by
  rw[List.cons_append,ez,ez,pJ t _ b h,pJ t _ b h]
def words(s:List UInt8):List (List UInt8):=(bY [] (bT s)).map ai
end Tk

namespace Ut
open Go.RowKit
set_option maxRecDepth 100000 in
theorem Ct(s:ByteArray)(k m:Nat)(w:World)(hk:k<s.size)(hm:(s[k]).toNat=m)(h128:128≤m)(h256:m<256)(hq:m/32=6)(hs:s.size≤140737488351232) :
  Calls prog 181 #[.string s,.int .i64 (k:Int)] w fun e w'=>
   e=.returned (.tuple #[.int .i64 ((aR (m%32) (s.data.toList.drop (k+1)) 2 128 2047).1:Nat),.int .i64 ((aR (m%32) (s.data.toList.drop (k+1)) 2 128 2047).2:Nat)])∧zWW w w':=by
 have h0:¬(k:Int)<0:=jo;have h1:¬(s.size:Int)≤(k:Int):=jo;have h2:¬(m:Int)<128:=jo;have hm0:=nK m h256;have hm1:=nL m h256;have hm2:=nM m h256;rw[show decide (m/32=6)=true from by simp;omega]at hm0;rw[show decide (m/16=14)=false from by simp;omega]at hm1;rw[show decide (m/8=30)=false from by simp;omega]at hm2;simp only[Bool.not_true,Bool.not_false]at hm0 hm1 hm2;have i0:=mi;have i1:=mo;have i2:=mq;by_cases hlen:k+2≤s.size
 ·obtain⟨u,hus,hul,hsl⟩:∃u:ByteArray,u.size=1∧u.data.toList=(s.data.toList.drop (k+1)).take 1∧∀W:World,(Instr.slice 9 (.string s) (some (.int .i64 ((k:Int)+1))) (some (.int .i64 ((k:Int)+2))) none).run prog W=.ok (.string u) W:=qg s k 2 jo hlen;obtain⟨cap,C,fr,hconv,hC⟩:=lh (P:=prog) 9 30 5 u underlying9 underlying30 underlying5;have han:=KD m h256;rw[hus]at hconv;have Hul:=zh hul;have Hus:=zh hus;have HC:=zh hC;have Fin:=zh (qF (m%32) (s.data.toList.drop (k+1)) 2 128 2047 (by rw[zP,aB];omega));rw[show 2-1=1 from rfl,←hul]at Fin;clear hul hus hC;go_enter func181,ntmps181;go_wp2_with (go_at_call 201;refine(iV _).mono ?_;rintro e w1 ⟨rfl,hb1⟩);refine wp_loop_rounds 4 ?_;rw[rounds_succ];go_wp2_with fail
  have hb0:zWW w (((w1.alloc (.cells #[.int .i64 2,.int .u8 224,.int .u8 192,.int .i64 128,.int .i64 2047,.int .i64 (-1)] 243)).alloc (.cells (C (w1.alloc (.cells #[.int .i64 2,.int .u8 224,.int .u8 192,.int .i64 128,.int .i64 2047,.int .i64 (-1)] 243))) 5 (fr (w1.alloc (.cells #[.int .i64 2,.int .u8 224,.int .u8 192,.int .i64 128,.int .i64 2047,.int .i64 (-1)] 243))))).drew):=
   (((hb1).alloc (by have:=hb1.size;simp;omega) _).alloc (by have:=hb1.size;simp;omega) _).drew
  have hk0:Blk (((w1.alloc (.cells #[.int .i64 2,.int .u8 224,.int .u8 192,.int .i64 128,.int .i64 2047,.int .i64 (-1)] 243)).alloc (.cells (C (w1.alloc (.cells #[.int .i64 2,.int .u8 224,.int .u8 192,.int .i64 128,.int .i64 2047,.int .i64 (-1)] 243))) 5 (fr (w1.alloc (.cells #[.int .i64 2,.int .u8 224,.int .u8 192,.int .i64 128,.int .i64 2047,.int .i64 (-1)] 243))))).drew) (w1.heap.size) 243 #[.int .i64 2,.int .u8 224,.int .u8 192,.int .i64 128,.int .i64 2047,.int .i64 (-1)]:=by
   have:=((Blk.new w1 243 #[.int .i64 2,.int .u8 224,.int .u8 192,.int .i64 128,.int .i64 2047,.int .i64 (-1)]).alloc (.cells (C (w1.alloc (.cells #[.int .i64 2,.int .u8 224,.int .u8 192,.int .i64 128,.int .i64 2047,.int .i64 (-1)] 243))) 5 (fr (w1.alloc (.cells #[.int .i64 2,.int .u8 224,.int .u8 192,.int .i64 128,.int .i64 2047,.int .i64 (-1)] 243))))).drew
   simpa using this
  have hc0:∀(i:Nat) (h:i<u.size),(((w1.alloc (.cells #[.int .i64 2,.int .u8 224,.int .u8 192,.int .i64 128,.int .i64 2047,.int .i64 (-1)] 243)).alloc (.cells (C (w1.alloc (.cells #[.int .i64 2,.int .u8 224,.int .u8 192,.int .i64 128,.int .i64 2047,.int .i64 (-1)] 243))) 5 (fr (w1.alloc (.cells #[.int .i64 2,.int .u8 224,.int .u8 192,.int .i64 128,.int .i64 2047,.int .i64 (-1)] 243))))).drew).cell? ⟨w1.heap.size+1,i,none⟩=some (.int .u8 ((u[i]).toNat:Int)):=fun i h=>by
   have:=oZ w1 (.cells #[.int .i64 2,.int .u8 224,.int .u8 192,.int .i64 128,.int .i64 2047,.int .i64 (-1)] 243) (C (w1.alloc (.cells #[.int .i64 2,.int .u8 224,.int .u8 192,.int .i64 128,.int .i64 2047,.int .i64 (-1)] 243))) 5 (fr (w1.alloc (.cells #[.int .i64 2,.int .u8 224,.int .u8 192,.int .i64 128,.int .i64 2047,.int .i64 (-1)] 243))) i;have h2:=HC.out (w1.alloc (.cells #[.int .i64 2,.int .u8 224,.int .u8 192,.int .i64 128,.int .i64 2047,.int .i64 (-1)] 243)) i h;try simp only[vK]at this
   exact this.trans h2
  have Hb0:=zh hb0;have Hk0:=zh hk0;have Hc0:=zh hc0;clear hb0 hk0 hc0
  go_loopw [9,10,63] (fun r o i wr=>∃j:Nat,j≤1∧i=.int .i64 j∧r=.int .i64 (acc (m%32) (u.data.toList.take j):Nat)∧o=.bool ((u.data.toList.take j).all ax)∧zWW w wr∧Blk wr (w1.heap.size) 243 #[.int .i64 2,.int .u8 224,.int .u8 192,.int .i64 128,.int .i64 2047,.int .i64 (-1)] ∧
    ∀(i:Nat) (h:i<u.size),wr.cell? ⟨w1.heap.size+1,i,none⟩=some (.int .u8 ((u[i]).toNat:Int))) (fun _ _ i _=>1-(intOf i).toNat)
  case atStart=>exact⟨0,jo,rfl,by simp[qD],rfl,Hb0.out,Hk0.out,Hc0.out⟩
  obtain⟨j,hj,rfl,hr,ho,hb,hkb,hcl⟩:=hrel;by_cases hjn:j<1
  ·have hju:j<u.size:=by rw[Hus.out];exact hjn
   have hcx:=hcl j hju;have hx:=(u[j]).toNat_lt;have e63:=rF _ hx;have e192:=rC _ hx;have hts:=iU u j hju;have ha:=mE (m%32) (u.data.toList.take j) u[j];have hal:((u.data.toList.take j) ++ [u[j]]).all ax=((u.data.toList.take j).all ax&&(u[j].toNat/64==2)):=by rw[List.all_append];simp[ax]
   rw[←hts]at ha hal;have hlt:=ic (m%32) (u.data.toList.take j) jo jw
   have hor:bits BinOp.or IntKind.i64 ((acc (m%32) (u.data.toList.take j):Int)*64) ((u[j].toNat:Int)%64)=((acc (m%32) (u.data.toList.take j)*64+u[j].toNat%64:Nat):Int):=by
    rw[show ((u[j].toNat:Int)%64)=((u[j].toNat%64:Nat):Int)from by omega];exact pO (acc (m%32) (u.data.toList.take j)) (u[j].toNat%64) hlt jo
   have Ha:=zh ha;have Hal:=zh hal;have Hcl:=zh hcl;have Hkb:=zh hkb;have Hb:=zh hb;clear ha hal hcl hkb hb hts;generalize acc (m%32) (u.data.toList.take j)=a at *;generalize (u.data.toList.take j).all ax=ob at *;generalize hxe:u[j].toNat=x at *;have Hxe:=zh hxe;clear hxe;generalize hcb:(x/64==2)=cb at *;have Hcb:=zh hcb;clear hcb;subst hr ho
   cases ob
   ·go_wp2;go_roundw
    case rel=>exact⟨j+1,jo,ju,by rw[Ha.out];first|rfl|go_num,by rw[Hal.out];rfl,Hb.out,Hkb.out,Hcl.out⟩
    simp[intOf];omega
   go_wp2;go_roundw
   case rel=>exact⟨j+1,jo,ju,by rw[Ha.out];first|rfl|go_num,by rw[Hal.out];rfl,Hb.out,Hkb.out,Hcl.out⟩
   simp[intOf];omega
  obtain rfl:j=1:=jo;have htk:u.data.toList.take 1=u.data.toList:=zR (by rw[aB,Hus.out];exact zG _);rw[htk]at hr ho;have c3:=hkb.cell 3;have c4:=hkb.cell 4;have c5:=hkb.cell 5;have c0:=hkb.cell 0;have hwz:w.heap.size≤wr.heap.size:=hb.size;have hlt:=ic (m%32) u.data.toList jo (by rw[aB,Hus.out];omega);have hkl:=hkb.lt;clear hcl htk hkb;generalize acc (m%32) u.data.toList=a at *;generalize u.data.toList.all ax=ob at *;subst hr ho
  cases ob
  ·have fin:=zh (Fin.out false rfl);clear Fin;go_wp2_with (first|(go_at_call 182;refine(dO hb (dD _ _ _ _ _)).mono ?_;rintro e w' ⟨rfl,hb⟩)|(go_at_call 202;refine(dG _ _).mono ?_;rintro e w' ⟨rfl,rfl⟩));rw[rounds_succ];go_wp2_with fail;have hb:=hb.alloc hb.size (.cells #[.int .i64 3,.int .u8 240,.int .u8 224,.int .i64 2048,.int .i64 65535,.int .i64 (-1)] 243);rw[rounds_succ];go_wp2_with fail;have hb:=hb.alloc hb.size (.cells #[.int .i64 4,.int .u8 248,.int .u8 240,.int .i64 65536,.int .i64 1114111,.int .i64 (-1)] 243);rw[rounds_succ];go_wp2_with fail;go_ret2;exact⟨by rw[fin.out];rfl,hb⟩
  by_cases hin:inB 128 2047 (-1) (a:Int)=true
  ·by_cases hh:bO (a:Int)=true
   ·have fin:=zh (Fin.out false (by rw[show inB ((128:Nat):Int) ((2047:Nat):Int) (-1) (a:Int)=true from hin,hh];rfl));clear Fin;go_wp2_with (first|(go_at_call 182;refine(dO hb (dD _ _ _ _ _)).mono ?_;rintro e w' ⟨rfl,hb⟩)|(go_at_call 202;refine(dG _ _).mono ?_;rintro e w' ⟨rfl,rfl⟩));rw[rounds_succ];go_wp2_with fail;have hb:=hb.alloc hb.size (.cells #[.int .i64 3,.int .u8 240,.int .u8 224,.int .i64 2048,.int .i64 65535,.int .i64 (-1)] 243);rw[rounds_succ];go_wp2_with fail;have hb:=hb.alloc hb.size (.cells #[.int .i64 4,.int .u8 248,.int .u8 240,.int .i64 65536,.int .i64 1114111,.int .i64 (-1)] 243);rw[rounds_succ];go_wp2_with fail;go_ret2;exact⟨by rw[fin.out];rfl,hb⟩
   have hhf:bO (a:Int)=false:=by simpa using hh
   have fin:=zh (Fin.out true (by rw[show inB ((128:Nat):Int) ((2047:Nat):Int) (-1) (a:Int)=true from hin,hhf];rfl));clear Fin hh;go_wp2_with (first|(go_at_call 182;refine(dD _ _ _ _ _).mono ?_;rintro e w3 ⟨rfl,hb3⟩;have c03:=(hb3.cell (p:=⟨w1.heap.size,0,none⟩) hkl).trans c0)|(go_at_call 202;refine(dG _ _).mono ?_;rintro e w' ⟨rfl,rfl⟩));go_quiet (fail);go_wp2;go_ret2;exact⟨by rw[fin.out];rfl,below_drewN (hb.trans (hb3.mono hb.size)) _⟩
  have hinf:inB 128 2047 (-1) (a:Int)=false:=by simpa using hin
  have fin:=zh (Fin.out false (by rw[show inB ((128:Nat):Int) ((2047:Nat):Int) (-1) (a:Int)=false from hinf];rfl));clear Fin hin;go_wp2_with (first|(go_at_call 182;refine(dO hb (dD _ _ _ _ _)).mono ?_;rintro e w' ⟨rfl,hb⟩)|(go_at_call 202;refine(dG _ _).mono ?_;rintro e w' ⟨rfl,rfl⟩));rw[rounds_succ];go_wp2_with fail;have hb:=hb.alloc hb.size (.cells #[.int .i64 3,.int .u8 240,.int .u8 224,.int .i64 2048,.int .i64 65535,.int .i64 (-1)] 243);rw[rounds_succ];go_wp2_with fail;have hb:=hb.alloc hb.size (.cells #[.int .i64 4,.int .u8 248,.int .u8 240,.int .i64 65536,.int .i64 1114111,.int .i64 (-1)] 243);rw[rounds_succ];go_wp2_with fail;go_ret2;exact⟨by rw[fin.out];rfl,hb⟩
 have fin:=zh (oM (m%32) (s.data.toList.drop (k+1)) 2 128 2047 (by rw[zP,aB];omega));have hsh:(s.size:Int)-(k:Int)<2:=jo;go_enter func181,ntmps181;go_wp2_with (go_at_call 201;refine(iV _).mono ?_;rintro e w1 ⟨rfl,hb1⟩);refine wp_loop_rounds 4 ?_;rw[rounds_succ];go_wp2_with fail;rw[rounds_succ];go_wp2_with fail;rw[rounds_succ];go_wp2_with fail;rw[rounds_succ];go_wp2_with fail;go_ret2;exact⟨by rw[fin.out];rfl,((hb1.alloc hb1.size _).alloc (by have:=hb1.size;simp;omega) _).alloc (by have:=hb1.size;simp;omega) _⟩
end Ut

namespace Ut
open Go.RowKit
set_option maxRecDepth 100000 in
theorem Cv(s:ByteArray)(k m:Nat)(w:World)(hk:k<s.size)(hm:(s[k]).toNat=m)(h128:128≤m)(h256:m<256)(hq:m/16=14)(hs:s.size≤140737488351232) :
  Calls prog 181 #[.string s,.int .i64 (k:Int)] w fun e w'=>
   e=.returned (.tuple #[.int .i64 ((aR (m%16) (s.data.toList.drop (k+1)) 3 2048 65535).1:Nat),.int .i64 ((aR (m%16) (s.data.toList.drop (k+1)) 3 2048 65535).2:Nat)])∧zWW w w':=by
 have h0:¬(k:Int)<0:=jo;have h1:¬(s.size:Int)≤(k:Int):=jo;have h2:¬(m:Int)<128:=jo;have hm0:=nK m h256;have hm1:=nL m h256;have hm2:=nM m h256;rw[show decide (m/32=6)=false from by simp;omega]at hm0;rw[show decide (m/16=14)=true from by simp;omega]at hm1;rw[show decide (m/8=30)=false from by simp;omega]at hm2;simp only[Bool.not_true,Bool.not_false]at hm0 hm1 hm2;have i0:=mi;have i1:=mo;have i2:=mq;by_cases hlen:k+3≤s.size
 ·obtain⟨u,hus,hul,hsl⟩:∃u:ByteArray,u.size=2∧u.data.toList=(s.data.toList.drop (k+1)).take 2∧∀W:World,(Instr.slice 9 (.string s) (some (.int .i64 ((k:Int)+1))) (some (.int .i64 ((k:Int)+3))) none).run prog W=.ok (.string u) W:=qg s k 3 jo hlen;obtain⟨cap,C,fr,hconv,hC⟩:=lh (P:=prog) 9 30 5 u underlying9 underlying30 underlying5;have han:=KE m h256;rw[hus]at hconv;have Hul:=zh hul;have Hus:=zh hus;have HC:=zh hC;have Fin:=zh (qF (m%16) (s.data.toList.drop (k+1)) 3 2048 65535 (by rw[zP,aB];omega));rw[show 3-1=2 from rfl,←hul]at Fin;clear hul hus hC;go_enter func181,ntmps181;go_wp2_with (go_at_call 201;refine(iV _).mono ?_;rintro e w1 ⟨rfl,hb1⟩);refine wp_loop_rounds 4 ?_;rw[rounds_succ];go_wp2_with fail;rw[rounds_succ];go_wp2_with fail
  have hb0:zWW w ((((w1.alloc (.cells #[.int .i64 2,.int .u8 224,.int .u8 192,.int .i64 128,.int .i64 2047,.int .i64 (-1)] 243)).alloc (.cells #[.int .i64 3,.int .u8 240,.int .u8 224,.int .i64 2048,.int .i64 65535,.int .i64 (-1)] 243)).alloc (.cells (C ((w1.alloc (.cells #[.int .i64 2,.int .u8 224,.int .u8 192,.int .i64 128,.int .i64 2047,.int .i64 (-1)] 243)).alloc (.cells #[.int .i64 3,.int .u8 240,.int .u8 224,.int .i64 2048,.int .i64 65535,.int .i64 (-1)] 243))) 5 (fr ((w1.alloc (.cells #[.int .i64 2,.int .u8 224,.int .u8 192,.int .i64 128,.int .i64 2047,.int .i64 (-1)] 243)).alloc (.cells #[.int .i64 3,.int .u8 240,.int .u8 224,.int .i64 2048,.int .i64 65535,.int .i64 (-1)] 243))))).drew):=
   ((((hb1.alloc (hb1.size) _)).alloc (by have:=hb1.size;simp;omega) _).alloc (by have:=hb1.size;simp;omega) _).drew
  have hk0:Blk ((((w1.alloc (.cells #[.int .i64 2,.int .u8 224,.int .u8 192,.int .i64 128,.int .i64 2047,.int .i64 (-1)] 243)).alloc (.cells #[.int .i64 3,.int .u8 240,.int .u8 224,.int .i64 2048,.int .i64 65535,.int .i64 (-1)] 243)).alloc (.cells (C ((w1.alloc (.cells #[.int .i64 2,.int .u8 224,.int .u8 192,.int .i64 128,.int .i64 2047,.int .i64 (-1)] 243)).alloc (.cells #[.int .i64 3,.int .u8 240,.int .u8 224,.int .i64 2048,.int .i64 65535,.int .i64 (-1)] 243))) 5 (fr ((w1.alloc (.cells #[.int .i64 2,.int .u8 224,.int .u8 192,.int .i64 128,.int .i64 2047,.int .i64 (-1)] 243)).alloc (.cells #[.int .i64 3,.int .u8 240,.int .u8 224,.int .i64 2048,.int .i64 65535,.int .i64 (-1)] 243))))).drew) (w1.heap.size+1) 243 #[.int .i64 3,.int .u8 240,.int .u8 224,.int .i64 2048,.int .i64 65535,.int .i64 (-1)]:=by
   have:=((Blk.new (w1.alloc (.cells #[.int .i64 2,.int .u8 224,.int .u8 192,.int .i64 128,.int .i64 2047,.int .i64 (-1)] 243)) 243 #[.int .i64 3,.int .u8 240,.int .u8 224,.int .i64 2048,.int .i64 65535,.int .i64 (-1)]).alloc (.cells (C ((w1.alloc (.cells #[.int .i64 2,.int .u8 224,.int .u8 192,.int .i64 128,.int .i64 2047,.int .i64 (-1)] 243)).alloc (.cells #[.int .i64 3,.int .u8 240,.int .u8 224,.int .i64 2048,.int .i64 65535,.int .i64 (-1)] 243))) 5 (fr ((w1.alloc (.cells #[.int .i64 2,.int .u8 224,.int .u8 192,.int .i64 128,.int .i64 2047,.int .i64 (-1)] 243)).alloc (.cells #[.int .i64 3,.int .u8 240,.int .u8 224,.int .i64 2048,.int .i64 65535,.int .i64 (-1)] 243))))).drew
   simpa using this
  have hc0:∀(i:Nat) (h:i<u.size),((((w1.alloc (.cells #[.int .i64 2,.int .u8 224,.int .u8 192,.int .i64 128,.int .i64 2047,.int .i64 (-1)] 243)).alloc (.cells #[.int .i64 3,.int .u8 240,.int .u8 224,.int .i64 2048,.int .i64 65535,.int .i64 (-1)] 243)).alloc (.cells (C ((w1.alloc (.cells #[.int .i64 2,.int .u8 224,.int .u8 192,.int .i64 128,.int .i64 2047,.int .i64 (-1)] 243)).alloc (.cells #[.int .i64 3,.int .u8 240,.int .u8 224,.int .i64 2048,.int .i64 65535,.int .i64 (-1)] 243))) 5 (fr ((w1.alloc (.cells #[.int .i64 2,.int .u8 224,.int .u8 192,.int .i64 128,.int .i64 2047,.int .i64 (-1)] 243)).alloc (.cells #[.int .i64 3,.int .u8 240,.int .u8 224,.int .i64 2048,.int .i64 65535,.int .i64 (-1)] 243))))).drew).cell? ⟨w1.heap.size+1+1,i,none⟩=some (.int .u8 ((u[i]).toNat:Int)):=fun i h=>by
   have:=oZ (w1.alloc (.cells #[.int .i64 2,.int .u8 224,.int .u8 192,.int .i64 128,.int .i64 2047,.int .i64 (-1)] 243)) (.cells #[.int .i64 3,.int .u8 240,.int .u8 224,.int .i64 2048,.int .i64 65535,.int .i64 (-1)] 243) (C ((w1.alloc (.cells #[.int .i64 2,.int .u8 224,.int .u8 192,.int .i64 128,.int .i64 2047,.int .i64 (-1)] 243)).alloc (.cells #[.int .i64 3,.int .u8 240,.int .u8 224,.int .i64 2048,.int .i64 65535,.int .i64 (-1)] 243))) 5 (fr ((w1.alloc (.cells #[.int .i64 2,.int .u8 224,.int .u8 192,.int .i64 128,.int .i64 2047,.int .i64 (-1)] 243)).alloc (.cells #[.int .i64 3,.int .u8 240,.int .u8 224,.int .i64 2048,.int .i64 65535,.int .i64 (-1)] 243))) i;have h2:=HC.out ((w1.alloc (.cells #[.int .i64 2,.int .u8 224,.int .u8 192,.int .i64 128,.int .i64 2047,.int .i64 (-1)] 243)).alloc (.cells #[.int .i64 3,.int .u8 240,.int .u8 224,.int .i64 2048,.int .i64 65535,.int .i64 (-1)] 243)) i h;try simp only[vK]at this
   exact this.trans h2
  have Hb0:=zh hb0;have Hk0:=zh hk0;have Hc0:=zh hc0;clear hb0 hk0 hc0
  go_loopw [9,10,63] (fun r o i wr=>∃j:Nat,j≤2∧i=.int .i64 j∧r=.int .i64 (acc (m%16) (u.data.toList.take j):Nat)∧o=.bool ((u.data.toList.take j).all ax)∧zWW w wr∧Blk wr (w1.heap.size+1) 243 #[.int .i64 3,.int .u8 240,.int .u8 224,.int .i64 2048,.int .i64 65535,.int .i64 (-1)] ∧
    ∀(i:Nat) (h:i<u.size),wr.cell? ⟨w1.heap.size+1+1,i,none⟩=some (.int .u8 ((u[i]).toNat:Int))) (fun _ _ i _=>2-(intOf i).toNat)
  case atStart=>exact⟨0,jo,rfl,by simp[qD],rfl,Hb0.out,Hk0.out,Hc0.out⟩
  obtain⟨j,hj,rfl,hr,ho,hb,hkb,hcl⟩:=hrel;by_cases hjn:j<2
  ·have hju:j<u.size:=by rw[Hus.out];exact hjn
   have hcx:=hcl j hju;have hx:=(u[j]).toNat_lt;have e63:=rF _ hx;have e192:=rC _ hx;have hts:=iU u j hju;have ha:=mE (m%16) (u.data.toList.take j) u[j];have hal:((u.data.toList.take j) ++ [u[j]]).all ax=((u.data.toList.take j).all ax&&(u[j].toNat/64==2)):=by rw[List.all_append];simp[ax]
   rw[←hts]at ha hal;have hlt:=ic (m%16) (u.data.toList.take j) jo jw
   have hor:bits BinOp.or IntKind.i64 ((acc (m%16) (u.data.toList.take j):Int)*64) ((u[j].toNat:Int)%64)=((acc (m%16) (u.data.toList.take j)*64+u[j].toNat%64:Nat):Int):=by
    rw[show ((u[j].toNat:Int)%64)=((u[j].toNat%64:Nat):Int)from by omega];exact pO (acc (m%16) (u.data.toList.take j)) (u[j].toNat%64) hlt jo
   have Ha:=zh ha;have Hal:=zh hal;have Hcl:=zh hcl;have Hkb:=zh hkb;have Hb:=zh hb;clear ha hal hcl hkb hb hts;generalize acc (m%16) (u.data.toList.take j)=a at *;generalize (u.data.toList.take j).all ax=ob at *;generalize hxe:u[j].toNat=x at *;have Hxe:=zh hxe;clear hxe;generalize hcb:(x/64==2)=cb at *;have Hcb:=zh hcb;clear hcb;subst hr ho
   cases ob
   ·go_wp2;go_roundw
    case rel=>exact⟨j+1,jo,ju,by rw[Ha.out];first|rfl|go_num,by rw[Hal.out];rfl,Hb.out,Hkb.out,Hcl.out⟩
    simp[intOf];omega
   go_wp2;go_roundw
   case rel=>exact⟨j+1,jo,ju,by rw[Ha.out];first|rfl|go_num,by rw[Hal.out];rfl,Hb.out,Hkb.out,Hcl.out⟩
   simp[intOf];omega
  obtain rfl:j=2:=jo;have htk:u.data.toList.take 2=u.data.toList:=zR (by rw[aB,Hus.out];exact zG _);rw[htk]at hr ho;have c3:=hkb.cell 3;have c4:=hkb.cell 4;have c5:=hkb.cell 5;have c0:=hkb.cell 0;have hwz:w.heap.size≤wr.heap.size:=hb.size;have hlt:=ic (m%16) u.data.toList jo (by rw[aB,Hus.out];omega);have hkl:=hkb.lt;clear hcl htk hkb;generalize acc (m%16) u.data.toList=a at *;generalize u.data.toList.all ax=ob at *;subst hr ho
  cases ob
  ·have fin:=zh (Fin.out false rfl);clear Fin;go_wp2_with (first|(go_at_call 182;refine(dO hb (dD _ _ _ _ _)).mono ?_;rintro e w' ⟨rfl,hb⟩)|(go_at_call 202;refine(dG _ _).mono ?_;rintro e w' ⟨rfl,rfl⟩));rw[rounds_succ];go_wp2_with fail;have hb:=hb.alloc hb.size (.cells #[.int .i64 4,.int .u8 248,.int .u8 240,.int .i64 65536,.int .i64 1114111,.int .i64 (-1)] 243);rw[rounds_succ];go_wp2_with fail;go_ret2;exact⟨by rw[fin.out];rfl,hb⟩
  by_cases hin:inB 2048 65535 (-1) (a:Int)=true
  ·by_cases hh:bO (a:Int)=true
   ·have fin:=zh (Fin.out false (by rw[show inB ((2048:Nat):Int) ((65535:Nat):Int) (-1) (a:Int)=true from hin,hh];rfl));clear Fin;go_wp2_with (first|(go_at_call 182;refine(dO hb (dD _ _ _ _ _)).mono ?_;rintro e w' ⟨rfl,hb⟩)|(go_at_call 202;refine(dG _ _).mono ?_;rintro e w' ⟨rfl,rfl⟩));rw[rounds_succ];go_wp2_with fail;have hb:=hb.alloc hb.size (.cells #[.int .i64 4,.int .u8 248,.int .u8 240,.int .i64 65536,.int .i64 1114111,.int .i64 (-1)] 243);rw[rounds_succ];go_wp2_with fail;go_ret2;exact⟨by rw[fin.out];rfl,hb⟩
   have hhf:bO (a:Int)=false:=by simpa using hh
   have fin:=zh (Fin.out true (by rw[show inB ((2048:Nat):Int) ((65535:Nat):Int) (-1) (a:Int)=true from hin,hhf];rfl));clear Fin hh;go_wp2_with (first|(go_at_call 182;refine(dD _ _ _ _ _).mono ?_;rintro e w3 ⟨rfl,hb3⟩;have c03:=(hb3.cell (p:=⟨w1.heap.size+1,0,none⟩) hkl).trans c0)|(go_at_call 202;refine(dG _ _).mono ?_;rintro e w' ⟨rfl,rfl⟩));go_quiet (fail);go_wp2;go_ret2;exact⟨by rw[fin.out];rfl,below_drewN (hb.trans (hb3.mono hb.size)) _⟩
  have hinf:inB 2048 65535 (-1) (a:Int)=false:=by simpa using hin
  have fin:=zh (Fin.out false (by rw[show inB ((2048:Nat):Int) ((65535:Nat):Int) (-1) (a:Int)=false from hinf];rfl));clear Fin hin;go_wp2_with (first|(go_at_call 182;refine(dO hb (dD _ _ _ _ _)).mono ?_;rintro e w' ⟨rfl,hb⟩)|(go_at_call 202;refine(dG _ _).mono ?_;rintro e w' ⟨rfl,rfl⟩));rw[rounds_succ];go_wp2_with fail;have hb:=hb.alloc hb.size (.cells #[.int .i64 4,.int .u8 248,.int .u8 240,.int .i64 65536,.int .i64 1114111,.int .i64 (-1)] 243);rw[rounds_succ];go_wp2_with fail;go_ret2;exact⟨by rw[fin.out];rfl,hb⟩
 have fin:=zh (oM (m%16) (s.data.toList.drop (k+1)) 3 2048 65535 (by rw[zP,aB];omega));have hsh:(s.size:Int)-(k:Int)<3:=jo;go_enter func181,ntmps181;go_wp2_with (go_at_call 201;refine(iV _).mono ?_;rintro e w1 ⟨rfl,hb1⟩);refine wp_loop_rounds 4 ?_;rw[rounds_succ];go_wp2_with fail;rw[rounds_succ];go_wp2_with fail;rw[rounds_succ];go_wp2_with fail;rw[rounds_succ];go_wp2_with fail;go_ret2;exact⟨by rw[fin.out];rfl,((hb1.alloc hb1.size _).alloc (by have:=hb1.size;simp;omega) _).alloc (by have:=hb1.size;simp;omega) _⟩
end Ut

namespace Tk
open Go.RowKit
theorem xn:(prog.info? 228).map (fun i=>i.size)=some 2:=by kernel_rfl
theorem JN:liesAt prog prog.depth 228 (2/prog.cellsOf 228) 0 228 1=true:=by kernel_rfl
theorem C8:(prog.info? 5).map (fun i=>(i.zero,i.size,i.bytes))=some (some (.int .u8 0),1,1):=by kernel_rfl
set_option maxRecDepth 100000 in
theorem AC(b:Nat)(w:World)(h0:w.cell? ⟨b,0,none⟩=some (.pointer (some ⟨b,0,none⟩))) :
  Calls prog 204 #[.pointer (some ⟨b,0,none⟩)] w fun e w'=>e=.returned (.tuple #[])∧w'=w:=by
 obtain⟨j,hj,_⟩:=Option.map_eq_some_iff.1 xn;go_enter func204,ntmps204;go_wp2;rw[Lib.run_neq_ptr_same w _ underlying226 hj];go_wp2
 go_end0
 exact⟨rfl,rfl⟩
set_option maxRecDepth 100000 in
theorem z7(b:Nat)(w:World)(h0:w.cell? ⟨b,0,none⟩=some (.pointer none))(hsh:w.shape? b=some (228,2))(hfz:w.frozen? ⟨b,0,none⟩=false) :
  Calls prog 204 #[.pointer (some ⟨b,0,none⟩)] w fun e w'=>e=.returned (.tuple #[])∧w'=w.setCell ⟨b,0,none⟩ (.pointer (some ⟨b,0,none⟩)):=by
 obtain⟨j,hj,hjs⟩:=Option.map_eq_some_iff.1 xn;go_enter func204,ntmps204;go_wp2;rw[Lib.run_to_unsafe w ⟨b,0,none⟩ underlying226 underlying250 hj (by rw[hjs];decide) hsh (Nat.zero_lt_succ 1)];simp only[Result.andThen];rw[Oper.upon_value];go_wp2;rw[run_callFunc_extern func212 jk jk jk (e:=Extern.AbiNoEscape.same) jk];rw[Lib.run_noEscape];simp only[Result.andThen];rw[Oper.upon_value];go_wp2;rw[Lib.run_from_unsafe w ⟨b,0,none⟩ underlying250 underlying226 hj hsh JN];simp only[Result.andThen];rw[Oper.upon_value];go_wp2
 go_end0
 exact⟨rfl,rfl⟩
theorem DC(B b:Nat)(bs:List Value)(w:World)(h:Lib.IsBuilder 228 5 B b bs w) :
  Calls prog 204 #[.pointer (some ⟨b,0,none⟩)] w fun e w'=>e=.returned (.tuple #[])∧(Lib.BuilderAt 228 5 B b (.pointer (some ⟨b,0,none⟩)) bs w'∧Below B w w'):=by
 rcases h with h|h
 ·refine(z7 b w h.cell0 h.shape h.frozen0).mono ?_;rintro e w' ⟨rfl,rfl⟩;exact⟨rfl,h.used _,(zw B w).setCell (p:=⟨b,0,none⟩) h.1 _⟩
 refine(AC b w h.cell0).mono ?_;rintro e w' ⟨rfl,rfl⟩;exact⟨rfl,h,zw B _⟩
set_option maxRecDepth 100000 in
theorem Ao(B b:Nat)(bs:List Value)(s:ByteArray)(w:World)(h:Lib.IsBuilder 228 5 B b bs w)(hlen:bs.length+s.size≤140737488355328)(hBw:B≤w.heap.size) :
  Calls prog 186 #[.pointer (some ⟨b,0,none⟩),.string s] w fun e w'=>e=.returned (.tuple #[.int .i64 s.size,.nilIface])∧(Lib.BuilderAt 228 5 B b (.pointer (some ⟨b,0,none⟩)) (bs++Lib.strCells s) w'∧Below B w w'):=by
 obtain⟨i0,hi,hz0,hz1,hz2⟩:=info_parts C8;go_enter func186,ntmps186;go_wp2_with (go_at_call 204;refine(DC B b bs _ h).mono ?_);rintro e w1 ⟨rfl,h1,hb1⟩;obtain⟨hB,v,hbk,hown,hne⟩:=h1;have c0:w1.cell? ⟨b,0,none⟩=some (.pointer (some ⟨b,0,none⟩)):=by rw[Lib.cell_of_heap hbk];rfl
 have c1:w1.cell? ⟨b,1,none⟩=some v:=by rw[Lib.cell_of_heap hbk];rfl
 go_wp2_with (at_builtin;refine Lib.wpList_append_own_string _ rfl _ _ 30 9 rfl B 5 i0 underlying30 underlying9 hi hz0 hz1 hz2 _ _ _ rfl hown s rfl ?c3 ?c4 ?c5 ?_)
 case c3=>unfold maxLen;omega
 case c4=>omega
 case c5=>have:=hb1.size;omega
 intro v' w2 hown' hgrow _
 have hlt:b<w1.heap.size:=by
  rcases zg b w1.heap.size with h'|h'
  ·exact h'
  simp[zn h']at hbk
 have hb2:w2.heap[b]?=some (.cells #[.pointer (some ⟨b,0,none⟩),v] 228 (0,0)):=by
  rw[hgrow.block b hlt (fun e=>hne e.symm)];exact hbk
 have d0:w2.cell? ⟨b,0,none⟩=some (.pointer (some ⟨b,0,none⟩)):=by rw[Lib.cell_of_heap hb2];rfl
 have d1:w2.cell? ⟨b,1,none⟩=some v:=by rw[Lib.cell_of_heap hb2];rfl
 have f1:w2.frozen? ⟨b,1,none⟩=false:=Lib.frozen_of_heap hb2 1
 obtain⟨ao,n',cap,rfl⟩:∃ao n' cap,v'=.slice ao n' cap:=by
  rcases hown'.2 with⟨hv,_⟩|⟨g,cap,cur,hv,_⟩
  ·exact⟨_,_,_,hv⟩
  exact⟨_,_,_,hv⟩
 go_wp2;go_ret2;refine⟨rfl,?_,?_⟩
 ·exact Lib.BuilderAt.put (T:=228) (e:=5) hB hb2 (bs':=bs++Lib.strCells s) (by simpa[Lib.strCells_length]using hown') jd
 exact(hb1.grown hgrow (by have:=hb1.size;omega) (fun k hk=>(hown.lt k hk).1)).setCell (p:=⟨b,1,none⟩) hB _
end Tk
end Go.Proofs.YtmomjpolkkbhnaaGreat
