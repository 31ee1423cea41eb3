/- The walk of utf.Decode at runes of 4 bytes. -/
import Derived.Deep.QuietTactic
import Derived.BigQuiet
import Derived.Still
import Derived.Below
import Derived.Deep.Draws
import Derived.Test.YtmomjpolkkbhnaaGreatQModelCountsRow0
set_option maxRecDepth 20000
set_option maxHeartbeats 100000000
set_option linter.unusedSimpArgs false
open Go.Proofs.Tryz
namespace Go.Proofs.YtmomjpolkkbhnaaGreat
namespace Ut
open Go.RowKit
set_option maxRecDepth 100000 in
theorem Cw(s:ByteArray)(k m:Nat)(w:World)(hk:k<s.size)(hm:(s[k]).toNat=m)(h128:128≤m)(h256:m<256)(hq:m/8=30)(hs:s.size≤140737488351232) :
  Calls prog 181 #[.string s,.int .i64 (k:Int)] w fun e w'=>
   e=.returned (.tuple #[.int .i64 ((aR (m%8) (s.data.toList.drop (k+1)) 4 65536 1114111).1:Nat),.int .i64 ((aR (m%8) (s.data.toList.drop (k+1)) 4 65536 1114111).2:Nat)])∧zWW w w':=by
 have h0:¬(k:Int)<0:=jo;have h1:¬(s.size:Int)≤(k:Int):=jo;have h2:¬(m:Int)<128:=jo;have hm0:=nK m h256;have hm1:=nL m h256;have hm2:=nM m h256;rw[show decide (m/32=6)=false from by simp;omega]at hm0;rw[show decide (m/16=14)=false from by simp;omega]at hm1;rw[show decide (m/8=30)=true from by simp;omega]at hm2;simp only[Bool.not_true,Bool.not_false]at hm0 hm1 hm2;have i0:=mi;have i1:=mo;have i2:=mq;by_cases hlen:k+4≤s.size
 ·obtain⟨u,hus,hul,hsl⟩:∃u:ByteArray,u.size=3∧u.data.toList=(s.data.toList.drop (k+1)).take 3∧∀W:World,(Instr.slice 9 (.string s) (some (.int .i64 ((k:Int)+1))) (some (.int .i64 ((k:Int)+4))) none).run prog W=.ok (.string u) W:=qg s k 4 jo hlen;obtain⟨cap,C,fr,hconv,hC⟩:=lh (P:=prog) 9 30 5 u underlying9 underlying30 underlying5;have han:=KF m h256;rw[hus]at hconv;have Hul:=zh hul;have Hus:=zh hus;have HC:=zh hC;have Fin:=zh (qF (m%8) (s.data.toList.drop (k+1)) 4 65536 1114111 (by rw[zP,aB];omega));rw[show 4-1=3 from rfl,←hul]at Fin;clear hul hus hC;go_enter func181,ntmps181;go_wp2_with (go_at_call 201;refine(iV _).mono ?_;rintro e w1 ⟨rfl,hb1⟩);refine wp_loop_rounds 4 ?_;rw[rounds_succ];go_wp2_with fail;rw[rounds_succ];go_wp2_with fail;rw[rounds_succ];go_wp2_with fail
  have hb0:zWW w (((((w1.alloc (.cells #[.int .i64 2,.int .u8 224,.int .u8 192,.int .i64 128,.int .i64 2047,.int .i64 (-1)] 243)).alloc (.cells #[.int .i64 3,.int .u8 240,.int .u8 224,.int .i64 2048,.int .i64 65535,.int .i64 (-1)] 243)).alloc (.cells #[.int .i64 4,.int .u8 248,.int .u8 240,.int .i64 65536,.int .i64 1114111,.int .i64 (-1)] 243)).alloc (.cells (C (((w1.alloc (.cells #[.int .i64 2,.int .u8 224,.int .u8 192,.int .i64 128,.int .i64 2047,.int .i64 (-1)] 243)).alloc (.cells #[.int .i64 3,.int .u8 240,.int .u8 224,.int .i64 2048,.int .i64 65535,.int .i64 (-1)] 243)).alloc (.cells #[.int .i64 4,.int .u8 248,.int .u8 240,.int .i64 65536,.int .i64 1114111,.int .i64 (-1)] 243))) 5 (fr (((w1.alloc (.cells #[.int .i64 2,.int .u8 224,.int .u8 192,.int .i64 128,.int .i64 2047,.int .i64 (-1)] 243)).alloc (.cells #[.int .i64 3,.int .u8 240,.int .u8 224,.int .i64 2048,.int .i64 65535,.int .i64 (-1)] 243)).alloc (.cells #[.int .i64 4,.int .u8 248,.int .u8 240,.int .i64 65536,.int .i64 1114111,.int .i64 (-1)] 243))))).drew):=
   (((((hb1.alloc (hb1.size) _).alloc (by have:=hb1.size;simp;omega) _)).alloc (by have:=hb1.size;simp;omega) _).alloc (by have:=hb1.size;simp;omega) _).drew
  have hk0:Blk (((((w1.alloc (.cells #[.int .i64 2,.int .u8 224,.int .u8 192,.int .i64 128,.int .i64 2047,.int .i64 (-1)] 243)).alloc (.cells #[.int .i64 3,.int .u8 240,.int .u8 224,.int .i64 2048,.int .i64 65535,.int .i64 (-1)] 243)).alloc (.cells #[.int .i64 4,.int .u8 248,.int .u8 240,.int .i64 65536,.int .i64 1114111,.int .i64 (-1)] 243)).alloc (.cells (C (((w1.alloc (.cells #[.int .i64 2,.int .u8 224,.int .u8 192,.int .i64 128,.int .i64 2047,.int .i64 (-1)] 243)).alloc (.cells #[.int .i64 3,.int .u8 240,.int .u8 224,.int .i64 2048,.int .i64 65535,.int .i64 (-1)] 243)).alloc (.cells #[.int .i64 4,.int .u8 248,.int .u8 240,.int .i64 65536,.int .i64 1114111,.int .i64 (-1)] 243))) 5 (fr (((w1.alloc (.cells #[.int .i64 2,.int .u8 224,.int .u8 192,.int .i64 128,.int .i64 2047,.int .i64 (-1)] 243)).alloc (.cells #[.int .i64 3,.int .u8 240,.int .u8 224,.int .i64 2048,.int .i64 65535,.int .i64 (-1)] 243)).alloc (.cells #[.int .i64 4,.int .u8 248,.int .u8 240,.int .i64 65536,.int .i64 1114111,.int .i64 (-1)] 243))))).drew) (w1.heap.size+1+1) 243 #[.int .i64 4,.int .u8 248,.int .u8 240,.int .i64 65536,.int .i64 1114111,.int .i64 (-1)]:=by
   have:=((Blk.new ((w1.alloc (.cells #[.int .i64 2,.int .u8 224,.int .u8 192,.int .i64 128,.int .i64 2047,.int .i64 (-1)] 243)).alloc (.cells #[.int .i64 3,.int .u8 240,.int .u8 224,.int .i64 2048,.int .i64 65535,.int .i64 (-1)] 243)) 243 #[.int .i64 4,.int .u8 248,.int .u8 240,.int .i64 65536,.int .i64 1114111,.int .i64 (-1)]).alloc (.cells (C (((w1.alloc (.cells #[.int .i64 2,.int .u8 224,.int .u8 192,.int .i64 128,.int .i64 2047,.int .i64 (-1)] 243)).alloc (.cells #[.int .i64 3,.int .u8 240,.int .u8 224,.int .i64 2048,.int .i64 65535,.int .i64 (-1)] 243)).alloc (.cells #[.int .i64 4,.int .u8 248,.int .u8 240,.int .i64 65536,.int .i64 1114111,.int .i64 (-1)] 243))) 5 (fr (((w1.alloc (.cells #[.int .i64 2,.int .u8 224,.int .u8 192,.int .i64 128,.int .i64 2047,.int .i64 (-1)] 243)).alloc (.cells #[.int .i64 3,.int .u8 240,.int .u8 224,.int .i64 2048,.int .i64 65535,.int .i64 (-1)] 243)).alloc (.cells #[.int .i64 4,.int .u8 248,.int .u8 240,.int .i64 65536,.int .i64 1114111,.int .i64 (-1)] 243))))).drew
   simpa using this
  have hc0:∀(i:Nat) (h:i<u.size),(((((w1.alloc (.cells #[.int .i64 2,.int .u8 224,.int .u8 192,.int .i64 128,.int .i64 2047,.int .i64 (-1)] 243)).alloc (.cells #[.int .i64 3,.int .u8 240,.int .u8 224,.int .i64 2048,.int .i64 65535,.int .i64 (-1)] 243)).alloc (.cells #[.int .i64 4,.int .u8 248,.int .u8 240,.int .i64 65536,.int .i64 1114111,.int .i64 (-1)] 243)).alloc (.cells (C (((w1.alloc (.cells #[.int .i64 2,.int .u8 224,.int .u8 192,.int .i64 128,.int .i64 2047,.int .i64 (-1)] 243)).alloc (.cells #[.int .i64 3,.int .u8 240,.int .u8 224,.int .i64 2048,.int .i64 65535,.int .i64 (-1)] 243)).alloc (.cells #[.int .i64 4,.int .u8 248,.int .u8 240,.int .i64 65536,.int .i64 1114111,.int .i64 (-1)] 243))) 5 (fr (((w1.alloc (.cells #[.int .i64 2,.int .u8 224,.int .u8 192,.int .i64 128,.int .i64 2047,.int .i64 (-1)] 243)).alloc (.cells #[.int .i64 3,.int .u8 240,.int .u8 224,.int .i64 2048,.int .i64 65535,.int .i64 (-1)] 243)).alloc (.cells #[.int .i64 4,.int .u8 248,.int .u8 240,.int .i64 65536,.int .i64 1114111,.int .i64 (-1)] 243))))).drew).cell? ⟨w1.heap.size+1+1+1,i,none⟩=some (.int .u8 ((u[i]).toNat:Int)):=fun i h=>by
   have:=oZ ((w1.alloc (.cells #[.int .i64 2,.int .u8 224,.int .u8 192,.int .i64 128,.int .i64 2047,.int .i64 (-1)] 243)).alloc (.cells #[.int .i64 3,.int .u8 240,.int .u8 224,.int .i64 2048,.int .i64 65535,.int .i64 (-1)] 243)) (.cells #[.int .i64 4,.int .u8 248,.int .u8 240,.int .i64 65536,.int .i64 1114111,.int .i64 (-1)] 243) (C (((w1.alloc (.cells #[.int .i64 2,.int .u8 224,.int .u8 192,.int .i64 128,.int .i64 2047,.int .i64 (-1)] 243)).alloc (.cells #[.int .i64 3,.int .u8 240,.int .u8 224,.int .i64 2048,.int .i64 65535,.int .i64 (-1)] 243)).alloc (.cells #[.int .i64 4,.int .u8 248,.int .u8 240,.int .i64 65536,.int .i64 1114111,.int .i64 (-1)] 243))) 5 (fr (((w1.alloc (.cells #[.int .i64 2,.int .u8 224,.int .u8 192,.int .i64 128,.int .i64 2047,.int .i64 (-1)] 243)).alloc (.cells #[.int .i64 3,.int .u8 240,.int .u8 224,.int .i64 2048,.int .i64 65535,.int .i64 (-1)] 243)).alloc (.cells #[.int .i64 4,.int .u8 248,.int .u8 240,.int .i64 65536,.int .i64 1114111,.int .i64 (-1)] 243))) i;have h2:=HC.out (((w1.alloc (.cells #[.int .i64 2,.int .u8 224,.int .u8 192,.int .i64 128,.int .i64 2047,.int .i64 (-1)] 243)).alloc (.cells #[.int .i64 3,.int .u8 240,.int .u8 224,.int .i64 2048,.int .i64 65535,.int .i64 (-1)] 243)).alloc (.cells #[.int .i64 4,.int .u8 248,.int .u8 240,.int .i64 65536,.int .i64 1114111,.int .i64 (-1)] 243)) i h;try simp only[vK]at this
   exact this.trans h2
  have Hb0:=zh hb0;have Hk0:=zh hk0;have Hc0:=zh hc0;clear hb0 hk0 hc0
  go_loopw [9,10,63] (fun r o i wr=>∃j:Nat,j≤3∧i=.int .i64 j∧r=.int .i64 (acc (m%8) (u.data.toList.take j):Nat)∧o=.bool ((u.data.toList.take j).all ax)∧zWW w wr∧Blk wr (w1.heap.size+1+1) 243 #[.int .i64 4,.int .u8 248,.int .u8 240,.int .i64 65536,.int .i64 1114111,.int .i64 (-1)] ∧
    ∀(i:Nat) (h:i<u.size),wr.cell? ⟨w1.heap.size+1+1+1,i,none⟩=some (.int .u8 ((u[i]).toNat:Int))) (fun _ _ i _=>3-(intOf i).toNat)
  case atStart=>exact⟨0,jo,rfl,by simp[qD],rfl,Hb0.out,Hk0.out,Hc0.out⟩
  obtain⟨j,hj,rfl,hr,ho,hb,hkb,hcl⟩:=hrel;by_cases hjn:j<3
  ·have hju:j<u.size:=by rw[Hus.out];exact hjn
   have hcx:=hcl j hju;have hx:=(u[j]).toNat_lt;have e63:=rF _ hx;have e192:=rC _ hx;have hts:=iU u j hju;have ha:=mE (m%8) (u.data.toList.take j) u[j];have hal:((u.data.toList.take j) ++ [u[j]]).all ax=((u.data.toList.take j).all ax&&(u[j].toNat/64==2)):=by rw[List.all_append];simp[ax]
   rw[←hts]at ha hal;have hlt:=ic (m%8) (u.data.toList.take j) jo jw
   have hor:bits BinOp.or IntKind.i64 ((acc (m%8) (u.data.toList.take j):Int)*64) ((u[j].toNat:Int)%64)=((acc (m%8) (u.data.toList.take j)*64+u[j].toNat%64:Nat):Int):=by
    rw[show ((u[j].toNat:Int)%64)=((u[j].toNat%64:Nat):Int)from by omega];exact pO (acc (m%8) (u.data.toList.take j)) (u[j].toNat%64) hlt jo
   have Ha:=zh ha;have Hal:=zh hal;have Hcl:=zh hcl;have Hkb:=zh hkb;have Hb:=zh hb;clear ha hal hcl hkb hb hts;generalize acc (m%8) (u.data.toList.take j)=a at *;generalize (u.data.toList.take j).all ax=ob at *;generalize hxe:u[j].toNat=x at *;have Hxe:=zh hxe;clear hxe;generalize hcb:(x/64==2)=cb at *;have Hcb:=zh hcb;clear hcb;subst hr ho
   cases ob
   ·go_wp2;go_roundw
    case rel=>exact⟨j+1,jo,ju,by rw[Ha.out];first|rfl|go_num,by rw[Hal.out];rfl,Hb.out,Hkb.out,Hcl.out⟩
    simp[intOf];omega
   go_wp2;go_roundw
   case rel=>exact⟨j+1,jo,ju,by rw[Ha.out];first|rfl|go_num,by rw[Hal.out];rfl,Hb.out,Hkb.out,Hcl.out⟩
   simp[intOf];omega
  obtain rfl:j=3:=jo;have htk:u.data.toList.take 3=u.data.toList:=zR (by rw[aB,Hus.out];exact zG _);rw[htk]at hr ho;have c3:=hkb.cell 3;have c4:=hkb.cell 4;have c5:=hkb.cell 5;have c0:=hkb.cell 0;have hwz:w.heap.size≤wr.heap.size:=hb.size;have hlt:=ic (m%8) u.data.toList jo (by rw[aB,Hus.out];omega);have hkl:=hkb.lt;clear hcl htk hkb;generalize acc (m%8) u.data.toList=a at *;generalize u.data.toList.all ax=ob at *;subst hr ho
  cases ob
  ·have fin:=zh (Fin.out false rfl);clear Fin;go_wp2_with (first|(go_at_call 182;refine(dO hb (dD _ _ _ _ _)).mono ?_;rintro e w' ⟨rfl,hb⟩)|(go_at_call 202;refine(dG _ _).mono ?_;rintro e w' ⟨rfl,rfl⟩));rw[rounds_succ];go_wp2_with fail;go_ret2;exact⟨by rw[fin.out];rfl,hb⟩
  by_cases hin:inB 65536 1114111 (-1) (a:Int)=true
  ·by_cases hh:bO (a:Int)=true
   ·have fin:=zh (Fin.out false (by rw[show inB ((65536:Nat):Int) ((1114111:Nat):Int) (-1) (a:Int)=true from hin,hh];rfl));clear Fin;go_wp2_with (first|(go_at_call 182;refine(dO hb (dD _ _ _ _ _)).mono ?_;rintro e w' ⟨rfl,hb⟩)|(go_at_call 202;refine(dG _ _).mono ?_;rintro e w' ⟨rfl,rfl⟩));rw[rounds_succ];go_wp2_with fail;go_ret2;exact⟨by rw[fin.out];rfl,hb⟩
   have hhf:bO (a:Int)=false:=by simpa using hh
   have fin:=zh (Fin.out true (by rw[show inB ((65536:Nat):Int) ((1114111:Nat):Int) (-1) (a:Int)=true from hin,hhf];rfl));clear Fin hh;go_wp2_with (first|(go_at_call 182;refine(dD _ _ _ _ _).mono ?_;rintro e w3 ⟨rfl,hb3⟩;have c03:=(hb3.cell (p:=⟨w1.heap.size+1+1,0,none⟩) hkl).trans c0)|(go_at_call 202;refine(dG _ _).mono ?_;rintro e w' ⟨rfl,rfl⟩));go_quiet (fail);go_wp2;go_ret2;exact⟨by rw[fin.out];rfl,below_drewN (hb.trans (hb3.mono hb.size)) _⟩
  have hinf:inB 65536 1114111 (-1) (a:Int)=false:=by simpa using hin
  have fin:=zh (Fin.out false (by rw[show inB ((65536:Nat):Int) ((1114111:Nat):Int) (-1) (a:Int)=false from hinf];rfl));clear Fin hin;go_wp2_with (first|(go_at_call 182;refine(dO hb (dD _ _ _ _ _)).mono ?_;rintro e w' ⟨rfl,hb⟩)|(go_at_call 202;refine(dG _ _).mono ?_;rintro e w' ⟨rfl,rfl⟩));rw[rounds_succ];go_wp2_with fail;go_ret2;exact⟨by rw[fin.out];rfl,hb⟩
 have fin:=zh (oM (m%8) (s.data.toList.drop (k+1)) 4 65536 1114111 (by rw[zP,aB];omega));have hsh:(s.size:Int)-(k:Int)<4:=jo;go_enter func181,ntmps181;go_wp2_with (go_at_call 201;refine(iV _).mono ?_;rintro e w1 ⟨rfl,hb1⟩);refine wp_loop_rounds 4 ?_;rw[rounds_succ];go_wp2_with fail;rw[rounds_succ];go_wp2_with fail;rw[rounds_succ];go_wp2_with fail;rw[rounds_succ];go_wp2_with fail;go_ret2;exact⟨by rw[fin.out];rfl,((hb1.alloc hb1.size _).alloc (by have:=hb1.size;simp;omega) _).alloc (by have:=hb1.size;simp;omega) _⟩
end Ut

section
open Go Go.RowKit
structure RSpec where
 α:Type
 f:α→Value
 Φ:α→World→Prop
section
variable {P:Program} {ops:Array Oper} {md:Region.Mode} {C:World→Prop} {G:World→World→Prop} {Q:Act→World→Prop} {S:Nat→Option RSpec}
def bM(P:Program)(G:World→World→Prop)(w:World)(R:Value→World→Prop):Result Next→Prop
 | .ok (.value u) w'=>G w w'∧R u w'
 | .ok .skip w'=>G w w'∧R undef w'
 | .ok (.enter f args) w'=>Calls P f args w' (fun e w''=>∃v,e=.returned v∧G w w''∧R v w'')
 | _=>False
def cB(md:Region.Mode)(o:Oper)(F:Nat→World→Prop)(w:World):Prop:=∀e∈o.after,Region.binds md e=true→F e.on w
def upd(F:Nat→World→Prop)(i:Nat)(p:World→Prop):Nat→World→Prop:=fun j w=>if j=i then F j w∧p w else F j w
def ik(P:Program)(C:World→Prop)(md:Region.Mode)(F:Nat→World→Prop)(o:Oper)(a:Act)(c:Value):Prop:=
 ∀w,C w→cB md o F w→(execOp a.eval o).run P w=.ok (.value c) w∨((execOp a.eval o).run P w=.ok .skip w∧c=undef)
def il(P:Program)(C:World→Prop)(G:World→World→Prop)(md:Region.Mode)(F:Nat→World→Prop)(o:Oper)(a:Act)(s:RSpec):Prop:=
 ∀w,C w→cB md o F w→bM P G w (fun v w'=>C w'∧∃x,v=s.f x∧s.Φ x w') ((execOp a.eval o).run P w)
def ck(P:Program)(ops:Array Oper)(C:World→Prop)(G:World→World→Prop)(md:Region.Mode)(S:Nat→Option RSpec)(i:Nat)(o:Oper)(K:Act→(Nat→World→Prop)→Prop)(a:Act)(F:Nat→World→Prop):Prop:=
 if Region.wanted o (yielded ops a.tmps)=true then
  match S i with
  | none=>∃c,ik P C md F o a c∧K (a.put o.dst c) F
  | some s=>il P C G md F o a s∧∀x,K (a.put o.dst (s.f x)) (upd F i (s.Φ x))
 else K (a.put o.dst undef) F
def nV(C:World→Prop)(Q:Act→World→Prop)(a:Act)(F:Nat→World→Prop):Prop:=∀w,C w→(∀j,F j w)→Q a w
def fM(C:World→Prop)(F:Nat→World→Prop):Prop:=∃w,C w∧∀j,F j w
def kS(P:Program)(md:Region.Mode)(ops:Array Oper)(C:World→Prop)(G:World→World→Prop)(S:Nat→Option RSpec)(Q:Act→World→Prop):Nat→Array Bool→Act→(Nat→World→Prop)→Prop
 | 0,listed,a,F=>fM C F→(Region.ready md ops listed=[]∧nV C Q a F)
 | fuel+1,listed,a,F=>fM C F→((Region.ready md ops listed=[]→nV C Q a F) ∧
  ∀i∈Region.ready md ops listed,∀o,ops[i]?=some o→ck P ops C G md S i o (kS P md ops C G S Q fuel (listed.setIfInBounds i true)) a F)
def kH(P:Program)(ops:Array Oper)(C:World→Prop)(G:World→World→Prop)(md:Region.Mode)(S:Nat→Option RSpec)(Q:Act→World→Prop):List Oper→Nat→Act→(Nat→World→Prop)→Prop
 | [],_,a,F=>nV C Q a F
 | o::rest,k,a,F=>ck P ops C G md S k o (kH P ops C G md S Q rest (k+1)) a F
def Lasts(G:World→World→Prop)(F:Nat→World→Prop):Prop:=∀j w w',G w w'→F j w→F j w'
theorem Lasts.upd{F:Nat→World→Prop}(h:Lasts G F)(i:Nat){p:World→Prop}(hp:∀w w',G w w'→p w→p w'):Lasts G (upd F i p):=by
 intro j w w' hg hf;unfold Proofs.YtmomjpolkkbhnaaGreat.upd at *
 split
 ·rename_i e;rw[if_pos e]at hf;exact⟨h j _ _ hg hf.1,hp _ _ hg hf.2⟩
 rename_i e;rw[if_neg e]at hf;exact h j _ _ hg hf
theorem kV{o:Oper}{a:Act}{K':Act→World→Prop}{Q':Exit→Act→World→Prop}{w:World}{R:Value→World→Prop}(h:∀v w',G w w'→R v w'→K' (a.put o.dst v) w')
  (hh:bM P G w R ((execOp a.eval o).run P w)):o.wp P a w K' Q':=by
 unfold Oper.wp;generalize (execOp a.eval o).run P w=r at *
 cases r with
 | ok n w'=>
  cases n<;>simp only[bM]at hh<;>simp only[Oper.upon]
  case value u=>exact h _ _ hh.1 hh.2
  case skip=>exact h _ _ hh.1 hh.2
  case enter f args=>exact hh.mono fun e w'' ⟨v,he,hg,hr⟩=>by subst he;exact h _ _ hg hr
 | halt x w'=>simp only[bM]at hh
theorem kX(hS:∀i s,S i=some s→∀x w w',G w w'→s.Φ x w→s.Φ x w'){Q':Exit→Act→World→Prop}(hQ:∀a w,Q a w→Q' .normal a w) :
  ∀(fuel:Nat) (listed:Array Bool) (a:Act) (F:Nat→World→Prop) (w:World),C w→(∀j,F j w)→Lasts G F→kS P md ops C G S Q fuel listed a F→wpAny P md ops Q' fuel listed a w
 | 0,_,a,F,w,hC,hF,_,h=>⟨(h ⟨w,hC,hF⟩).1,hQ _ _ ((h ⟨w,hC,hF⟩).2 w hC hF)⟩
 | fuel+1,listed,a,F,w,hC,hF,hL,h=>by
  have h:=h ⟨w,hC,hF⟩;refine⟨fun h0=>hQ _ _ (h.1 h0 w hC hF),fun i hi=>?_⟩;unfold wpOp;obtain⟨_,o,ho,_⟩:=mem_ready.1 hi;simp only[ho];have hs:=h.2 i hi o ho;unfold ck at hs
  split
  ·rename_i hw;rw[if_pos hw]at hs;left
   split at hs
   ·rename_i hSi;obtain⟨c,h1,h2⟩:=hs;rcases h1 w hC (fun e _ _=>hF e.on)with hr|⟨hr,rfl⟩
    ·unfold Oper.wp;rw[hr];exact kX hS hQ fuel _ _ F w hC hF hL h2
    unfold Oper.wp;rw[hr];exact kX hS hQ fuel _ _ F w hC hF hL h2
   rename_i s hSi;refine kV ?_ (hs.1 w hC (fun e _ _=>hF e.on));rintro v w' hg ⟨hC',x,rfl,hx⟩;refine kX hS hQ fuel _ _ _ w' hC' ?_ (hL.upd i (hS i s hSi x)) (hs.2 x);intro j;unfold upd
   split
   ·exact⟨hL j _ _ hg (hF j),hx⟩
   exact hL j _ _ hg (hF j)
  rename_i hw;rw[if_neg hw]at hs;exact kX hS hQ fuel _ _ F w hC hF hL hs
def bJ(F:Nat→World→Prop)(i:Nat):Option (World→Prop)→Nat→World→Prop
 | none=>F
 | some p=>upd F i p
theorem vW{F:Nat→World→Prop}{i j:Nat}(h:i≠j)(p q:World→Prop):upd (upd F i p) j q=upd (upd F j q) i p:=by
 funext k w
 unfold upd;by_cases h1:k=j<;>by_cases h2:k=i
 ·omega
 ·subst h1;simp[h2]
 ·subst h2;simp[h1]
 simp[h1,h2]
theorem uL{F:Nat→World→Prop}{i j:Nat}(h:i≠j)(p q:Option (World→Prop)):bJ (bJ F i p) j q=bJ (bJ F j q) i p:=by
 cases p<;>cases q<;>simp only[bJ]
 exact vW h _ _
theorem pU{F:Nat→World→Prop}{i:Nat}{p:Option (World→Prop)}{j:Nat}{w:World}(h:bJ F i p j w):F j w:=by
 cases p with
 | none=>exact h
 | some p=>
  simp only[bJ,upd]at h
  split at h
  ·exact h.1
  exact h
theorem mJ{F:Nat→World→Prop}{i:Nat}{p:Option (World→Prop)}(h:fM C (bJ F i p)):fM C F:=by
 obtain⟨w,hC,hw⟩:=h;exact⟨w,hC,fun j=>pU (hw j)⟩
theorem gJ{o:Oper}{F:Nat→World→Prop}{i:Nat}{p:Option (World→Prop)}(hn:∀e∈o.after,Region.binds md e=true→e.on≠i)(w:World):cB md o (bJ F i p) w↔cB md o F w:=by
 refine⟨fun h e he hb=>pU (h e he hb),fun h e he hb=>?_⟩
 cases p with
 | none=>exact h e he hb
 | some p=>
  simp only[bJ,upd];rw[if_neg (hn e he hb)];exact h e he hb
inductive Head (P:Program) (ops:Array Oper) (C:World→Prop) (G:World→World→Prop) (md:Region.Mode) (S:Nat→Option RSpec) (i:Nat) (o:Oper) (a:Act) (F:Nat→World→Prop):(V:Type)→(V→Value)→(V→Option (World→Prop))→Prop
 | skip (h:Region.wanted o (yielded ops a.tmps)=false):Head P ops C G md S i o a F Unit (fun _=>undef) (fun _=>none)
 | fixed (h:Region.wanted o (yielded ops a.tmps)=true) (hs:S i=none) (c:Value) (hf:ik P C md F o a c):Head P ops C G md S i o a F Unit (fun _=>c) (fun _=>none)
 | gives (h:Region.wanted o (yielded ops a.tmps)=true) (s:RSpec) (hs:S i=some s) (hg:il P C G md F o a s):Head P ops C G md S i o a F s.α s.f (fun x=>some (s.Φ x))
theorem Head.step{i:Nat}{o:Oper}{a:Act}{F:Nat→World→Prop}{V:Type}{f:V→Value}{p:V→Option (World→Prop)}(h:Head P ops C G md S i o a F V f p){K:Act→(Nat→World→Prop)→Prop}
  (hk:∀x,K (a.put o.dst (f x)) (bJ F i (p x))):ck P ops C G md S i o K a F:=by
 cases h with
 | skip h=>unfold ck;rw[if_neg (by rw[h];decide)];exact hk ()
 | fixed h hs c hf=>unfold ck;rw[if_pos h];simp only[hs];exact⟨c,hf,hk ()⟩
 | gives h s hs hg=>unfold ck;rw[if_pos h];simp only[hs];exact⟨hg,hk⟩
theorem fo{i:Nat}{o:Oper}{a:Act}{F:Nat→World→Prop}{K:Act→(Nat→World→Prop)→Prop}(h:ck P ops C G md S i o K a F) :
  ∃(V:Type) (f:V→Value) (p:V→Option (World→Prop)),Head P ops C G md S i o a F V f p∧∀x,K (a.put o.dst (f x)) (bJ F i (p x)):=by
 unfold ck at h;by_cases hw:Region.wanted o (yielded ops a.tmps)=true
 ·rw[if_pos hw]at h
  split at h
  ·rename_i hs;obtain⟨c,h1,h2⟩:=h;exact⟨_,_,_,.fixed hw hs c h1,fun _=>h2⟩
  rename_i s hs;exact⟨_,_,_,.gives hw s hs h.1,h.2⟩
 rw[if_neg hw]at h;exact⟨_,_,_,.skip (by simpa using hw),fun _=>h⟩
theorem Head.same{i:Nat}{o:Oper}{a a':Act}{F F':Nat→World→Prop}{V:Type}{f:V→Value}{p:V→Option (World→Prop)}(h:Head P ops C G md S i o a F V f p)
  (he:execOp a'.eval o=execOp a.eval o) (hw:Region.wanted o (yielded ops a'.tmps)=Region.wanted o (yielded ops a.tmps)) (hd:∀w,cB md o F' w↔cB md o F w):Head P ops C G md S i o a' F' V f p:=by
 cases h with
 | skip h=>exact .skip (by rw[hw];exact h)
 | fixed h hs c hf=>exact .fixed (by rw[hw];exact h) hs c (fun w hC hD=>by rw[he];exact hf w hC ((hd w).1 hD))
 | gives h s hs hg=>exact .gives (by rw[hw];exact h) s hs (fun w hC hD=>by rw[he];exact hg w hC ((hd w).1 hD))
theorem Head.one{i:Nat}{o:Oper}{a:Act}{F:Nat→World→Prop}{V V':Type}{f:V→Value}{p:V→Option (World→Prop)}{f':V'→Value}{p':V'→Option (World→Prop)}
  (h:Head P ops C G md S i o a F V f p) (h':Head P ops C G md S i o a F V' f' p') (hs:fM C F) (x:V):∃x',f' x'=f x∧p' x'=p x:=by
 obtain⟨w,hC,hF⟩:=hs;have hD:cB md o F w:=fun e _ _=>hF e.on
 cases h with
 | skip h=>
  cases h' with
  | skip h'=>exact⟨(),rfl,rfl⟩
  | fixed h' _ _ _=>rw[h]at h';cases h'
  | gives h' _ _ _=>rw[h]at h';cases h'
 | fixed h hs c hf=>
  cases h' with
  | skip h'=>rw[h]at h';cases h'
  | fixed h' hs' c' hf'=>
   refine⟨(),?_,rfl⟩;show c'=c;rcases hf w hC hD with h1|⟨h1,rfl⟩<;>rcases hf' w hC hD with h2|⟨h2,rfl⟩
   ·rw[h1]at h2;injection h2 with h2;injection h2 with h2;exact h2.symm
   ·rw[h1]at h2;injection h2 with h2;cases h2
   ·rw[h1]at h2;injection h2 with h2;cases h2
   rfl
  | gives h' s hs' hg'=>rw[hs]at hs';cases hs'
 | gives h s hs hg=>
  cases h' with
  | skip h'=>rw[h]at h';cases h'
  | fixed h' hs' c' hf'=>rw[hs]at hs';cases hs'
  | gives h' s' hs' hg'=>
   rw[hs]at hs';injection hs' with hs';subst hs';exact⟨x,rfl,rfl⟩
theorem Head.sat{i:Nat}{o:Oper}{a:Act}{F:Nat→World→Prop}{V:Type}{f:V→Value}{p:V→Option (World→Prop)}(h:Head P ops C G md S i o a F V f p)(hL:Lasts G F)(hs:fM C F):∃x,fM C (bJ F i (p x)):=by
 cases h with
 | skip h=>exact⟨(),hs⟩
 | fixed h _ c hf=>exact⟨(),hs⟩
 | gives h s hsi hg=>
  obtain⟨w,hC,hF⟩:=hs;have h1:=hg w hC (fun e _ _=>hF e.on)
  have key:∀v w',G w w'→(C w'∧∃x,v=s.f x∧s.Φ x w')→∃x,fM C (bJ F i (some (s.Φ x))):=by
   rintro v w' hg ⟨hC',x,_,hx⟩;refine⟨x,w',hC',fun j=>?_⟩;simp only[bJ,upd]
   split
   ·exact⟨hL j _ _ hg (hF j),hx⟩
   exact hL j _ _ hg (hF j)
  generalize (execOp a.eval o).run P w=r at h1
  cases r with
  | ok n w'=>
   cases n<;>simp only[bM]at h1
   case value u=>exact key _ _ h1.1 h1.2
   case skip=>exact key _ _ h1.1 h1.2
   case enter f args=>
    obtain⟨e,w'',_,⟨v,_,hg',hr⟩,_⟩:=h1 [];exact key v w'' hg' hr
  | halt x w'=>simp only[bM]at h1
theorem Head.lasts{i:Nat}{o:Oper}{a:Act}{F:Nat→World→Prop}{V:Type}{f:V→Value}{p:V→Option (World→Prop)}(hS:∀i s,S i=some s→∀x w w',G w w'→s.Φ x w→s.Φ x w')(h:Head P ops C G md S i o a F V f p)(hL:Lasts G F)(x:V):Lasts G (bJ F i (p x)):=by
 cases h with
 | skip h=>exact hL
 | fixed h _ c hf=>exact hL
 | gives h s hs hg=>exact hL.upd i (hS i s hs x)
theorem Bj(hS:∀i s,S i=some s→∀x w w',G w w'→s.Φ x w→s.Φ x w'){i:Nat}{oi:Oper}(hi:ops[i]?=some oi)(hsel:∀(j:Nat) (o:Oper) cs b,ops[j]?=some o→o.op≠.select cs b)
  {V:Type} {f:V→Value} {p:V→Option (World→Prop)} :
  ∀(fuel:Nat) (listed:Array Bool) (a:Act) (F:Nat→World→Prop),Lasts G F →
   (∀j oj,ops[j]?=some oj→j≠i→listed.getD j true=false→(∀e∈oj.after,Region.binds md e=true→e.on≠i)→oi.apart ops oj=true) →
   i∈Region.ready md ops listed→Head P ops C G md S i oi a F V f p →
   (∀x,kS P md ops C G S Q fuel (listed.setIfInBounds i true) (a.put oi.dst (f x)) (bJ F i (p x)))→kS P md ops C G S Q (fuel+1) listed a F:=by
 intro fuel
 induction fuel with
 | zero=>
  intro listed a F hL _ hr hy H hsat;refine⟨fun h=>(by rw[h]at hr;cases hr),fun j hj oj hoj=>?_⟩;by_cases hji:j=i
  ·subst hji;rw[hi]at hoj;injection hoj with hoj;subst hoj;exact hy.step H
  obtain⟨x,hx⟩:=hy.sat hL hsat;have:=ready_mono hj hji;rw[(H x hx).1]at this
  cases this
 | succ fuel ih=>
  intro listed a F hL hfree hr hy H hsat;refine⟨fun h=>(by rw[h]at hr;cases hr),fun j hj oj hoj=>?_⟩;by_cases hji:j=i
  ·subst hji;rw[hi]at hoj;injection hoj with hoj;subst hoj;exact hy.step H
  obtain⟨hjun,oj',hoj',hall⟩:=mem_ready.1 hj;rw[hoj]at hoj';injection hoj' with hoj';subst hoj'
  have hnot:∀e∈oj.after,Region.binds md e=true→e.on≠i:=fun e he hb heq=>by
   have h1:=hall e he hb;have h0:=(mem_ready.1 hr).1;rw[heq]at h1;rcases Nat.lt_or_ge i listed.size with h'|h'
   ·simp[h']at h0 h1;rw[h0]at h1;cases h1
   simp[Array.getElem?_eq_none h']at h1
  have hnot2:∀e∈oi.after,Region.binds md e=true→e.on≠j:=fun e he hb heq=>by
   obtain⟨h0,o2,ho2,hall2⟩:=mem_ready.1 hr;rw[hi]at ho2;injection ho2 with ho2;subst ho2;have h1:=hall2 e he hb;rw[heq]at h1;rcases Nat.lt_or_ge j listed.size with h'|h'
   ·simp[h']at hjun h1;rw[hjun]at h1;cases h1
   simp[Array.getElem?_eq_none h']at h1
  have hap:=hfree j oj hoj hji hjun hnot;obtain⟨a1,a2,a3⟩:=Oper.apart_spec hap;have hsi:∀cs b,oi.op≠.select cs b:=fun cs b=>hsel i oi cs b hi
  have hsj:∀cs b,oj.op≠.select cs b:=fun cs b=>hsel j oj cs b hoj
  obtain⟨x0,hx0⟩:=hy.sat hL hsat;obtain⟨Vj,fj,pj,hj0,_⟩:=fo ((H x0 hx0).2 j (ready_mono hj hji) oj hoj)
  have hjH:∀x,Head P ops C G md S j oj (a.put oi.dst (f x)) (bJ F i (p x)) Vj fj pj:=fun x=>
   hj0.same ((execOp_put oj hsj a oi.dst _ a1).trans (execOp_put oj hsj a oi.dst _ a1).symm) ((wanted_put oj a oi.dst _ a1).trans (wanted_put oj a oi.dst _ a1).symm) (fun w=>(gJ hnot w).trans (gJ hnot w).symm)
  have hja:Head P ops C G md S j oj a F Vj fj pj:=hj0.same (execOp_put oj hsj a oi.dst _ a1).symm (wanted_put oj a oi.dst _ a1).symm (fun w=>(gJ hnot w).symm);refine hja.step fun y=>?_
  refine ih (listed.setIfInBounds j true) (a.put oj.dst (fj y)) (bJ F j (pj y)) (hja.lasts hS hL y) ?_ (ready_mono hr (Ne.symm hji)) ?_ ?_
  ·intro k ok hk hki hun hno;refine hfree k ok hk hki ?_ hno;by_cases hjk:j=k
   ·subst hjk;exact hjun
   rw[getD_set_ne true hjk]at hun;exact hun
  ·exact hy.same (execOp_put oi hsi a oj.dst _ a3) (wanted_put oi a oj.dst _ a3) (fun w=>gJ hnot2 w)
  intro x;rw[←uL (Ne.symm hji),←Act.put_comm a (f x) (fj y) a2,Array.setIfInBounds_comm _ _ hji]
  have hb:fM C (bJ F i (p x))→kS P md ops C G S Q fuel ((listed.setIfInBounds i true).setIfInBounds j true) ((a.put oi.dst (f x)).put oj.dst (fj y)) (bJ (bJ F i (p x)) j (pj y)):=by
   intro hsx;obtain⟨V',f',p',h',hk'⟩:=fo ((H x hsx).2 j (ready_mono hj hji) oj hoj);obtain⟨y',e1,e2⟩:=(hjH x).one h' hsx y;rw[←e1,←e2];exact hk' y'
  cases fuel with
  | zero=>exact fun hs=>hb (mJ hs) hs
  | succ fuel=>exact fun hs=>hb (mJ hs) hs
theorem vh(hS:∀i s,S i=some s→∀x w w',G w w'→s.Φ x w→s.Φ x w')(hs:Region.noSelect ops=true):∀(l:List Oper) (k:Nat) (listed:Array Bool) (a:Act) (F:Nat→World→Prop),Lasts G F→(∀j,l[j]?=ops[k+j]?) →
  Region.lexFrom md ops l.length k listed=true→kH P ops C G md S Q l k a F→kS P md ops C G S Q l.length listed a F
 | [],_,_,_,_,_,_,hB,h=>fun _=>⟨by simpa[Region.lexFrom]using hB,h⟩
 | o::l,k,listed,a,F,hL,hl,hB,h=>by
  have h0:ops[k]?=some o:=by simpa using(hl 0).symm
  simp only[List.length_cons,Region.lexFrom,Bool.and_eq_true]at hB;obtain⟨⟨hr,hf⟩,hB'⟩:=hB;obtain⟨V,f,p,hh,hk⟩:=fo (show ck P ops C G md S k o (kH P ops C G md S Q l (k+1)) a F from h)
  exact Bj hS h0 (Region.noSelect_spec hs) l.length listed a F hL (Region.free_spec h0 hf) (by simpa using hr) hh
   (fun x=>vh hS hs l (k+1) _ _ _ (hh.lasts hS hL x) (fun j=>by have:=hl (j+1);simpa[Nat.add_assoc,Nat.add_comm 1 j]using this) hB' (hk x))
structure GrowAt (P:Program) (ops:Array Oper) (C:World→Prop) (G:World→World→Prop) (md:Region.Mode) (S:Nat→Option RSpec) (Q:Act→World→Prop) (l:List Oper) (k:Nat) (a:Act) (F:Nat→World→Prop):Prop where
 out:kH P ops C G md S Q l k a F
theorem cH{id:Nat}{Q':Exit→Act→World→Prop}{a:Act}{w:World}{l:List Oper}(S:Nat→Option RSpec)(C:World→Prop)(G:World→World→Prop)
  (hm:P.follows .mixedOrders=true) (hB:Region.lexB .any l.toArray=true) (hS:∀i s,S i=some s→∀x w w',G w w'→s.Φ x w→s.Φ x w') (hC:C { w with drawn:=w.drawn+1 })
  (h:GrowAt P l.toArray C G .any S (fun a w=>Q' .normal a w) l 0 a (fun _ _=>True)):(Code.region id l.toArray true).wp P Q' a w:=by
 simp only[Region.lexB,Bool.and_eq_true]at hB;refine wp_region_any hm (kX hS (fun _ _ h=>h) _ _ _ _ _ hC (fun _=>trivial) (fun _ _ _ _ _=>trivial) ?_);have:=vh (C:=C) (G:=G) (md:=.any) hS hB.1 l 0 (Array.replicate l.toArray.size false) a (fun _ _=>True) (fun _ _ _ _ _=>trivial) jz (by simpa using hB.2) h.out
 simpa using this
theorem aS(k':Nat)(r:Option Bool)(b:Bool){j:Nat}{o:Oper}{rest:List Oper}{k:Nat}{a:Act}{F:Nat→World→Prop}(hk:k+1=k')(hg:o.guard=some (j,b))(hy:yielded ops a.tmps j=r)(hr:(r==some b)=false)
  (h:GrowAt P ops C G md S Q rest k' (a.put o.dst undef) F):GrowAt P ops C G md S Q (o::rest) k a F:=by
 have hw:Region.wanted o (yielded ops a.tmps)=false:=by
  unfold Region.wanted;rw[hg];simp only[hy];exact hr
 subst hk;refine⟨?_⟩;show ck P ops C G md S k o _ a F;unfold ck;rw[if_neg (by rw[hw];decide)];exact h.out
theorem aH(k':Nat)(c:Value){o:Oper}{rest:List Oper}{k:Nat}{a:Act}{F:Nat→World→Prop}(hk:k+1=k')(hs:S k=none)(hw:Region.wanted o (yielded ops a.tmps)=true)
  (hf:∀w,C w→cB md o F w→(execOp a.eval o).run P w=.ok (.value c) w) (h:GrowAt P ops C G md S Q rest k' (a.put o.dst c) F):GrowAt P ops C G md S Q (o::rest) k a F:=by
 subst hk;refine⟨?_⟩;show ck P ops C G md S k o _ a F;unfold ck;rw[if_pos hw];simp only[hs];exact⟨c,fun w hC hD=>.inl (hf w hC hD),h.out⟩
theorem ae(k':Nat)(s:RSpec){o:Oper}{rest:List Oper}{k:Nat}{a:Act}{F:Nat→World→Prop}(hk:k+1=k')(hs:S k=some s)(hw:Region.wanted o (yielded ops a.tmps)=true)
  (hg:∀w,C w→cB md o F w→bM P G w (fun v w'=>C w'∧∃x,v=s.f x∧s.Φ x w') ((execOp a.eval o).run P w)) (h:∀x,GrowAt P ops C G md S Q rest k' (a.put o.dst (s.f x)) (upd F k (s.Φ x))):GrowAt P ops C G md S Q (o::rest) k a F:=by
 subst hk;refine⟨?_⟩;show ck P ops C G md S k o _ a F;unfold ck;rw[if_pos hw];simp only[hs];exact⟨hg,fun x=>(h x).out⟩
theorem ah{k:Nat}{a:Act}{F:Nat→World→Prop}(h:∀w,C w→(∀j,F j w)→Q a w):GrowAt P ops C G md S Q [] k a F:=⟨h⟩
theorem fC{o:Oper}{F:Nat→World→Prop}{w:World}(h:cB md o F w)(j:Nat)(hj:(o.after.any fun e=>Region.binds md e&&e.on==j)=true):F j w:=by
 obtain⟨e,he,hb⟩:=Array.any_eq_true'.1 hj;simp only[Bool.and_eq_true,beq_iff_eq]at hb;have:=h e he hb.1
 rwa[hb.2]at this
theorem bf{F:Nat→World→Prop}{i j:Nat}{p:World→Prop}{w:World}(h:upd F i p j w)(e:j=i):p w:=by
 unfold upd at h;rw[if_pos e]at h;exact h.2
theorem mK{F:Nat→World→Prop}{i j:Nat}{p:World→Prop}{w:World}(h:upd F i p j w)(e:j≠i):F j w:=by
 unfold upd at h
 rwa[if_neg e]at h
theorem aZ{o:Oper}{a:Act}{w:World}{R:Value→World→Prop}{f:FuncId}{args:Array Value}(hr:(execOp a.eval o).run P w=.ok (.enter f args) w)
  (hc:Calls P f args w (fun e w''=>∃v,e=.returned v∧G w w''∧R v w'')):bM P G w R ((execOp a.eval o).run P w):=by
 rw[hr];exact hc
def aI:List (Nat × RSpec)→Nat→Option RSpec
 | [],_=>none
 | (i,s)::l,k=>if k=i then some s else aI l k
def rG(G:World→World→Prop)(l:List (Nat × RSpec)):Prop:=∀i s,aI l i=some s→∀x w w',G w w'→s.Φ x w→s.Φ x w'
theorem aX:rG G []:=fun _ _ h=>by cases h
theorem aN{i:Nat}{s:RSpec}{l:List (Nat × RSpec)}(h:∀x w w',G w w'→s.Φ x w→s.Φ x w')(hl:rG G l):rG G ((i,s)::l):=by
 intro k t ht;unfold aI at ht
 split at ht
 ·injection ht with ht;subst ht;exact h
 exact hl k t ht
theorem cz{W w:World}{f:FuncId}{args:Array Value}{c:Value}(hC:Below W.heap.size W w)(h:Calls P f args w fun e w'=>e=.returned c∧Below w.heap.size w w') :
  Calls P f args w (fun e w''=>∃v,e=.returned v∧Below w.heap.size w w''∧(Below W.heap.size W w''∧∃_x:Unit,v=c∧True)):=
 h.mono fun _ _ ⟨he,hb⟩=>⟨c,he,hb,hC.trans (hb.mono hC.size),(),rfl,trivial⟩
end
end
end Go.Proofs.YtmomjpolkkbhnaaGreat
