/- The walk of utf.Decode at runes of 2 bytes. -/
import Derived.Deep.QuietTactic
import Derived.BigQuiet
import Derived.Test.YtmomjpolkkbhnaaGreatQModelRunsRow0
set_option maxRecDepth 20000
set_option maxHeartbeats 100000000
set_option linter.unusedSimpArgs false
open Go.Proofs.Tryz
namespace Go.Proofs.YtmomjpolkkbhnaaGreat
namespace Ut
open Go.RowKit
set_option maxRecDepth 100000 in
theorem GH(s:ByteArray)(k m:Nat)(w:World)(hk:k<s.size)(hm:(s[k]).toNat=m)(h128:128≤m)(h256:m<256)(hq:m/32=6)(hs:s.size≤140737488351232) :
  Calls prog 181 #[.string s,.int .i64 (k:Int)] w fun e w'=>
   e=.returned (.tuple #[.int .i64 ((fR (m%32) (s.data.toList.drop (k+1)) 2 128 2047).1:Nat),.int .i64 ((fR (m%32) (s.data.toList.drop (k+1)) 2 128 2047).2:Nat)])∧zWW w w':=by
 have h0:¬(k:Int)<0:=jo;have h1:¬(s.size:Int)≤(k:Int):=jo;have h2:¬(m:Int)<128:=jo;have A:=rz m h256;have M:=sD m h256;have B:=sF m h256;rw[show decide (m/32=6)=true from by simp;omega]at A;rw[show decide (m/16=14)=false from by simp;omega]at M;rw[show decide (m/8=30)=false from by simp;omega]at B;simp only[Bool.not_true,Bool.not_false]at A M B;have i0:=rQ;have i1:=rR;have i2:=rS;by_cases R:k+2≤s.size
 ·obtain⟨u,y,t,ae⟩:∃u:ByteArray,u.size=1∧u.data.toList=(s.data.toList.drop (k+1)).take 1∧∀W:World,(Instr.slice 9 (.string s) (some (.int .i64 ((k:Int)+1))) (some (.int .i64 ((k:Int)+2))) none).run prog W=.ok (.string u) W:=wJ s k 2 jo R;obtain⟨ag,C,G,q,hC⟩:=qY (P:=prog) 9 30 5 u underlying9 underlying30 underlying5;have ap:=NZ m h256;rw[y]at q;have ak:=zh t;have Hus:=zh y;have HC:=zh hC;have Fin:=zh (uu (m%32) (s.data.toList.drop (k+1)) 2 128 2047 (by rw[zP,fB];omega));rw[show 2-1=1 from rfl,←t]at Fin;clear t y hC;go_enter func181,ntmps181;go_wp2_with (go_at_call 201;refine(nX _).mono ?_;rintro e c ⟨rfl,f⟩);refine wp_loop_rounds 4 ?_;rw[rounds_succ];go_wp2_with fail
  have L:zWW w (((c.alloc (.cells #[.int .i64 2,.int .u8 224,.int .u8 192,.int .i64 128,.int .i64 2047,.int .i64 (-1)] 243)).alloc (.cells (C (c.alloc (.cells #[.int .i64 2,.int .u8 224,.int .u8 192,.int .i64 128,.int .i64 2047,.int .i64 (-1)] 243))) 5 (G (c.alloc (.cells #[.int .i64 2,.int .u8 224,.int .u8 192,.int .i64 128,.int .i64 2047,.int .i64 (-1)] 243))))).drew):=
   (((f).alloc (by have:=f.size;simp;omega) _).alloc (by have:=f.size;simp;omega) _).drew
  have z:Blk (((c.alloc (.cells #[.int .i64 2,.int .u8 224,.int .u8 192,.int .i64 128,.int .i64 2047,.int .i64 (-1)] 243)).alloc (.cells (C (c.alloc (.cells #[.int .i64 2,.int .u8 224,.int .u8 192,.int .i64 128,.int .i64 2047,.int .i64 (-1)] 243))) 5 (G (c.alloc (.cells #[.int .i64 2,.int .u8 224,.int .u8 192,.int .i64 128,.int .i64 2047,.int .i64 (-1)] 243))))).drew) (c.heap.size) 243 #[.int .i64 2,.int .u8 224,.int .u8 192,.int .i64 128,.int .i64 2047,.int .i64 (-1)]:=by
   have:=((Blk.new c 243 #[.int .i64 2,.int .u8 224,.int .u8 192,.int .i64 128,.int .i64 2047,.int .i64 (-1)]).alloc (.cells (C (c.alloc (.cells #[.int .i64 2,.int .u8 224,.int .u8 192,.int .i64 128,.int .i64 2047,.int .i64 (-1)] 243))) 5 (G (c.alloc (.cells #[.int .i64 2,.int .u8 224,.int .u8 192,.int .i64 128,.int .i64 2047,.int .i64 (-1)] 243))))).drew
   simpa using this
  have I:∀(i:Nat) (h:i<u.size),(((c.alloc (.cells #[.int .i64 2,.int .u8 224,.int .u8 192,.int .i64 128,.int .i64 2047,.int .i64 (-1)] 243)).alloc (.cells (C (c.alloc (.cells #[.int .i64 2,.int .u8 224,.int .u8 192,.int .i64 128,.int .i64 2047,.int .i64 (-1)] 243))) 5 (G (c.alloc (.cells #[.int .i64 2,.int .u8 224,.int .u8 192,.int .i64 128,.int .i64 2047,.int .i64 (-1)] 243))))).drew).cell? ⟨c.heap.size+1,i,none⟩=some (.int .u8 ((u[i]).toNat:Int)):=fun i h=>by
   have:=tZ c (.cells #[.int .i64 2,.int .u8 224,.int .u8 192,.int .i64 128,.int .i64 2047,.int .i64 (-1)] 243) (C (c.alloc (.cells #[.int .i64 2,.int .u8 224,.int .u8 192,.int .i64 128,.int .i64 2047,.int .i64 (-1)] 243))) 5 (G (c.alloc (.cells #[.int .i64 2,.int .u8 224,.int .u8 192,.int .i64 128,.int .i64 2047,.int .i64 (-1)] 243))) i;have h2:=HC.out (c.alloc (.cells #[.int .i64 2,.int .u8 224,.int .u8 192,.int .i64 128,.int .i64 2047,.int .i64 (-1)] 243)) i h;try simp only[vM]at this
   exact this.trans h2
  have ac:=zh L;have Y:=zh z;have ab:=zh I;clear L z I
  go_loopw [9,10,63] (fun r o i wr=>∃j:Nat,j≤1∧i=.int .i64 j∧r=.int .i64 (acc (m%32) (u.data.toList.take j):Nat)∧o=.bool ((u.data.toList.take j).all gF)∧zWW w wr∧Blk wr (c.heap.size) 243 #[.int .i64 2,.int .u8 224,.int .u8 192,.int .i64 128,.int .i64 2047,.int .i64 (-1)] ∧
    ∀(i:Nat) (h:i<u.size),wr.cell? ⟨c.heap.size+1,i,none⟩=some (.int .u8 ((u[i]).toNat:Int))) (fun _ _ i _=>1-(intOf i).toNat)
  case atStart=>exact⟨0,jo,rfl,by simp[uq],rfl,ac.out,Y.out,ab.out⟩
  obtain⟨j,hj,rfl,hr,X,b,g,l⟩:=hrel;by_cases T:j<1
  ·have S:j<u.size:=by rw[Hus.out];exact T
   have am:=l j S;have hx:=(u[j]).toNat_lt;have al:=xB _ hx;have ad:=wZ _ hx;have N:=nW u j S;have U:=qo (m%32) (u.data.toList.take j) u[j];have v:((u.data.toList.take j) ++ [u[j]]).all gF=((u.data.toList.take j).all gF&&(u[j].toNat/64==2)):=by rw[List.all_append];simp[gF]
   rw[←N]at U v;have J:=oD (m%32) (u.data.toList.take j) jo jw
   have ai:bits BinOp.or IntKind.i64 ((acc (m%32) (u.data.toList.take j):Int)*64) ((u[j].toNat:Int)%64)=((acc (m%32) (u.data.toList.take j)*64+u[j].toNat%64:Nat):Int):=by
    rw[show ((u[j].toNat:Int)%64)=((u[j].toNat%64:Nat):Int)from by omega];exact uQ (acc (m%32) (u.data.toList.take j)) (u[j].toNat%64) J jo
   have Ha:=zh U;have Hal:=zh v;have Hcl:=zh l;have Hkb:=zh g;have Hb:=zh b;clear U v l g b N;generalize acc (m%32) (u.data.toList.take j)=a at *;generalize (u.data.toList.take j).all gF=ob at *;generalize F:u[j].toNat=x at *;have an:=zh F;clear F;generalize H:(x/64==2)=cb at *;have ao:=zh H;clear H;subst hr X
   cases ob
   ·go_wp2;go_roundw
    case rel=>exact⟨j+1,jo,ju,by rw[Ha.out];first|rfl|go_num,by rw[Hal.out];rfl,Hb.out,Hkb.out,Hcl.out⟩
    simp[intOf];omega
   go_wp2;go_roundw
   case rel=>exact⟨j+1,jo,ju,by rw[Ha.out];first|rfl|go_num,by rw[Hal.out];rfl,Hb.out,Hkb.out,Hcl.out⟩
   simp[intOf];omega
  obtain rfl:j=1:=jo;have O:u.data.toList.take 1=u.data.toList:=zR (by rw[fB,Hus.out];exact zG _);rw[O]at hr X;have c3:=g.cell 3;have c4:=g.cell 4;have c5:=g.cell 5;have c0:=g.cell 0;have af:w.heap.size≤wr.heap.size:=b.size;have J:=oD (m%32) u.data.toList jo (by rw[fB,Hus.out];omega);have aa:=g.lt;clear l O g;generalize acc (m%32) u.data.toList=a at *;generalize u.data.toList.all gF=ob at *;subst hr X
  cases ob
  ·have d:=zh (Fin.out false rfl);clear Fin;go_wp2_with (first|(go_at_call 182;refine(jG b (ig _ _ _ _ _)).mono ?_;rintro e w' ⟨rfl,b⟩)|(go_at_call 202;refine(iz _ _).mono ?_;rintro e w' ⟨rfl,rfl⟩));rw[rounds_succ];go_wp2_with fail;have b:=b.alloc b.size (.cells #[.int .i64 3,.int .u8 240,.int .u8 224,.int .i64 2048,.int .i64 65535,.int .i64 (-1)] 243);rw[rounds_succ];go_wp2_with fail;have b:=b.alloc b.size (.cells #[.int .i64 4,.int .u8 248,.int .u8 240,.int .i64 65536,.int .i64 1114111,.int .i64 (-1)] 243);rw[rounds_succ];go_wp2_with fail;go_ret2;exact⟨by rw[d.out];rfl,b⟩
  by_cases n:inB 128 2047 (-1) (a:Int)=true
  ·by_cases Z:gX (a:Int)=true
   ·have d:=zh (Fin.out false (by rw[show inB ((128:Nat):Int) ((2047:Nat):Int) (-1) (a:Int)=true from n,Z];rfl));clear Fin;go_wp2_with (first|(go_at_call 182;refine(jG b (ig _ _ _ _ _)).mono ?_;rintro e w' ⟨rfl,b⟩)|(go_at_call 202;refine(iz _ _).mono ?_;rintro e w' ⟨rfl,rfl⟩));rw[rounds_succ];go_wp2_with fail;have b:=b.alloc b.size (.cells #[.int .i64 3,.int .u8 240,.int .u8 224,.int .i64 2048,.int .i64 65535,.int .i64 (-1)] 243);rw[rounds_succ];go_wp2_with fail;have b:=b.alloc b.size (.cells #[.int .i64 4,.int .u8 248,.int .u8 240,.int .i64 65536,.int .i64 1114111,.int .i64 (-1)] 243);rw[rounds_succ];go_wp2_with fail;go_ret2;exact⟨by rw[d.out];rfl,b⟩
   have V:gX (a:Int)=false:=by simpa using Z
   have d:=zh (Fin.out true (by rw[show inB ((128:Nat):Int) ((2047:Nat):Int) (-1) (a:Int)=true from n,V];rfl));clear Fin Z;go_wp2_with (first|(go_at_call 182;refine(ig _ _ _ _ _).mono ?_;rintro e w3 ⟨rfl,E⟩;have ah:=(E.cell (p:=⟨c.heap.size,0,none⟩) aa).trans c0)|(go_at_call 202;refine(iz _ _).mono ?_;rintro e w' ⟨rfl,rfl⟩));go_quiet (fail);go_wp2;go_ret2;exact⟨by rw[d.out];rfl,below_drewN (b.trans (E.mono b.size)) _⟩
  have D:inB 128 2047 (-1) (a:Int)=false:=by simpa using n
  have d:=zh (Fin.out false (by rw[show inB ((128:Nat):Int) ((2047:Nat):Int) (-1) (a:Int)=false from D];rfl));clear Fin n;go_wp2_with (first|(go_at_call 182;refine(jG b (ig _ _ _ _ _)).mono ?_;rintro e w' ⟨rfl,b⟩)|(go_at_call 202;refine(iz _ _).mono ?_;rintro e w' ⟨rfl,rfl⟩));rw[rounds_succ];go_wp2_with fail;have b:=b.alloc b.size (.cells #[.int .i64 3,.int .u8 240,.int .u8 224,.int .i64 2048,.int .i64 65535,.int .i64 (-1)] 243);rw[rounds_succ];go_wp2_with fail;have b:=b.alloc b.size (.cells #[.int .i64 4,.int .u8 248,.int .u8 240,.int .i64 65536,.int .i64 1114111,.int .i64 (-1)] 243);rw[rounds_succ];go_wp2_with fail;go_ret2;exact⟨by rw[d.out];rfl,b⟩
 have d:=zh (tN (m%32) (s.data.toList.drop (k+1)) 2 128 2047 (by rw[zP,fB];omega));have aj:(s.size:Int)-(k:Int)<2:=jo;go_enter func181,ntmps181;go_wp2_with (go_at_call 201;refine(nX _).mono ?_;rintro e c ⟨rfl,f⟩);refine wp_loop_rounds 4 ?_;rw[rounds_succ];go_wp2_with fail;rw[rounds_succ];go_wp2_with fail;rw[rounds_succ];go_wp2_with fail;rw[rounds_succ];go_wp2_with fail;go_ret2;exact⟨by rw[d.out];rfl,((f.alloc f.size _).alloc (by have:=f.size;simp;omega) _).alloc (by have:=f.size;simp;omega) _⟩
end Ut

namespace Ut
open Go.RowKit
set_option maxRecDepth 100000 in
theorem GI(s:ByteArray)(k m:Nat)(w:World)(hk:k<s.size)(hm:(s[k]).toNat=m)(h128:128≤m)(h256:m<256)(hq:m/16=14)(hs:s.size≤140737488351232) :
  Calls prog 181 #[.string s,.int .i64 (k:Int)] w fun e w'=>
   e=.returned (.tuple #[.int .i64 ((fR (m%16) (s.data.toList.drop (k+1)) 3 2048 65535).1:Nat),.int .i64 ((fR (m%16) (s.data.toList.drop (k+1)) 3 2048 65535).2:Nat)])∧zWW w w':=by
 have h0:¬(k:Int)<0:=jo;have h1:¬(s.size:Int)≤(k:Int):=jo;have h2:¬(m:Int)<128:=jo;have A:=rz m h256;have M:=sD m h256;have B:=sF m h256;rw[show decide (m/32=6)=false from by simp;omega]at A;rw[show decide (m/16=14)=true from by simp;omega]at M;rw[show decide (m/8=30)=false from by simp;omega]at B;simp only[Bool.not_true,Bool.not_false]at A M B;have i0:=rQ;have i1:=rR;have i2:=rS;by_cases R:k+3≤s.size
 ·obtain⟨u,y,t,ae⟩:∃u:ByteArray,u.size=2∧u.data.toList=(s.data.toList.drop (k+1)).take 2∧∀W:World,(Instr.slice 9 (.string s) (some (.int .i64 ((k:Int)+1))) (some (.int .i64 ((k:Int)+3))) none).run prog W=.ok (.string u) W:=wJ s k 3 jo R;obtain⟨ag,C,G,q,hC⟩:=qY (P:=prog) 9 30 5 u underlying9 underlying30 underlying5;have ap:=Na m h256;rw[y]at q;have ak:=zh t;have Hus:=zh y;have HC:=zh hC;have Fin:=zh (uu (m%16) (s.data.toList.drop (k+1)) 3 2048 65535 (by rw[zP,fB];omega));rw[show 3-1=2 from rfl,←t]at Fin;clear t y hC;go_enter func181,ntmps181;go_wp2_with (go_at_call 201;refine(nX _).mono ?_;rintro e c ⟨rfl,d⟩);refine wp_loop_rounds 4 ?_;rw[rounds_succ];go_wp2_with fail;rw[rounds_succ];go_wp2_with fail
  have L:zWW w ((((c.alloc (.cells #[.int .i64 2,.int .u8 224,.int .u8 192,.int .i64 128,.int .i64 2047,.int .i64 (-1)] 243)).alloc (.cells #[.int .i64 3,.int .u8 240,.int .u8 224,.int .i64 2048,.int .i64 65535,.int .i64 (-1)] 243)).alloc (.cells (C ((c.alloc (.cells #[.int .i64 2,.int .u8 224,.int .u8 192,.int .i64 128,.int .i64 2047,.int .i64 (-1)] 243)).alloc (.cells #[.int .i64 3,.int .u8 240,.int .u8 224,.int .i64 2048,.int .i64 65535,.int .i64 (-1)] 243))) 5 (G ((c.alloc (.cells #[.int .i64 2,.int .u8 224,.int .u8 192,.int .i64 128,.int .i64 2047,.int .i64 (-1)] 243)).alloc (.cells #[.int .i64 3,.int .u8 240,.int .u8 224,.int .i64 2048,.int .i64 65535,.int .i64 (-1)] 243))))).drew):=
   ((((d.alloc (d.size) _)).alloc (by have:=d.size;simp;omega) _).alloc (by have:=d.size;simp;omega) _).drew
  have z:Blk ((((c.alloc (.cells #[.int .i64 2,.int .u8 224,.int .u8 192,.int .i64 128,.int .i64 2047,.int .i64 (-1)] 243)).alloc (.cells #[.int .i64 3,.int .u8 240,.int .u8 224,.int .i64 2048,.int .i64 65535,.int .i64 (-1)] 243)).alloc (.cells (C ((c.alloc (.cells #[.int .i64 2,.int .u8 224,.int .u8 192,.int .i64 128,.int .i64 2047,.int .i64 (-1)] 243)).alloc (.cells #[.int .i64 3,.int .u8 240,.int .u8 224,.int .i64 2048,.int .i64 65535,.int .i64 (-1)] 243))) 5 (G ((c.alloc (.cells #[.int .i64 2,.int .u8 224,.int .u8 192,.int .i64 128,.int .i64 2047,.int .i64 (-1)] 243)).alloc (.cells #[.int .i64 3,.int .u8 240,.int .u8 224,.int .i64 2048,.int .i64 65535,.int .i64 (-1)] 243))))).drew) (c.heap.size+1) 243 #[.int .i64 3,.int .u8 240,.int .u8 224,.int .i64 2048,.int .i64 65535,.int .i64 (-1)]:=by
   have:=((Blk.new (c.alloc (.cells #[.int .i64 2,.int .u8 224,.int .u8 192,.int .i64 128,.int .i64 2047,.int .i64 (-1)] 243)) 243 #[.int .i64 3,.int .u8 240,.int .u8 224,.int .i64 2048,.int .i64 65535,.int .i64 (-1)]).alloc (.cells (C ((c.alloc (.cells #[.int .i64 2,.int .u8 224,.int .u8 192,.int .i64 128,.int .i64 2047,.int .i64 (-1)] 243)).alloc (.cells #[.int .i64 3,.int .u8 240,.int .u8 224,.int .i64 2048,.int .i64 65535,.int .i64 (-1)] 243))) 5 (G ((c.alloc (.cells #[.int .i64 2,.int .u8 224,.int .u8 192,.int .i64 128,.int .i64 2047,.int .i64 (-1)] 243)).alloc (.cells #[.int .i64 3,.int .u8 240,.int .u8 224,.int .i64 2048,.int .i64 65535,.int .i64 (-1)] 243))))).drew
   simpa using this
  have I:∀(i:Nat) (h:i<u.size),((((c.alloc (.cells #[.int .i64 2,.int .u8 224,.int .u8 192,.int .i64 128,.int .i64 2047,.int .i64 (-1)] 243)).alloc (.cells #[.int .i64 3,.int .u8 240,.int .u8 224,.int .i64 2048,.int .i64 65535,.int .i64 (-1)] 243)).alloc (.cells (C ((c.alloc (.cells #[.int .i64 2,.int .u8 224,.int .u8 192,.int .i64 128,.int .i64 2047,.int .i64 (-1)] 243)).alloc (.cells #[.int .i64 3,.int .u8 240,.int .u8 224,.int .i64 2048,.int .i64 65535,.int .i64 (-1)] 243))) 5 (G ((c.alloc (.cells #[.int .i64 2,.int .u8 224,.int .u8 192,.int .i64 128,.int .i64 2047,.int .i64 (-1)] 243)).alloc (.cells #[.int .i64 3,.int .u8 240,.int .u8 224,.int .i64 2048,.int .i64 65535,.int .i64 (-1)] 243))))).drew).cell? ⟨c.heap.size+1+1,i,none⟩=some (.int .u8 ((u[i]).toNat:Int)):=fun i h=>by
   have:=tZ (c.alloc (.cells #[.int .i64 2,.int .u8 224,.int .u8 192,.int .i64 128,.int .i64 2047,.int .i64 (-1)] 243)) (.cells #[.int .i64 3,.int .u8 240,.int .u8 224,.int .i64 2048,.int .i64 65535,.int .i64 (-1)] 243) (C ((c.alloc (.cells #[.int .i64 2,.int .u8 224,.int .u8 192,.int .i64 128,.int .i64 2047,.int .i64 (-1)] 243)).alloc (.cells #[.int .i64 3,.int .u8 240,.int .u8 224,.int .i64 2048,.int .i64 65535,.int .i64 (-1)] 243))) 5 (G ((c.alloc (.cells #[.int .i64 2,.int .u8 224,.int .u8 192,.int .i64 128,.int .i64 2047,.int .i64 (-1)] 243)).alloc (.cells #[.int .i64 3,.int .u8 240,.int .u8 224,.int .i64 2048,.int .i64 65535,.int .i64 (-1)] 243))) i;have h2:=HC.out ((c.alloc (.cells #[.int .i64 2,.int .u8 224,.int .u8 192,.int .i64 128,.int .i64 2047,.int .i64 (-1)] 243)).alloc (.cells #[.int .i64 3,.int .u8 240,.int .u8 224,.int .i64 2048,.int .i64 65535,.int .i64 (-1)] 243)) i h;try simp only[vM]at this
   exact this.trans h2
  have ac:=zh L;have Y:=zh z;have ab:=zh I;clear L z I
  go_loopw [9,10,63] (fun r o i wr=>∃j:Nat,j≤2∧i=.int .i64 j∧r=.int .i64 (acc (m%16) (u.data.toList.take j):Nat)∧o=.bool ((u.data.toList.take j).all gF)∧zWW w wr∧Blk wr (c.heap.size+1) 243 #[.int .i64 3,.int .u8 240,.int .u8 224,.int .i64 2048,.int .i64 65535,.int .i64 (-1)] ∧
    ∀(i:Nat) (h:i<u.size),wr.cell? ⟨c.heap.size+1+1,i,none⟩=some (.int .u8 ((u[i]).toNat:Int))) (fun _ _ i _=>2-(intOf i).toNat)
  case atStart=>exact⟨0,jo,rfl,by simp[uq],rfl,ac.out,Y.out,ab.out⟩
  obtain⟨j,hj,rfl,hr,X,b,g,l⟩:=hrel;by_cases T:j<2
  ·have S:j<u.size:=by rw[Hus.out];exact T
   have am:=l j S;have hx:=(u[j]).toNat_lt;have al:=xB _ hx;have ad:=wZ _ hx;have N:=nW u j S;have U:=qo (m%16) (u.data.toList.take j) u[j];have v:((u.data.toList.take j) ++ [u[j]]).all gF=((u.data.toList.take j).all gF&&(u[j].toNat/64==2)):=by rw[List.all_append];simp[gF]
   rw[←N]at U v;have J:=oD (m%16) (u.data.toList.take j) jo jw
   have ai:bits BinOp.or IntKind.i64 ((acc (m%16) (u.data.toList.take j):Int)*64) ((u[j].toNat:Int)%64)=((acc (m%16) (u.data.toList.take j)*64+u[j].toNat%64:Nat):Int):=by
    rw[show ((u[j].toNat:Int)%64)=((u[j].toNat%64:Nat):Int)from by omega];exact uQ (acc (m%16) (u.data.toList.take j)) (u[j].toNat%64) J jo
   have Ha:=zh U;have Hal:=zh v;have Hcl:=zh l;have Hkb:=zh g;have Hb:=zh b;clear U v l g b N;generalize acc (m%16) (u.data.toList.take j)=a at *;generalize (u.data.toList.take j).all gF=ob at *;generalize F:u[j].toNat=x at *;have an:=zh F;clear F;generalize H:(x/64==2)=cb at *;have ao:=zh H;clear H;subst hr X
   cases ob
   ·go_wp2;go_roundw
    case rel=>exact⟨j+1,jo,ju,by rw[Ha.out];first|rfl|go_num,by rw[Hal.out];rfl,Hb.out,Hkb.out,Hcl.out⟩
    simp[intOf];omega
   go_wp2;go_roundw
   case rel=>exact⟨j+1,jo,ju,by rw[Ha.out];first|rfl|go_num,by rw[Hal.out];rfl,Hb.out,Hkb.out,Hcl.out⟩
   simp[intOf];omega
  obtain rfl:j=2:=jo;have O:u.data.toList.take 2=u.data.toList:=zR (by rw[fB,Hus.out];exact zG _);rw[O]at hr X;have c3:=g.cell 3;have c4:=g.cell 4;have c5:=g.cell 5;have c0:=g.cell 0;have af:w.heap.size≤wr.heap.size:=b.size;have J:=oD (m%16) u.data.toList jo (by rw[fB,Hus.out];omega);have aa:=g.lt;clear l O g;generalize acc (m%16) u.data.toList=a at *;generalize u.data.toList.all gF=ob at *;subst hr X
  cases ob
  ·have f:=zh (Fin.out false rfl);clear Fin;go_wp2_with (first|(go_at_call 182;refine(jG b (ig _ _ _ _ _)).mono ?_;rintro e w' ⟨rfl,b⟩)|(go_at_call 202;refine(iz _ _).mono ?_;rintro e w' ⟨rfl,rfl⟩));rw[rounds_succ];go_wp2_with fail;have b:=b.alloc b.size (.cells #[.int .i64 4,.int .u8 248,.int .u8 240,.int .i64 65536,.int .i64 1114111,.int .i64 (-1)] 243);rw[rounds_succ];go_wp2_with fail;go_ret2;exact⟨by rw[f.out];rfl,b⟩
  by_cases n:inB 2048 65535 (-1) (a:Int)=true
  ·by_cases Z:gX (a:Int)=true
   ·have f:=zh (Fin.out false (by rw[show inB ((2048:Nat):Int) ((65535:Nat):Int) (-1) (a:Int)=true from n,Z];rfl));clear Fin;go_wp2_with (first|(go_at_call 182;refine(jG b (ig _ _ _ _ _)).mono ?_;rintro e w' ⟨rfl,b⟩)|(go_at_call 202;refine(iz _ _).mono ?_;rintro e w' ⟨rfl,rfl⟩));rw[rounds_succ];go_wp2_with fail;have b:=b.alloc b.size (.cells #[.int .i64 4,.int .u8 248,.int .u8 240,.int .i64 65536,.int .i64 1114111,.int .i64 (-1)] 243);rw[rounds_succ];go_wp2_with fail;go_ret2;exact⟨by rw[f.out];rfl,b⟩
   have V:gX (a:Int)=false:=by simpa using Z
   have f:=zh (Fin.out true (by rw[show inB ((2048:Nat):Int) ((65535:Nat):Int) (-1) (a:Int)=true from n,V];rfl));clear Fin Z;go_wp2_with (first|(go_at_call 182;refine(ig _ _ _ _ _).mono ?_;rintro e w3 ⟨rfl,E⟩;have ah:=(E.cell (p:=⟨c.heap.size+1,0,none⟩) aa).trans c0)|(go_at_call 202;refine(iz _ _).mono ?_;rintro e w' ⟨rfl,rfl⟩));go_quiet (fail);go_wp2;go_ret2;exact⟨by rw[f.out];rfl,below_drewN (b.trans (E.mono b.size)) _⟩
  have D:inB 2048 65535 (-1) (a:Int)=false:=by simpa using n
  have f:=zh (Fin.out false (by rw[show inB ((2048:Nat):Int) ((65535:Nat):Int) (-1) (a:Int)=false from D];rfl));clear Fin n;go_wp2_with (first|(go_at_call 182;refine(jG b (ig _ _ _ _ _)).mono ?_;rintro e w' ⟨rfl,b⟩)|(go_at_call 202;refine(iz _ _).mono ?_;rintro e w' ⟨rfl,rfl⟩));rw[rounds_succ];go_wp2_with fail;have b:=b.alloc b.size (.cells #[.int .i64 4,.int .u8 248,.int .u8 240,.int .i64 65536,.int .i64 1114111,.int .i64 (-1)] 243);rw[rounds_succ];go_wp2_with fail;go_ret2;exact⟨by rw[f.out];rfl,b⟩
 have f:=zh (tN (m%16) (s.data.toList.drop (k+1)) 3 2048 65535 (by rw[zP,fB];omega));have aj:(s.size:Int)-(k:Int)<3:=jo;go_enter func181,ntmps181;go_wp2_with (go_at_call 201;refine(nX _).mono ?_;rintro e c ⟨rfl,d⟩);refine wp_loop_rounds 4 ?_;rw[rounds_succ];go_wp2_with fail;rw[rounds_succ];go_wp2_with fail;rw[rounds_succ];go_wp2_with fail;rw[rounds_succ];go_wp2_with fail;go_ret2;exact⟨by rw[f.out];rfl,((d.alloc d.size _).alloc (by have:=d.size;simp;omega) _).alloc (by have:=d.size;simp;omega) _⟩
end Ut
end Go.Proofs.YtmomjpolkkbhnaaGreat
