/- The walk of utf.Decode at runes of 4 bytes. -/
import Derived.Deep.QuietTactic
import Derived.BigQuiet
import Derived.Outline
import Derived.Test.YtmomjpolkkbhnaaGreatQModelRunsRow0
set_option maxRecDepth 20000
set_option maxHeartbeats 100000000
set_option linter.unusedSimpArgs false
open Go.Proofs.Tryz
namespace Go.Proofs.YtmomjpolkkbhnaaGreat
namespace Ut
open Go.RowKit
set_option maxRecDepth 100000 in
theorem GJ(s:ByteArray)(k m:Nat)(w:World)(hk:k<s.size)(hm:(s[k]).toNat=m)(h128:128≤m)(h256:m<256)(hq:m/8=30)(hs:s.size≤140737488351232) :
  Calls prog 181 #[.string s,.int .i64 (k:Int)] w fun e w'=>
   e=.returned (.tuple #[.int .i64 ((fR (m%8) (s.data.toList.drop (k+1)) 4 65536 1114111).1:Nat),.int .i64 ((fR (m%8) (s.data.toList.drop (k+1)) 4 65536 1114111).2:Nat)])∧zWW w w':=by
 have h0:¬(k:Int)<0:=jo;have h1:¬(s.size:Int)≤(k:Int):=jo;have h2:¬(m:Int)<128:=jo;have A:=rz m h256;have M:=sD m h256;have B:=sF m h256;rw[show decide (m/32=6)=false from by simp;omega]at A;rw[show decide (m/16=14)=false from by simp;omega]at M;rw[show decide (m/8=30)=true from by simp;omega]at B;simp only[Bool.not_true,Bool.not_false]at A M B;have i0:=rQ;have i1:=rR;have i2:=rS;by_cases R:k+4≤s.size
 ·obtain⟨u,y,t,ae⟩:∃u:ByteArray,u.size=3∧u.data.toList=(s.data.toList.drop (k+1)).take 3∧∀W:World,(Instr.slice 9 (.string s) (some (.int .i64 ((k:Int)+1))) (some (.int .i64 ((k:Int)+4))) none).run prog W=.ok (.string u) W:=wJ s k 4 jo R;obtain⟨ag,C,G,q,hC⟩:=qY (P:=prog) 9 30 5 u underlying9 underlying30 underlying5;have ap:=Nb m h256;rw[y]at q;have ak:=zh t;have Hus:=zh y;have HC:=zh hC;have Fin:=zh (uu (m%8) (s.data.toList.drop (k+1)) 4 65536 1114111 (by rw[zP,fB];omega));rw[show 4-1=3 from rfl,←t]at Fin;clear t y hC;go_enter func181,ntmps181;go_wp2_with (go_at_call 201;refine(nX _).mono ?_;rintro e b ⟨rfl,c⟩);refine wp_loop_rounds 4 ?_;rw[rounds_succ];go_wp2_with fail;rw[rounds_succ];go_wp2_with fail;rw[rounds_succ];go_wp2_with fail
  have L:zWW w (((((b.alloc (.cells #[.int .i64 2,.int .u8 224,.int .u8 192,.int .i64 128,.int .i64 2047,.int .i64 (-1)] 243)).alloc (.cells #[.int .i64 3,.int .u8 240,.int .u8 224,.int .i64 2048,.int .i64 65535,.int .i64 (-1)] 243)).alloc (.cells #[.int .i64 4,.int .u8 248,.int .u8 240,.int .i64 65536,.int .i64 1114111,.int .i64 (-1)] 243)).alloc (.cells (C (((b.alloc (.cells #[.int .i64 2,.int .u8 224,.int .u8 192,.int .i64 128,.int .i64 2047,.int .i64 (-1)] 243)).alloc (.cells #[.int .i64 3,.int .u8 240,.int .u8 224,.int .i64 2048,.int .i64 65535,.int .i64 (-1)] 243)).alloc (.cells #[.int .i64 4,.int .u8 248,.int .u8 240,.int .i64 65536,.int .i64 1114111,.int .i64 (-1)] 243))) 5 (G (((b.alloc (.cells #[.int .i64 2,.int .u8 224,.int .u8 192,.int .i64 128,.int .i64 2047,.int .i64 (-1)] 243)).alloc (.cells #[.int .i64 3,.int .u8 240,.int .u8 224,.int .i64 2048,.int .i64 65535,.int .i64 (-1)] 243)).alloc (.cells #[.int .i64 4,.int .u8 248,.int .u8 240,.int .i64 65536,.int .i64 1114111,.int .i64 (-1)] 243))))).drew):=
   (((((c.alloc (c.size) _).alloc (by have:=c.size;simp;omega) _)).alloc (by have:=c.size;simp;omega) _).alloc (by have:=c.size;simp;omega) _).drew
  have z:Blk (((((b.alloc (.cells #[.int .i64 2,.int .u8 224,.int .u8 192,.int .i64 128,.int .i64 2047,.int .i64 (-1)] 243)).alloc (.cells #[.int .i64 3,.int .u8 240,.int .u8 224,.int .i64 2048,.int .i64 65535,.int .i64 (-1)] 243)).alloc (.cells #[.int .i64 4,.int .u8 248,.int .u8 240,.int .i64 65536,.int .i64 1114111,.int .i64 (-1)] 243)).alloc (.cells (C (((b.alloc (.cells #[.int .i64 2,.int .u8 224,.int .u8 192,.int .i64 128,.int .i64 2047,.int .i64 (-1)] 243)).alloc (.cells #[.int .i64 3,.int .u8 240,.int .u8 224,.int .i64 2048,.int .i64 65535,.int .i64 (-1)] 243)).alloc (.cells #[.int .i64 4,.int .u8 248,.int .u8 240,.int .i64 65536,.int .i64 1114111,.int .i64 (-1)] 243))) 5 (G (((b.alloc (.cells #[.int .i64 2,.int .u8 224,.int .u8 192,.int .i64 128,.int .i64 2047,.int .i64 (-1)] 243)).alloc (.cells #[.int .i64 3,.int .u8 240,.int .u8 224,.int .i64 2048,.int .i64 65535,.int .i64 (-1)] 243)).alloc (.cells #[.int .i64 4,.int .u8 248,.int .u8 240,.int .i64 65536,.int .i64 1114111,.int .i64 (-1)] 243))))).drew) (b.heap.size+1+1) 243 #[.int .i64 4,.int .u8 248,.int .u8 240,.int .i64 65536,.int .i64 1114111,.int .i64 (-1)]:=by
   have:=((Blk.new ((b.alloc (.cells #[.int .i64 2,.int .u8 224,.int .u8 192,.int .i64 128,.int .i64 2047,.int .i64 (-1)] 243)).alloc (.cells #[.int .i64 3,.int .u8 240,.int .u8 224,.int .i64 2048,.int .i64 65535,.int .i64 (-1)] 243)) 243 #[.int .i64 4,.int .u8 248,.int .u8 240,.int .i64 65536,.int .i64 1114111,.int .i64 (-1)]).alloc (.cells (C (((b.alloc (.cells #[.int .i64 2,.int .u8 224,.int .u8 192,.int .i64 128,.int .i64 2047,.int .i64 (-1)] 243)).alloc (.cells #[.int .i64 3,.int .u8 240,.int .u8 224,.int .i64 2048,.int .i64 65535,.int .i64 (-1)] 243)).alloc (.cells #[.int .i64 4,.int .u8 248,.int .u8 240,.int .i64 65536,.int .i64 1114111,.int .i64 (-1)] 243))) 5 (G (((b.alloc (.cells #[.int .i64 2,.int .u8 224,.int .u8 192,.int .i64 128,.int .i64 2047,.int .i64 (-1)] 243)).alloc (.cells #[.int .i64 3,.int .u8 240,.int .u8 224,.int .i64 2048,.int .i64 65535,.int .i64 (-1)] 243)).alloc (.cells #[.int .i64 4,.int .u8 248,.int .u8 240,.int .i64 65536,.int .i64 1114111,.int .i64 (-1)] 243))))).drew
   simpa using this
  have I:∀(i:Nat) (h:i<u.size),(((((b.alloc (.cells #[.int .i64 2,.int .u8 224,.int .u8 192,.int .i64 128,.int .i64 2047,.int .i64 (-1)] 243)).alloc (.cells #[.int .i64 3,.int .u8 240,.int .u8 224,.int .i64 2048,.int .i64 65535,.int .i64 (-1)] 243)).alloc (.cells #[.int .i64 4,.int .u8 248,.int .u8 240,.int .i64 65536,.int .i64 1114111,.int .i64 (-1)] 243)).alloc (.cells (C (((b.alloc (.cells #[.int .i64 2,.int .u8 224,.int .u8 192,.int .i64 128,.int .i64 2047,.int .i64 (-1)] 243)).alloc (.cells #[.int .i64 3,.int .u8 240,.int .u8 224,.int .i64 2048,.int .i64 65535,.int .i64 (-1)] 243)).alloc (.cells #[.int .i64 4,.int .u8 248,.int .u8 240,.int .i64 65536,.int .i64 1114111,.int .i64 (-1)] 243))) 5 (G (((b.alloc (.cells #[.int .i64 2,.int .u8 224,.int .u8 192,.int .i64 128,.int .i64 2047,.int .i64 (-1)] 243)).alloc (.cells #[.int .i64 3,.int .u8 240,.int .u8 224,.int .i64 2048,.int .i64 65535,.int .i64 (-1)] 243)).alloc (.cells #[.int .i64 4,.int .u8 248,.int .u8 240,.int .i64 65536,.int .i64 1114111,.int .i64 (-1)] 243))))).drew).cell? ⟨b.heap.size+1+1+1,i,none⟩=some (.int .u8 ((u[i]).toNat:Int)):=fun i h=>by
   have:=tZ ((b.alloc (.cells #[.int .i64 2,.int .u8 224,.int .u8 192,.int .i64 128,.int .i64 2047,.int .i64 (-1)] 243)).alloc (.cells #[.int .i64 3,.int .u8 240,.int .u8 224,.int .i64 2048,.int .i64 65535,.int .i64 (-1)] 243)) (.cells #[.int .i64 4,.int .u8 248,.int .u8 240,.int .i64 65536,.int .i64 1114111,.int .i64 (-1)] 243) (C (((b.alloc (.cells #[.int .i64 2,.int .u8 224,.int .u8 192,.int .i64 128,.int .i64 2047,.int .i64 (-1)] 243)).alloc (.cells #[.int .i64 3,.int .u8 240,.int .u8 224,.int .i64 2048,.int .i64 65535,.int .i64 (-1)] 243)).alloc (.cells #[.int .i64 4,.int .u8 248,.int .u8 240,.int .i64 65536,.int .i64 1114111,.int .i64 (-1)] 243))) 5 (G (((b.alloc (.cells #[.int .i64 2,.int .u8 224,.int .u8 192,.int .i64 128,.int .i64 2047,.int .i64 (-1)] 243)).alloc (.cells #[.int .i64 3,.int .u8 240,.int .u8 224,.int .i64 2048,.int .i64 65535,.int .i64 (-1)] 243)).alloc (.cells #[.int .i64 4,.int .u8 248,.int .u8 240,.int .i64 65536,.int .i64 1114111,.int .i64 (-1)] 243))) i;have h2:=HC.out (((b.alloc (.cells #[.int .i64 2,.int .u8 224,.int .u8 192,.int .i64 128,.int .i64 2047,.int .i64 (-1)] 243)).alloc (.cells #[.int .i64 3,.int .u8 240,.int .u8 224,.int .i64 2048,.int .i64 65535,.int .i64 (-1)] 243)).alloc (.cells #[.int .i64 4,.int .u8 248,.int .u8 240,.int .i64 65536,.int .i64 1114111,.int .i64 (-1)] 243)) i h;try simp only[vM]at this
   exact this.trans h2
  have ac:=zh L;have Y:=zh z;have ab:=zh I;clear L z I
  go_loopw [9,10,63] (fun r o i wr=>∃j:Nat,j≤3∧i=.int .i64 j∧r=.int .i64 (acc (m%8) (u.data.toList.take j):Nat)∧o=.bool ((u.data.toList.take j).all gF)∧zWW w wr∧Blk wr (b.heap.size+1+1) 243 #[.int .i64 4,.int .u8 248,.int .u8 240,.int .i64 65536,.int .i64 1114111,.int .i64 (-1)] ∧
    ∀(i:Nat) (h:i<u.size),wr.cell? ⟨b.heap.size+1+1+1,i,none⟩=some (.int .u8 ((u[i]).toNat:Int))) (fun _ _ i _=>3-(intOf i).toNat)
  case atStart=>exact⟨0,jo,rfl,by simp[uq],rfl,ac.out,Y.out,ab.out⟩
  obtain⟨j,hj,rfl,hr,X,g,f,l⟩:=hrel;by_cases T:j<3
  ·have S:j<u.size:=by rw[Hus.out];exact T
   have am:=l j S;have hx:=(u[j]).toNat_lt;have al:=xB _ hx;have ad:=wZ _ hx;have N:=nW u j S;have U:=qo (m%8) (u.data.toList.take j) u[j];have v:((u.data.toList.take j) ++ [u[j]]).all gF=((u.data.toList.take j).all gF&&(u[j].toNat/64==2)):=by rw[List.all_append];simp[gF]
   rw[←N]at U v;have J:=oD (m%8) (u.data.toList.take j) jo jw
   have ai:bits BinOp.or IntKind.i64 ((acc (m%8) (u.data.toList.take j):Int)*64) ((u[j].toNat:Int)%64)=((acc (m%8) (u.data.toList.take j)*64+u[j].toNat%64:Nat):Int):=by
    rw[show ((u[j].toNat:Int)%64)=((u[j].toNat%64:Nat):Int)from by omega];exact uQ (acc (m%8) (u.data.toList.take j)) (u[j].toNat%64) J jo
   have Ha:=zh U;have Hal:=zh v;have Hcl:=zh l;have Hkb:=zh f;have Hb:=zh g;clear U v l f g N;generalize acc (m%8) (u.data.toList.take j)=a at *;generalize (u.data.toList.take j).all gF=ob at *;generalize F:u[j].toNat=x at *;have an:=zh F;clear F;generalize H:(x/64==2)=cb at *;have ao:=zh H;clear H;subst hr X
   cases ob
   ·go_wp2;go_roundw
    case rel=>exact⟨j+1,jo,ju,by rw[Ha.out];first|rfl|go_num,by rw[Hal.out];rfl,Hb.out,Hkb.out,Hcl.out⟩
    simp[intOf];omega
   go_wp2;go_roundw
   case rel=>exact⟨j+1,jo,ju,by rw[Ha.out];first|rfl|go_num,by rw[Hal.out];rfl,Hb.out,Hkb.out,Hcl.out⟩
   simp[intOf];omega
  obtain rfl:j=3:=jo;have O:u.data.toList.take 3=u.data.toList:=zR (by rw[fB,Hus.out];exact zG _);rw[O]at hr X;have c3:=f.cell 3;have c4:=f.cell 4;have c5:=f.cell 5;have c0:=f.cell 0;have af:w.heap.size≤wr.heap.size:=g.size;have J:=oD (m%8) u.data.toList jo (by rw[fB,Hus.out];omega);have aa:=f.lt;clear l O f;generalize acc (m%8) u.data.toList=a at *;generalize u.data.toList.all gF=ob at *;subst hr X
  cases ob
  ·have d:=zh (Fin.out false rfl);clear Fin;go_wp2_with (first|(go_at_call 182;refine(jG g (ig _ _ _ _ _)).mono ?_;rintro e w' ⟨rfl,g⟩)|(go_at_call 202;refine(iz _ _).mono ?_;rintro e w' ⟨rfl,rfl⟩));rw[rounds_succ];go_wp2_with fail;go_ret2;exact⟨by rw[d.out];rfl,g⟩
  by_cases n:inB 65536 1114111 (-1) (a:Int)=true
  ·by_cases Z:gX (a:Int)=true
   ·have d:=zh (Fin.out false (by rw[show inB ((65536:Nat):Int) ((1114111:Nat):Int) (-1) (a:Int)=true from n,Z];rfl));clear Fin;go_wp2_with (first|(go_at_call 182;refine(jG g (ig _ _ _ _ _)).mono ?_;rintro e w' ⟨rfl,g⟩)|(go_at_call 202;refine(iz _ _).mono ?_;rintro e w' ⟨rfl,rfl⟩));rw[rounds_succ];go_wp2_with fail;go_ret2;exact⟨by rw[d.out];rfl,g⟩
   have V:gX (a:Int)=false:=by simpa using Z
   have d:=zh (Fin.out true (by rw[show inB ((65536:Nat):Int) ((1114111:Nat):Int) (-1) (a:Int)=true from n,V];rfl));clear Fin Z;go_wp2_with (first|(go_at_call 182;refine(ig _ _ _ _ _).mono ?_;rintro e w3 ⟨rfl,E⟩;have ah:=(E.cell (p:=⟨b.heap.size+1+1,0,none⟩) aa).trans c0)|(go_at_call 202;refine(iz _ _).mono ?_;rintro e w' ⟨rfl,rfl⟩));go_quiet (fail);go_wp2;go_ret2;exact⟨by rw[d.out];rfl,below_drewN (g.trans (E.mono g.size)) _⟩
  have D:inB 65536 1114111 (-1) (a:Int)=false:=by simpa using n
  have d:=zh (Fin.out false (by rw[show inB ((65536:Nat):Int) ((1114111:Nat):Int) (-1) (a:Int)=false from D];rfl));clear Fin n;go_wp2_with (first|(go_at_call 182;refine(jG g (ig _ _ _ _ _)).mono ?_;rintro e w' ⟨rfl,g⟩)|(go_at_call 202;refine(iz _ _).mono ?_;rintro e w' ⟨rfl,rfl⟩));rw[rounds_succ];go_wp2_with fail;go_ret2;exact⟨by rw[d.out];rfl,g⟩
 have d:=zh (tN (m%8) (s.data.toList.drop (k+1)) 4 65536 1114111 (by rw[zP,fB];omega));have aj:(s.size:Int)-(k:Int)<4:=jo;go_enter func181,ntmps181;go_wp2_with (go_at_call 201;refine(nX _).mono ?_;rintro e b ⟨rfl,c⟩);refine wp_loop_rounds 4 ?_;rw[rounds_succ];go_wp2_with fail;rw[rounds_succ];go_wp2_with fail;rw[rounds_succ];go_wp2_with fail;rw[rounds_succ];go_wp2_with fail;go_ret2;exact⟨by rw[d.out];rfl,((c.alloc c.size _).alloc (by have:=c.size;simp;omega) _).alloc (by have:=c.size;simp;omega) _⟩
end Ut

namespace Hi
open Go.RowKit
abbrev Bk:=Int × Int
def pos(l:List Bk)(k:Int):Nat:=l.findIdx fun x=>decide (k≤x.1)
theorem mD(l:List Bk)(k:Int):pos l k≤l.length:=List.findIdx_le_length
theorem nM(l:List Bk)(k:Int)(i:Nat)(h:i<pos l k):∃hl:i<l.length,l[i].1<k:=by
 have hl:i<l.length:=zT h (mD l k);refine⟨hl,?_⟩;have:=List.not_of_lt_findIdx h
 simpa using this
theorem wT(l:List Bk)(k:Int)(h:pos l k<l.length):k≤(l[pos l k]'h).1:=by
 have:=List.findIdx_getElem (p:=fun x:Bk=>decide (k≤x.1)) (xs:=l) (w:=h);exact of_decide_eq_true this
theorem NA(l:List Bk)(k:Int)(i:Nat)(hi:i≤l.length)(h1:∀a (h:a<i),(l[a]'(by omega)).1<k)(h2:∀h:i<l.length,k≤l[i].1):pos l k=i:=by
 rcases Nat.lt_trichotomy (pos l k) i with h|h|h
 ·have d:=wT l k jo;have:=h1 (pos l k) h;omega
 ·exact h
 obtain⟨c,b⟩:=nM l k i h;have:=h2 c;omega
def Up(l:List Bk):Prop:=∀i (h:i+1<l.length),(l[i]'(by omega)).1<l[i+1].1
theorem Up.lt{l:List Bk}(h:Up l):∀(i j:Nat) (hij:i<j) (hj:j<l.length),(l[i]'(by omega)).1<l[j].1:=by
 intro i j hij
 induction j with
 | zero=>omega
 | succ j ih=>
  intro hj;have a:=h j hj;by_cases e:i=j
  ·subst e;exact a
  have:=ih jo jo;omega
theorem Up.nil:Up []:=fun i h=>by simp at h
def gI:Int:=1099511627776
def gN(l:List Bk)(k n:Int):List Bk × Bool:=
 if pos l k<l.length∧(l.getD (pos l k) (0,0)).1=k then
  (if gI<n∨gI-n<(l.getD (pos l k) (0,0)).2 then([],false)else(l.set (pos l k) (k,(l.getD (pos l k) (0,0)).2+n),true))
 else(l.take (pos l k)++(k,n)::l.drop (pos l k),decide (n≤gI))
def oL(l:List Bk)(k:Int):Bool:=decide (pos l k<l.length)&&decide ((l.getD (pos l k) (0,0)).1=k)
def bkV(x:Bk):List Value:=[.int .i64 x.1,.int .i64 x.2]
def bkC(l:List Bk):List Value:=l.flatMap bkV
theorem jD(l:List Bk):(bkC l).length=l.length*2:=by
 induction l with
 | nil=>rfl
 | cons x l ih=>simp[bkC,bkV]at *;omega
theorem rK(a b:List Bk):bkC (a++b)=bkC a++bkC b:=by simp[bkC]
theorem iW:∀(l:List Bk),∀u∈bkC l,u.oneCell'=true:=by
 intro l u b;simp only[bkC,List.mem_flatMap]at b;obtain⟨x,_,a⟩:=b;simp only[bkV,List.mem_cons,List.not_mem_nil,or_false]at a;rcases a with rfl|rfl<;>rfl
theorem wD:∀(l:List Bk) (k:Nat) (h:k<l.length),(bkC l)[k*2]?=some (.int .i64 l[k].1)∧(bkC l)[k*2+1]?=some (.int .i64 l[k].2)
 | x::l,0,_=>⟨rfl,rfl⟩
 | x::l,k+1,h=>by
  have ih:=wD l k (by simpa using h);have b:(k+1)*2=k*2+2:=jo;have a:(k+1)*2+1=(k*2+1)+2:=jo;rw[a,b];exact ih
theorem kO(l:List Bk)(k:Nat):bkC (l.take k)=(bkC l).take (k*2):=by
 induction l generalizing k with
 | nil=>simp[bkC]
 | cons x l ih=>
  cases k with
  | zero=>simp[bkC]
  | succ k=>
   have a:(k+1)*2=k*2+2:=jo;rw[zX,a];show bkV x++bkC (l.take k)=(bkV x++bkC l).take (k*2+2);rw[ih k,show k*2+2=(bkV x).length+k*2 from by simp[bkV];omega,List.take_length_add_append]
theorem qF(l:List Bk)(k:Nat):bkC (l.drop k)=(bkC l).drop (k*2):=by
 induction l generalizing k with
 | nil=>simp[bkC]
 | cons x l ih=>
  cases k with
  | zero=>simp[bkC]
  | succ k=>
   have a:(k+1)*2=k*2+2:=jo;rw[zo,a];show bkC (l.drop k)=(bkV x++bkC l).drop (k*2+2);rw[ih k,show k*2+2=(bkV x).length+k*2 from by simp[bkV];omega,List.drop_length_add_append]
theorem LW(l:List Bk)(k:Nat)(a n:Int)(h:k<l.length)(ha:l[k].1=a):(bkC l).set (k*2+1) (.int .i64 n)=bkC (l.set k (a,n)):=by
 induction l generalizing k with
 | nil=>simp at h
 | cons x l ih=>
  cases k with
  | zero=>
   simp only[List.getElem_cons_zero]at ha;subst ha;simp[bkC,bkV]
  | succ k=>
   have b:(k+1)*2+1=(k*2+1)+2:=jo;rw[b];show bkV x++(bkC l).set (k*2+1) _=bkV x++bkC (l.set k (a,n));rw[ih k (by simpa using h) (by simpa using ha)]
theorem jE{w:World}{B n:Nat}{A:Option Addr}{l:List Bk}(h:Reads w B 2 A n (bkC l))(hn:l.length=n){k:Nat}(hk:k<l.length) :
  ∃b o,A=some ⟨b,o,none⟩∧b<B∧w.cell? ⟨b,o+k*2,none⟩=some (.int .i64 l[k].1)∧w.cell? ⟨b,o+k*2+1,none⟩=some (.int .i64 l[k].2):=by
 obtain⟨b,o,e,c,a⟩:=h.2 jo;have g:=wD l k hk;refine⟨b,o,e,c,a _ _ g.1,?_⟩;have:=a _ _ g.2;rw[←Nat.add_assoc]at this;exact this
end Hi

namespace Hi
open Go.RowKit
theorem Ad(n:Int)(w:World):Calls prog 130 #[.int .i64 n] w fun e w'=>e=.returned (.bool false)∧w=w':=by
 go_enter func130,ntmps130;go_wp2;go_ret;exact⟨jz,rfl⟩
def jC(a b:Int):Int:=if a<b then -1 else if b<a then 1 else 0
theorem Er(a b:Int)(w:World):Calls prog 105 #[.int .i64 a,.int .i64 b] w fun e w'=>e=.returned (.int .i64 (jC a b))∧w=w':=by
 have c:=Ad a w;have d:=Ad b w;go_enter func105,ntmps105;go_wp2_with fail;refine c.mono ?_;rintro e w' ⟨rfl,rfl⟩;go_wp2_with fail;refine d.mono ?_;rintro e w' ⟨rfl,rfl⟩;rcases Int.lt_trichotomy a b with h|h|h
 ·have E:Hid (jC a b=-1):=zh (by unfold jC;rw[zI h]);go_wp2;go_ret;exact⟨by rw[E.out];rfl,rfl⟩
 ·subst h;have E:Hid (jC a a=0):=zh (by unfold jC;rw[zH jo,zH jo]);go_wp2;go_ret;exact⟨by rw[E.out];rfl,rfl⟩
 have E:Hid (jC a b=1):=zh (by unfold jC;rw[zH jo,zI h]);have f:¬a<b:=jo;go_wp2;go_ret;exact⟨by rw[E.out];rfl,rfl⟩
theorem Nr(a b:Int)(w:World):Calls prog 133 #[.agg #[.int .i64 a,.int .i64 b]] w fun e w'=>e=.returned (.int .i64 a)∧zWW w w':=by
 go_enter func133,ntmps133;go_wp2;go_ret;exact⟨rfl,zRR _⟩
def kF:Value:=.func (.func 133) #[] #[]
def qQ(p:Nat):Value:=.func (.func 155) #[] #[.pointer (some ⟨p,0,none⟩)]
theorem NB(w:World):Calls prog 132 #[kF] w fun e w'=>e=.returned (qQ w.heap.size)∧zWW w w'∧w'.cell? ⟨w.heap.size,0,none⟩=some kF:=by
 unfold kF qQ;have a:=(Blk.new w 183 #[.func (.func 133) #[] #[]]).cell 0;go_enter func132,ntmps132;go_wp2;go_ret;exact⟨rfl,zRR _,a⟩
theorem CJ(p:Nat)(a b t:Int)(w:World)(hp:w.cell? ⟨p,0,none⟩=some kF):Calls prog 155 #[.agg #[.int .i64 a,.int .i64 b],.int .i64 t,.pointer (some ⟨p,0,none⟩)] w fun e w'=>e=.returned (.int .i64 (jC a t))∧zWW w w':=by
 have d:=World.block_lt_of_cell? w _ hp;unfold kF at hp;have g:¬p=w.heap.size:=by have:p<w.heap.size:=d;omega
 go_enter func155,ntmps155;go_wp2_with fail;refine(Nr a b _).mono ?_;rintro e h ⟨rfl,c⟩;have f:=zh ((zRR _).trans (c.mono jz));clear c;go_wp2_with fail;refine(Er a t _).mono ?_;rintro e w' ⟨rfl,rfl⟩;go_wp2;go_ret;exact⟨rfl,f.out⟩
theorem LX{a b:Int}(h:a<b):jC a b=-1:=by unfold jC;rw[zI h]
theorem CK(a:Int):jC a a=0:=by unfold jC;rw[zH (by omega),zH (by omega)]
theorem CP{a b:Int}(h:b<a):jC a b=1:=by unfold jC;rw[zH (by omega),zI h]
theorem tV(A:Option Addr)(c B p:Nat)(l:List Bk)(t:Int)(w:World)(hR:Reads w B 2 A l.length (bkC l))(hB:B≤w.heap.size)(hp:w.cell? ⟨p,0,none⟩=some kF)(hup:Up l)(hl:l.length≤1000000000) :
  Calls prog 131 #[.slice A l.length c,.int .i64 t,qQ p] w fun e w'=>e=.returned (.tuple #[.int .i64 (pos l t:Nat),.bool (oL l t)])∧zWW w w':=by
 have U:=zh hR;have Hup:=zh hup.lt;have M:=World.block_lt_of_cell? w _ hp;unfold qQ;clear hR hup;go_enter func131,ntmps131;go_wp2;go_loopw [9,10] (fun i j wr=>∃a b:Nat,a≤b∧b≤l.length∧i=.int .i64 a∧j=.int .i64 b∧(∀x (h:x<a),∃h:x<l.length,l[x].1<t)∧(∀h:b<l.length,t≤l[b].1)∧zWW w wr) (fun i j _=>(intOf j).toNat-(intOf i).toNat)
 case atStart=>exact⟨0,l.length,zS _,zG _,rfl,rfl,fun x h=>jo,fun h=>jo,zy _ _⟩
 obtain⟨a,b,aa,L,rfl,rfl,N,G,k⟩:=hrel;by_cases X:a<b
 ·have T:(a+b)/2<l.length:=jo;obtain⟨I,o,rfl,n,s,m⟩:=jE U.out rfl T;have V:=(k.cell (p:=⟨I,o+(a+b)/2*2,none⟩) (zT n hB)).trans s;have W:=(k.cell (p:=⟨I,o+(a+b)/2*2+1,none⟩) (zT n hB)).trans m;have C:=(k.cell (p:=⟨p,0,none⟩) M).trans hp;have g:=CJ p l[(a+b)/2].1 l[(a+b)/2].2 t wr C;have Y:=zh N;have Z:=zh G;have D:=zh k;clear s m N G k;by_cases q:l[(a+b)/2].1<t
  ·rw[LX q]at g
   have O:Hid (∀x (h:x<(a+b)/2+1),∃h:x<l.length,l[x].1<t):=zh (fun x h=>⟨jo,by
    by_cases e:x=(a+b)/2
    ·subst e;exact q
    have:=Hup.out x ((a+b)/2) jo T;omega⟩)
   clear q;generalize l[(a+b)/2].1=u at *;generalize l[(a+b)/2].2=v at *;go_wp2_with fail;refine g.mono ?_;rintro e R ⟨rfl,d⟩;have f:=zt D d;clear d g;go_wp2;go_roundw
   case rel=>exact⟨(a+b)/2+1,b,jo,L,ju,rfl,O.out,Z.out,f.out⟩
   simp[intOf];omega
  have S:jC l[(a+b)/2].1 t=0∨jC l[(a+b)/2].1 t=1:=by
   rcases Int.lt_trichotomy l[(a+b)/2].1 t with h|h|h
   ·exact absurd h q
   ·rw[h];exact .inl (CK t)
   exact .inr (CP h)
  have P:Hid (∀h:(a+b)/2<l.length,t≤l[(a+b)/2].1):=zh (fun _=>jo);clear q;generalize jC l[(a+b)/2].1 t=z at *;generalize l[(a+b)/2].1=u at *;generalize l[(a+b)/2].2=v at *;have hz:¬z<0:=jo;clear S;go_wp2_with fail;refine g.mono ?_;rintro e R ⟨rfl,d⟩;have f:=zt D d;clear d g;go_wp2;go_roundw
  case rel=>exact⟨a,(a+b)/2,jo,jo,rfl,ju,Y.out,P.out,f.out⟩
  simp[intOf];omega
 obtain rfl:a=b:=jo;have r:pos l t=a:=NA l t a L (fun x h=>(N x h).2) G;have F:Hid (oL l t=(decide (a<l.length)&&decide ((l.getD a (0,0)).1=t))):=zh (by unfold oL;rw[r]);have Hpos:=zh r;clear r N;by_cases y:a<l.length
 ·have H:=G y;obtain⟨I,o,rfl,n,s,m⟩:=jE U.out rfl y;have V:=(k.cell (p:=⟨I,o+a*2,none⟩) (zT n hB)).trans s;have W:=(k.cell (p:=⟨I,o+a*2+1,none⟩) (zT n hB)).trans m;have C:=(k.cell (p:=⟨p,0,none⟩) M).trans hp;have g:=CJ p l[a].1 l[a].2 t wr C;have D:=zh k;have J:l.getD a (0,0)=l[a]:=by rw[List.getD_eq_getElem?_getD,zU y];rfl
  rw[J,zO y,Bool.true_and]at F;clear s m G k J;by_cases E:l[a].1=t
  ·rw[E,CK]at g;rw[zO E]at F;rw[E]at V;clear E H;generalize l[a].2=v at *;go_wp2_with fail;refine g.mono ?_;rintro e R ⟨rfl,d⟩;have f:=zt D d;clear d g;go_wp2;go_ret2;exact⟨by rw[Hpos.out,F.out];rfl,f.out⟩
  rw[CP (show t<l[a].1 by omega)]at g;rw[zN E]at F;clear E H;generalize l[a].2=v at *;generalize l[a].1=u at *;go_wp2_with fail;refine g.mono ?_;rintro e R ⟨rfl,d⟩;have f:=zt D d;clear d g;go_wp2;go_ret2;exact⟨by rw[Hpos.out,F.out];rfl,f.out⟩
 rw[zN y,Bool.false_and]at F;have D:=zh k;clear G k;go_wp2;go_ret2;exact⟨by rw[Hpos.out,F.out];rfl,D.out⟩
end Hi
end Go.Proofs.YtmomjpolkkbhnaaGreat
