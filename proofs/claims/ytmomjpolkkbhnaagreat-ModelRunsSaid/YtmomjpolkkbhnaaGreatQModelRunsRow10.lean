/- Lemmas. -/
import Derived.Test.YtmomjpolkkbhnaaGreatQModelRunsRow9
set_option maxRecDepth 20000
set_option maxHeartbeats 100000000
set_option linter.unusedSimpArgs false
open Go.Proofs.Tryz
namespace Go.Proofs.YtmomjpolkkbhnaaGreat
namespace Ut
open Go.RowKit
set_option linter.unusedSimpArgs false in
theorem I9(r:Int)(w:World):Calls prog 189 #[.int .i64 r] w fun e w'=>e=.returned (.bool (gA r))∧w=w':=by
 go_enter func189,ntmps189;go_wp2
 all_goals
  go_ret;refine⟨congrArg (fun x=>Ending.returned (Value.bool x)) ?_,rfl⟩;unfold gA;rw[Bool.eq_iff_iff];try simp only[bne_iff_ne,ne_eq,bne_eq_false_iff_eq]at *
  simp only[Bool.or_eq_true,zr,zg,bne_iff_ne,ne_eq,Bool.false_eq_true,true_iff,false_iff,reduceCtorEq]
  first|omega|decide
end Ut

namespace Ut
open Go.RowKit
theorem Gg(s:ByteArray)(w:World)(hs:s.size≤4398046511104) :
  Calls prog 188 #[.string s] w fun e w'=>∃v,e=.returned v∧w'.ownsRow w.heap.size 3 1 v (gq s.data.toList).length (rv (gq s.data.toList))∧zWW w w':=by
 obtain⟨I,A,B,D,z⟩:=info_parts oV;go_enter func188,ntmps188;go_wp2
 go_loopw [3,4] (fun v i wr=>∃(k:Nat) (l:List Nat),k≤s.size∧i=.int .i64 k∧l.length≤k∧gq s.data.toList=l++gq (s.data.toList.drop k)∧wr.ownsRow w.heap.size 3 1 v l.length (rv l)∧zWW w wr)
  (fun _ i _=>s.size-(intOf i).toNat)
 case atStart=>exact⟨0,[],zS _,rfl,jz,rfl,vO _ _ _ _,zy _ _⟩
 obtain⟨k,l,P,rfl,G,b,f,E⟩:=hrel;by_cases C:k<s.size
 ·have n:s.data.toList.drop k≠[]:=by rw[qi s k C];simp
  have g:=pu _ n;rw[zP,fB]at g;have o:=tJ _ n;rw[o,List.drop_drop]at b;have c:=I8 s (k:Int) wr jo;rw[yx]at c;have Hru:=zh b;clear o b n;generalize dec (s.data.toList.drop k)=d at *;have L:=g.1;have N:=g.2.1;have M:=g.2.2;clear g;go_wp2_with fail;refine c.mono ?_;rintro e wr ⟨rfl,rfl⟩;have m:=E;have a:=f;have p:=m.size;go_wp2_with (at_builtin;refine vJ _ rfl _ _ 27 rfl w.heap.size 3 I (.int .i64 0) 1 8 underlying27 A B D z rfl jd _ _ _ rfl (a.alloc _) ⟨wr.heap.size,0,none⟩ 1 1 [.int .i64 (d.1:Int)] rfl rfl ?c1 ?c2 ?c3 ?c4 ?c5 ?_)
  case c1=>exact vH (cs:=#[.int .i64 (d.1:Int)]) (t:=3) (fr:=(0,0)) (vK wr _)
  case c2=>intro u F;simp at F;subst F;rfl
  case c3=>unfold maxLen;omega
  case c4=>omega
  case c5=>simp;omega
  intro O J h r _;have q:zWW w J:=(m.alloc p _).grown r jm (fun j H=>(a.lt _ H).1);have y:=zh q;have Hown3:=zh h;clear q h r a m f E;go_wp2;go_roundw
  case rel=>exact⟨k+d.2,l ++ [d.1],jo,ju,by rw[zJ];simp;omega,by rw[Hru.out];simp,by
    rw[zJ];have:=Hown3.out
    simpa[rv]using this,y.out⟩
  simp[intOf];omega
 have x:s.data.toList.drop k=[]:=qw s k jo;rw[x,tz,List.append_nil]at b;have Hru:=zh b;clear b x;go_wp2;go_ret;exact⟨_,rfl,by rw[Hru.out];exact f,E⟩
end Ut

namespace Ut
open Go.RowKit
set_option maxRecDepth 100000 in
theorem MX(base n:Nat)(v:Value)(xs:List Value)(z:Int)(h0:0≤z)(h1:z<128)(w:World)(hown:w.ownsRow base 5 1 v n xs)(hbase:base≤w.heap.size)(hn:n≤140737488000000) :
  Calls prog 214 #[v,.int .i64 z] w (kC w base n v xs (fE z.toNat)):=by
 obtain⟨f,a,b,c,d⟩:=info_parts ku;have Hown:=zh hown;clear hown
 have e:Hid ([.int .u8 z]=bv (fE z.toNat)∧1=(fE z.toNat).length):=by
  show _∧_;obtain⟨r,rfl⟩:=Int.eq_ofNat_of_zero_le (show 0≤z by omega);rw[Int.toNat_natCast];unfold fE;rw[zI jo];simp only[bv,List.map_cons,List.map_nil,zV,List.length_nil,and_true,zi,zQ,Value.int.injEq,true_and];rw[iH _ jo]
 go_enter func214,ntmps214;go_wp2_with (refine vJ (o:=⟨some 29,_,_,_,_,_⟩) _ rfl _ _ 30 rfl base 5 f (.int .u8 0) 1 1 underlying30 a b c d rfl jd v n xs rfl (Hown.out.alloc _) ⟨w.heap.size,0,none⟩ 1 1 [.int .u8 z] rfl rfl (vH (cs:=[.int .u8 z].toArray) (t:=5) (fr:=(0,0)) (vK w _)) jt jx jo jm ?_;intro v' w3 hown3 hg3 _);go_ret;exact lI Hown.out hown3 hg3 e.out
set_option maxRecDepth 100000 in
theorem MZ(base n:Nat)(v:Value)(xs:List Value)(z:Int)(h0:128≤z)(h1:z<2048)(w:World)(hown:w.ownsRow base 5 1 v n xs)(hbase:base≤w.heap.size)(hn:n≤140737488000000) :
  Calls prog 214 #[v,.int .i64 z] w (kC w base n v xs (fE z.toNat)):=by
 obtain⟨f,a,b,c,d⟩:=info_parts ku;have Hown:=zh hown;clear hown
 have e:Hid ([.int .u8 (192+z/64),.int .u8 (128+z%64)]=bv (fE z.toNat)∧2=(fE z.toNat).length):=by
  show _∧_;obtain⟨r,rfl⟩:=Int.eq_ofNat_of_zero_le (show 0≤z by omega);rw[Int.toNat_natCast];unfold fE;rw[zH jo,zI jo];simp only[bv,List.map_cons,List.map_nil,zV,List.length_nil,and_true,zi,zQ,Value.int.injEq,true_and];refine⟨by rw[iH _ jo];omega,by rw[iH _ jo];omega⟩
 go_enter func214,ntmps214;go_wp2_with (refine vJ (o:=⟨some 43,_,_,_,_,_⟩) _ rfl _ _ 30 rfl base 5 f (.int .u8 0) 1 1 underlying30 a b c d rfl jd v n xs rfl (Hown.out.alloc _) ⟨w.heap.size,0,none⟩ 2 2 [.int .u8 (192+z/64),.int .u8 (128+z%64)] rfl rfl (vH (cs:=[.int .u8 (192+z/64),.int .u8 (128+z%64)].toArray) (t:=5) (fr:=(0,0)) (vK w _)) jt jx jo jm ?_;intro v' w3 hown3 hg3 _);go_ret;exact lI Hown.out hown3 hg3 e.out
set_option maxRecDepth 100000 in
theorem Cm(base n:Nat)(v:Value)(xs:List Value)(z:Int)(h0:2048≤z)(h1:z≤65535)(h2:z<55296∨57343<z)(w:World)(hown:w.ownsRow base 5 1 v n xs)(hbase:base≤w.heap.size)(hn:n≤140737488000000) :
  Calls prog 214 #[v,.int .i64 z] w (kC w base n v xs (fE z.toNat)):=by
 obtain⟨f,a,b,c,d⟩:=info_parts ku;have Hown:=zh hown;clear hown
 have e:Hid ([.int .u8 (224+z/4096),.int .u8 (128+z/64%64),.int .u8 (128+z%64)]=bv (fE z.toNat)∧3=(fE z.toNat).length):=by
  show _∧_;obtain⟨r,rfl⟩:=Int.eq_ofNat_of_zero_le (show 0≤z by omega);rw[Int.toNat_natCast];unfold fE;rw[zH jo,zH jo,zI jo];simp only[bv,List.map_cons,List.map_nil,zV,List.length_nil,and_true,zi,zQ,Value.int.injEq,true_and];refine⟨by rw[iH _ jo];omega,by rw[iH _ jo];omega,by rw[iH _ jo];omega⟩
 rcases h2 with h2|h2
 ·go_enter func214,ntmps214;go_wp2_with (refine vJ (o:=⟨some 62,_,_,_,_,_⟩) _ rfl _ _ 30 rfl base 5 f (.int .u8 0) 1 1 underlying30 a b c d rfl jd v n xs rfl (Hown.out.alloc _) ⟨w.heap.size,0,none⟩ 3 3 [.int .u8 (224+z/4096),.int .u8 (128+z/64%64),.int .u8 (128+z%64)] rfl rfl (vH (cs:=[.int .u8 (224+z/4096),.int .u8 (128+z/64%64),.int .u8 (128+z%64)].toArray) (t:=5) (fr:=(0,0)) (vK w _)) jt jx jo jm ?_;intro v' w3 hown3 hg3 _);go_ret;exact lI Hown.out hown3 hg3 e.out
 go_enter func214,ntmps214;go_wp2_with (refine vJ (o:=⟨some 62,_,_,_,_,_⟩) _ rfl _ _ 30 rfl base 5 f (.int .u8 0) 1 1 underlying30 a b c d rfl jd v n xs rfl (Hown.out.alloc _) ⟨w.heap.size,0,none⟩ 3 3 [.int .u8 (224+z/4096),.int .u8 (128+z/64%64),.int .u8 (128+z%64)] rfl rfl (vH (cs:=[.int .u8 (224+z/4096),.int .u8 (128+z/64%64),.int .u8 (128+z%64)].toArray) (t:=5) (fr:=(0,0)) (vK w _)) jt jx jo jm ?_;intro v' w3 hown3 hg3 _);go_ret;exact lI Hown.out hown3 hg3 e.out
set_option maxRecDepth 100000 in
theorem Ma(base n:Nat)(v:Value)(xs:List Value)(z:Int)(h0:65535<z)(h1:z≤1114111)(w:World)(hown:w.ownsRow base 5 1 v n xs)(hbase:base≤w.heap.size)(hn:n≤140737488000000) :
  Calls prog 214 #[v,.int .i64 z] w (kC w base n v xs (fE z.toNat)):=by
 obtain⟨f,a,b,c,d⟩:=info_parts ku;have Hown:=zh hown;clear hown
 have e:Hid ([.int .u8 (240+z/262144),.int .u8 (128+z/4096%64),.int .u8 (128+z/64%64),.int .u8 (128+z%64)]=bv (fE z.toNat)∧4=(fE z.toNat).length):=by
  show _∧_;obtain⟨r,rfl⟩:=Int.eq_ofNat_of_zero_le (show 0≤z by omega);rw[Int.toNat_natCast];unfold fE;rw[zH jo,zH jo,zH jo];simp only[bv,List.map_cons,List.map_nil,zV,List.length_nil,and_true,zi,zQ,Value.int.injEq,true_and];refine⟨by rw[iH _ jo];omega,by rw[iH _ jo];omega,by rw[iH _ jo];omega,by rw[iH _ jo];omega⟩
 go_enter func214,ntmps214;go_wp2_with (refine vJ (o:=⟨some 83,_,_,_,_,_⟩) _ rfl _ _ 30 rfl base 5 f (.int .u8 0) 1 1 underlying30 a b c d rfl jd v n xs rfl (Hown.out.alloc _) ⟨w.heap.size,0,none⟩ 4 4 [.int .u8 (240+z/262144),.int .u8 (128+z/4096%64),.int .u8 (128+z/64%64),.int .u8 (128+z%64)] rfl rfl (vH (cs:=[.int .u8 (240+z/262144),.int .u8 (128+z/4096%64),.int .u8 (128+z/64%64),.int .u8 (128+z%64)].toArray) (t:=5) (fr:=(0,0)) (vK w _)) jt jx jo jm ?_;intro v' w3 hown3 hg3 _);go_ret;exact lI Hown.out hown3 hg3 e.out
set_option maxRecDepth 100000 in
theorem JA(base n:Nat)(v:Value)(xs:List Value)(z:Int)(hbad:z<0∨1114111<z∨(55296≤z∧z≤57343))(w:World)(hown:w.ownsRow base 5 1 v n xs)(hbase:base≤w.heap.size)(hn:n≤140737488000000) :
  Calls prog 214 #[v,.int .i64 z] w (kC w base n v xs (fE 65533)):=by
 have c:=Cm base n v xs 65533 jo jo jo w hown hbase hn;rw[show (65533:Int).toNat=65533 from rfl]at c;clear hown;rcases hbad with h|h|⟨h,g⟩
 ·go_enter func214,ntmps214;go_wp2_with fail;refine c.mono ?_;rintro e f ⟨d,rfl,a,b⟩;go_wp2;go_ret;exact⟨d,rfl,a,b⟩
 ·go_enter func214,ntmps214;go_wp2_with fail;refine c.mono ?_;rintro e f ⟨d,rfl,a,b⟩;go_wp2;go_ret;exact⟨d,rfl,a,b⟩
 go_enter func214,ntmps214;go_wp2_with fail;refine c.mono ?_;rintro e f ⟨d,rfl,a,b⟩;go_wp2;go_ret;exact⟨d,rfl,a,b⟩
theorem JB(base n:Nat)(v:Value)(xs:List Value)(z:Int)(w:World)(hown:w.ownsRow base 5 1 v n xs)(hbase:base≤w.heap.size)(hn:n≤140737488000000) :
  Calls prog 214 #[v,.int .i64 z] w (kC w base n v xs (enc z)):=by
 unfold enc fix;by_cases a:z<0∨1114111<z∨(55296≤z∧z≤57343)
 ·rw[zI a];exact JA base n v xs z a w hown hbase hn
 rw[zH a];by_cases c:z<128
 ·exact MX base n v xs z jo c w hown hbase hn
 by_cases d:z<2048
 ·exact MZ base n v xs z jo d w hown hbase hn
 by_cases b:z≤65535
 ·exact Cm base n v xs z jo b jo w hown hbase hn
 exact Ma base n v xs z jo jo w hown hbase hn
end Ut

namespace Qy
open Go.RowKit
structure Dc where
 seq:Int
 at_:Int
 fs:List (ByteArray × ByteArray)
def DcV(w:World)(B:Nat)(d:Dc)(v:List Value):Prop:=∃F fn fc,v=[.int .i64 d.seq,.int .i64 d.at_,.slice F fn fc]∧Reads w B 2 F fn (fJ d.fs)∧d.fs.length=fn∧fn≤8796093021952∧fn≤fc∧(F=none→fc=0)
theorem DcV.len{w:World}{B:Nat}{d:Dc}{v:List Value}(h:DcV w B d v):v.length=3:=by obtain⟨F,b,a,rfl,_⟩:=h;rfl
theorem DcV.keep{w w':World}{B:Nat}{d:Dc}{v:List Value}(h:DcV w B d v)(hk:∀b o,b<B→w'.cell? ⟨b,o,none⟩=w.cell? ⟨b,o,none⟩):DcV w' B d v:=by
 obtain⟨F,g,c,e,a,f⟩:=h;exact⟨F,g,c,e,a.keep hk,f⟩
theorem DcV.more{w:World}{B B':Nat}{d:Dc}{v:List Value}(h:DcV w B d v)(hB:B≤B'):DcV w B' d v:=by
 obtain⟨F,f,b,e,a,c⟩:=h;exact⟨F,f,b,e,a.more hB,c⟩
structure DocsAt (w:World) (B:Nat) (A:Option Addr) (n:Nat) (ds:List Dc):Prop where
 ln:ds.length=n
 ex:∃vss:List (List Value),vss.length=n∧Reads w B 3 A n vss.flatten∧∀i (h:i<ds.length) (h':i<vss.length),DcV w B ds[i] vss[i]
theorem DocsAt.keep{w w':World}{B n:Nat}{A:Option Addr}{ds:List Dc}(h:DocsAt w B A n ds)(hk:∀b o,b<B→w'.cell? ⟨b,o,none⟩=w.cell? ⟨b,o,none⟩):DocsAt w' B A n ds:=by
 obtain⟨c,e,f,d⟩:=h.ex;exact⟨h.ln,c,e,f.keep hk,fun i a b=>(d i a b).keep hk⟩
theorem DocsAt.more{w:World}{B B' n:Nat}{A:Option Addr}{ds:List Dc}(h:DocsAt w B A n ds)(hB:B≤B'):DocsAt w B' A n ds:=by
 obtain⟨c,e,f,d⟩:=h.ex;exact⟨h.ln,c,e,f.more hB,fun i a b=>(d i a b).more hB⟩
theorem DocsAt.grow{w w':World}{n:Nat}{A:Option Addr}{ds:List Dc}(h:DocsAt w w.heap.size A n ds)(hb:zWW w w'):DocsAt w' w'.heap.size A n ds:=(h.keep fun _ _ a=>hb.cell a).more hb.size
theorem DocsAt.nil{w:World}{B:Nat}{A:Option Addr}:DocsAt w B A 0 []:=⟨rfl,[],rfl,⟨by simp,fun h=>absurd h (by omega)⟩,fun i h=>absurd h (by simp)⟩
theorem DocsAt.at_{w:World}{B n:Nat}{A:Option Addr}{ds:List Dc}(h:DocsAt w B A n ds){i:Nat}(hi:i<ds.length) :
  ∃b o F fn fc,A=some ⟨b,o,none⟩∧b<B∧w.cell? ⟨b,o+i*3,none⟩=some (.int .i64 ds[i].seq)∧w.cell? ⟨b,o+i*3+1,none⟩=some (.int .i64 ds[i].at_)∧w.cell? ⟨b,o+i*3+2,none⟩=some (.slice F fn fc) ∧
   Reads w B 2 F fn (fJ ds[i].fs)∧ds[i].fs.length=fn∧fn≤8796093021952∧fn≤fc∧(F=none→fc=0):=by
 obtain⟨c,H,z,g⟩:=h.ex;have G:=h.ln;have a:i<c.length:=jo
 have d:∀v∈c,v.length=3:=fun v y=>by
  obtain⟨j,t,rfl⟩:=zu.1 y;exact(g j jo t).len
 obtain⟨F,fn,fc,e,r,C,x,u⟩:=g i hi a;obtain⟨b,o,s,E,f⟩:=z.2 jo;have q:=iM d i 0 a jo;have l:=iM d i 1 a jo;have m:=iM d i 2 a jo;rw[e]at q l m;have D:=f _ _ q;have p:=f _ _ l;have k:=f _ _ m;rw[←Nat.add_assoc]at p k;exact⟨b,o,F,fn,fc,s,E,D,p,k,r,C,x,u⟩
def Far(w:World)(base:Nat)(v:List Value):Prop:=∀F fn fc,v[2]?=some (.slice F fn fc)→0<fn→∃b o,F=some ⟨b,o,none⟩∧(b<base∨∃cs fr,w.heap[b]?=some (.cells cs 85 fr))
structure DocsOwn (w wr:World) (v:Value) (ds:List Dc):Prop where
 ex:∃vss:List (List Value),vss.length=ds.length∧wr.ownsRow w.heap.size 48 3 v ds.length vss.flatten∧∀i (h:i<ds.length) (h':i<vss.length),DcV wr wr.heap.size ds[i] vss[i]∧Far wr w.heap.size vss[i]
 bel:zWW w wr
theorem DocsOwn.start(w:World):DocsOwn w w (.slice none 0 0) []:=⟨⟨[],rfl,vO _ _ _ _,fun i h=>absurd h (by simp)⟩,zy _ _⟩
theorem Far.grown{w w':World}{base:Nat}{v:List Value}{row:Option Nat}(h:Far w base v)(hg:w.grownBy w' row)(hr:∀b,row=some b→base≤b∧∀cs fr,w.heap[b]?≠some (.cells cs 85 fr)):Far w' base v:=by
 intro F g d j i;obtain⟨b,o,e,a|⟨cs,fr,a⟩⟩:=h F g d j i
 ·exact⟨b,o,e,.inl a⟩
 refine⟨b,o,e,.inr ⟨cs,fr,?_⟩⟩;have c:b<w.heap.size:=(Array.getElem?_eq_some_iff.1 a).1;rw[hg.block b c (fun f=>(hr b f.symm).2 cs fr a)];exact a
theorem Far.below{w w':World}{base:Nat}{v:List Value}(h:Far w base v)(hb:zWW w w'):Far w' base v:=h.grown (fH hb none) (fun b e=>by cases e)
theorem DocsOwn.below{w wr w2:World}{v:Value}{ds:List Dc}(h:DocsOwn w wr v ds)(hb:zWW wr w2):DocsOwn w w2 v ds:=by
 obtain⟨c,g,e,d⟩:=h.ex;exact⟨⟨c,g,e.kept (fH hb none) (by cases hv:v.ownBlock<;>simp),fun i a b=>⟨((d i a b).1.keep fun _ _ f=>hb.cell f).more hb.size,(d i a b).2.below hb⟩⟩,h.bel.trans (hb.mono h.bel.size)⟩
theorem AC{w:World}{base:Nat}{e:TypeId}{size n:Nat}{v:Value}{xs:List Value}(h:w.ownsRow base e size v n xs):∀b,v.ownBlock=some b→base≤b∧∃cur,w.heap[b]?=some (.cells cur e (0,0)):=by
 intro b a;rcases h.2 with⟨rfl,_⟩|⟨g,c,cur,rfl,d,f,_⟩
 ·cases a
 injection a with a;subst a;exact⟨d,cur,f⟩
theorem DocsOwn.put{w wr w2:World}{v v':Value}{ds:List Dc}{d:Dc}{u:List Value}{xs:List Value}(h:DocsOwn w wr v ds)(hx:∃vss:List (List Value),vss.length=ds.length∧wr.ownsRow w.heap.size 48 3 v ds.length vss.flatten∧(∀i (h:i<ds.length) (h':i<vss.length),DcV wr wr.heap.size ds[i] vss[i]∧Far wr w.heap.size vss[i])∧xs=vss.flatten)
  (hp:w2.ownsRow w.heap.size 48 3 v' (ds.length+1) (xs++u)) (hg:wr.grownBy w2 v.ownBlock) (hd:DcV wr wr.heap.size d u) (hf:Far wr w.heap.size u):DocsOwn w w2 v' (ds ++ [d]):=by
 obtain⟨vss,s,I,B,rfl⟩:=hx;have g:=AC I
 have m:∀b,v.ownBlock=some b→w.heap.size≤b∧∀n j,wr.heap[b]?≠some (.cells n 85 j):=fun b L=>by
  obtain⟨f,y,r⟩:=g b L;refine⟨f,fun n j e=>?_⟩;rw[r]at e;injection e with e;injection e with _ e;exact absurd e jd
 have c:∀(d:Dc) (u:List Value),DcV wr wr.heap.size d u→Far wr w.heap.size u→DcV w2 w2.heap.size d u:=fun d u hd hf=>by
  obtain⟨F,x,q,rfl,z,J,D,C⟩:=hd;refine⟨F,x,q,rfl,(z.grown hg (zG _) ?_).more hg.size,J,D,C⟩;intro b o e G A;obtain⟨N,M,l,f⟩:=hf F x q rfl G;rw[e]at l;injection l with l;injection l with e1 e2;subst e1;obtain⟨r,E⟩:=m b A.symm;rcases f with f|⟨n,j,f⟩
  ·omega
  exact E n j f
 refine⟨⟨vss ++ [u],by simp[s],?_,fun i a b=>?_⟩,h.bel.grown hg h.bel.size (fun k H=>(m k H).1)⟩
 ·rw[List.flatten_append,zJ]
  simpa using hp
 by_cases t:i<ds.length
 ·rw[zl t,zl jo];have:=B i t jo;exact⟨c _ _ this.1 this.2,this.2.grown hg m⟩
 have p:i=ds.length:=by simp at a;omega
 subst p;rw[zn jo,zn jo];simp only[Nat.sub_self,s,List.getElem_cons_zero];exact⟨c _ _ hd hf,hf.grown hg m⟩
theorem DocsOwn.read{w wr:World}{v:Value}{ds:List Dc}(h:DocsOwn w wr v ds):∃A c,v=.slice A ds.length c∧DocsAt wr wr.heap.size A ds.length ds:=by
 obtain⟨d,k,j,f⟩:=h.ex;obtain⟨A,c,e,g⟩:=fT j;exact⟨A,c,e,rfl,d,k,g,fun i a b=>(f i a b).1⟩
end Qy

namespace Cr
def on1(x:Nat):Nat:=if x%2=1 then(x/2) ^^^ 3988292384 else x/2
def tab(x:Nat):Nat:=on1 (on1 (on1 (on1 (on1 (on1 (on1 (on1 x)))))))
def on(s:Nat)(c:UInt8):Nat:=tab (s ^^^ c.toNat)
def run(s:Nat)(l:List UInt8):Nat:=l.foldl on s
def iU(x:Nat):Nat:=x ^^^ 4294967295
def crc(l:List UInt8):Nat:=iU (run 4294967295 l)
theorem LG(a b:Nat):on1 (a ^^^ b)=on1 a ^^^ on1 b:=by
 have d:(a ^^^ b)%2=(a%2) ^^^ (b%2):=Nat.xor_mod_two_pow (n:=1);have c:(a ^^^ b)/2=(a/2) ^^^ (b/2):=Nat.xor_div_two_pow (n:=1);unfold on1;rw[d,c];rcases Nat.mod_two_eq_zero_or_one a with ha|ha<;>rcases Nat.mod_two_eq_zero_or_one b with hb|hb<;>rw[ha,hb]<;>simp only[Nat.xor_self,Nat.xor_zero,Nat.zero_xor,if_true,if_false,Nat.zero_ne_one]
 ·rw[Nat.xor_assoc]
 ·rw[Nat.xor_assoc,Nat.xor_assoc,Nat.xor_comm 3988292384]
 rw[Nat.xor_assoc,←Nat.xor_assoc 3988292384,Nat.xor_comm 3988292384,Nat.xor_assoc,Nat.xor_self,Nat.xor_zero]
theorem LH(y:Nat):on1 (2*y)=y:=by
 unfold on1;rw[if_neg jo];omega
theorem mV{x:Nat}(h:x<2 ^ 32):on1 x<2 ^ 32:=by
 unfold on1
 split
 ·exact Nat.xor_lt_two_pow jo jo
 omega
theorem LI(a b:Nat):tab (a ^^^ b)=tab a ^^^ tab b:=by unfold tab;simp only[LG]
theorem Cx{x:Nat}(h:x<2 ^ 32):tab x<2 ^ 32:=mV (mV (mV (mV (mV (mV (mV (mV h)))))))
theorem LJ(k:Nat):tab (256*k)=k:=by
 have e:256*k=2*(2*(2*(2*(2*(2*(2*(2*k))))))):=jo;rw[e];unfold tab;simp only[LH]
theorem Bu(a b:Nat):(a ^^^ b)%256=(a%256) ^^^ (b%256):=Nat.xor_mod_two_pow (n:=8)
theorem Bv(a b:Nat):(a ^^^ b)/256=(a/256) ^^^ (b/256):=Nat.xor_div_two_pow (n:=8)
theorem HY(n:Nat):(n%256) ^^^ (256*(n/256))=n:=by
 have b:((n%256) ^^^ (256*(n/256)))%256=n%256:=by
  rw[Bu,Nat.mul_mod_right,Nat.xor_zero,Nat.mod_mod]
 have a:((n%256) ^^^ (256*(n/256)))/256=n/256:=by
  rw[Bv,Nat.mul_div_cancel_left _ jo,Nat.div_eq_of_lt (Nat.mod_lt _ jo),Nat.zero_xor]
 omega
theorem Jc(s:Nat)(c:UInt8):on s c=tab ((s%256) ^^^ c.toNat) ^^^ (s/256):=by
 have a:c.toNat<256:=c.toNat_lt;have d:(s ^^^ c.toNat)%256=(s%256) ^^^ c.toNat:=by rw[Bu,Nat.mod_eq_of_lt a]
 have e:(s ^^^ c.toNat)/256=s/256:=by rw[Bv,Nat.div_eq_of_lt a,Nat.xor_zero]
 have b:=HY (s ^^^ c.toNat);unfold on;rw[←b,LI,LJ,d,e]
theorem Nq{s:Nat}(h:s<2 ^ 32)(c:UInt8):on s c<2 ^ 32:=Cx (Nat.xor_lt_two_pow h (by have:=c.toNat_lt;omega))
theorem rX{s:Nat}(h:s<2 ^ 32)(l:List UInt8):run s l<2 ^ 32:=by
 induction l generalizing s with
 | nil=>exact h
 | cons c l ih=>exact ih (Nq h c)
theorem BN(s:Nat)(l:List UInt8)(c:UInt8):run s (l ++ [c])=on (run s l) c:=by unfold run;rw[List.foldl_append];rfl
theorem vC{x:Nat}(h:x<2 ^ 32):iU x<2 ^ 32:=Nat.xor_lt_two_pow h (by omega)
theorem Cy(l:List UInt8):crc l<2 ^ 32:=vC (rX (by omega) l)
def fu:List UInt8→Nat
 | []=>0
 | c::l=>c.toNat ^^^ (256*fu l)
def le4(n:Nat):List UInt8:=[UInt8.ofNat n,UInt8.ofNat (n/256),UInt8.ofNat (n/65536),UInt8.ofNat (n/16777216)]
def ons:Nat→Nat→Nat
 | 0,x=>x
 | n+1,x=>on1 (ons n x)
theorem LK(x:Nat):ons 8 x=tab x:=rfl
theorem Cz(n:Nat){x:Nat}(h:x<2 ^ 32):ons n x<2 ^ 32:=by
 induction n with
 | zero=>exact h
 | succ n ih=>exact mV ih
end Cr
end Go.Proofs.YtmomjpolkkbhnaaGreat
