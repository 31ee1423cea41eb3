/- SLICED by slice.py -/
import Derived.BigRegion
import Derived.RegionTactic
import Derived.ChangeAlike
import Derived.Maps.AppendAt
import Derived.Laws.AppendOwnNone
import Derived.Deep.Slices
import Derived.Deep.Strs
import Derived.Lib.SmallJoins
import Derived.Test.YtmomjpolkkbhnaaGreatQModelCountsRow4
set_option linter.unusedSimpArgs false
set_option linter.unusedVariables false
set_option maxRecDepth 20000
set_option maxHeartbeats 100000000
open Go.Proofs.Tryz
namespace Go.Proofs.YtmomjpolkkbhnaaGreat
namespace Hi
open Go.RowKit
theorem yN(n d:Int)(hd:1≤d)(h:n.tmod d<0):n.tdiv d-1=n/d:=by
 have h1:=Int.mul_tdiv_add_tmod n d;have h2:=Int.lt_tmod_of_pos n (show 0<d by omega);have h3:n=d*(n.tdiv d-1)+(n.tmod d+d):=by rw[Int.mul_sub];omega
 have h4:n/d=(d*(n.tdiv d-1)+(n.tmod d+d))/d:=by rw[←h3]
 rw[h4,Int.add_comm,Int.add_mul_ediv_left _ _ jo,Int.ediv_eq_zero_of_lt jo jo];omega
theorem yO(n d:Int)(hd:1≤d)(h:¬n.tmod d<0):n.tdiv d=n/d:=by
 have h1:=Int.mul_tdiv_add_tmod n d;have h2:=Int.tmod_lt_of_pos n (show 0<d by omega);have h4:n/d=(d*(n.tdiv d)+n.tmod d)/d:=by rw[h1]
 rw[h4,Int.add_comm,Int.add_mul_ediv_left _ _ jo,Int.ediv_eq_zero_of_lt jo jo];omega
theorem ym(n d:Int)(hd:1≤d)(h1 : -9223372036854775808≤n)(h2:n≤9223372036854775807) : -9223372036854775808≤n.tdiv d∧n.tdiv d≤9223372036854775807:=by
 have:=Int.natAbs_tdiv_le_natAbs n d;constructor
 ·rcases Int.le_total 0 n with h|h
  ·have:=Int.tdiv_nonneg h (show 0≤d by omega);omega
  have:=Int.natAbs_tdiv_le_natAbs n d;omega
 rcases Int.le_total 0 n with h|h
 ·have:=Int.natAbs_tdiv_le_natAbs n d;omega
 have:=Int.tdiv_nonneg (a:=-n) (b:=d) jo jo;rw[Int.neg_tdiv]at this;omega
theorem yp(n d:Int)(hd:1≤d)(h1 : -9223372036854775808≤n)(h2:n≤9223372036854775807) : -9223372036854775808≤n/d∧n/d≤9223372036854775807:=by
 have a:=Int.le_ediv_of_mul_le (c:=d) (a:=-9223372036854775808) (b:=n) jo jo;have b:=Int.ediv_lt_of_lt_mul (c:=d) (a:=n) (b:=9223372036854775808) jo jo;omega
abbrev ng(n:Int):Prop:=-9223372036854775808≤n∧n≤9223372036854775807
theorem EE(n d:Int)(w:World)(hd:1≤d)(hn:ng n)(hd2:d≤9223372036854775807):Calls prog 107 #[.int .i64 n,.int .i64 d] w fun e w'=>e=.returned (.int .i64 (n/d))∧w=w':=by
 have hb:=ym n d hd hn.1 hn.2;have hf:=yp n d hd hn.1 hn.2;have h0:¬d=0:=jo;have hw1:wrap64 (n.tdiv d)=n.tdiv d:=IntWalk.wrap64_in _ hb;have hm1:=Int.tmod_lt_of_pos n (show 0<d by omega);have hm2:=Int.lt_tmod_of_pos n (show 0<d by omega);have hw2:wrap64 (n.tmod d)=n.tmod d:=IntWalk.wrap64_in _ jo;by_cases h:n.tmod d<0
 ·have e:=zh (yN n d hd h);have hw3:wrap64 (n.tdiv d-1)=n.tdiv d-1:=IntWalk.wrap64_in _ (by rw[e.out];exact hf);clear hm1 hm2 hf hb hn;go_enter func107,ntmps107;go_wp2;go_ret;exact⟨by show Ending.returned (.int .i64 (wrap64 (n.tdiv d-1)))=_;rw[hw3,e.out],rfl⟩
 have e:=zh (yO n d hd h);clear hm1 hm2 hf hb hn;go_enter func107,ntmps107;go_wp2;go_ret;exact⟨by show Ending.returned (.int .i64 (n.tdiv d))=_;rw[e.out],rfl⟩
theorem Fx(n d:Int)(w:World)(hd:1≤d)(hn:ng n)(hd2:d≤9223372036854775807):Calls prog 39 #[.int .i64 n,.int .i64 d] w fun e w'=>e=.returned (.int .i64 (n/d))∧w=w':=by
 have hb:=ym n d hd hn.1 hn.2;have hf:=yp n d hd hn.1 hn.2;have h0:¬d=0:=jo;have hw1:wrap64 (n.tdiv d)=n.tdiv d:=IntWalk.wrap64_in _ hb;by_cases h:n.tmod d<0
 ·have e:=zh (yN n d hd h);have hw3:wrap64 (n.tdiv d-1)=n.tdiv d-1:=IntWalk.wrap64_in _ (by rw[e.out];exact hf);clear hf hb hn;go_enter func39,ntmps39;go_wp2;go_ret;exact⟨by show Ending.returned (.int .i64 (wrap64 (n.tdiv d-1)))=_;rw[hw3,e.out],rfl⟩
 have e:=zh (yO n d hd h);clear hf hb hn;go_enter func39,ntmps39;go_wp2;go_ret;exact⟨by show Ending.returned (.int .i64 (n.tdiv d))=_;rw[e.out],rfl⟩
end Hi

namespace Hi
open Go.RowKit
theorem EF{α:Type}{l m:List α}{k:Nat}(h:l.take k=m.take k)(hl:k<l.length)(hm:k<m.length)(he:l[k]=m[k]):l.take (k+1)=m.take (k+1):=by
 rw[zL hl,zL hm,h,he]
theorem ub(A A':Option Addr)(c c' B B':Nat)(l m:List Bk)(w:World)(hR:Reads w B 2 A l.length (bkC l))(hR':Reads w B' 2 A' m.length (bkC m))(hl:l.length≤1000000000)(hm:m.length≤1000000000) :
  Calls prog 14 #[.slice A l.length c,.slice A' m.length c'] w fun e w'=>e=.returned (.bool (decide (l=m)))∧zWW w w':=by
 have HR:=zh hR;have HR':=zh hR';clear hR hR';by_cases hlen:l.length=m.length
 ·go_enter func14,ntmps14;go_wp2;go_loopw [5] (fun i wr=>∃k:Nat,k≤l.length∧i=.int .i64 k∧Hid (l.take k=m.take k)∧zWW w wr∧(∀p,wr.cell? p=w.cell? p)) (fun i _=>l.length-(intOf i).toNat)
  case atStart=>exact⟨0,zS _,rfl,zh rfl,zw _ _,fun _=>rfl⟩
  obtain⟨k,hk,rfl,hT,hb,hcells⟩:=hrel;by_cases hlt:k<l.length
  ·have hltm:k<m.length:=jo;obtain⟨bb,o,rfl,hbb,d1,d2⟩:=eG HR.out rfl hlt;obtain⟨bb',o',rfl,hbb',d1',d2'⟩:=eG HR'.out rfl hltm;rw[←hcells]at d1 d2 d1' d2';have T:=zh (EF hT.out hlt hltm);have hb':=zh hb;have Hc:=zh hcells;have hpe:(l[k]=m[k])↔(l[k].1=m[k].1∧l[k].2=m[k].2):=Prod.ext_iff;have Nk:Hid (¬(l[k]=m[k])→¬l=m):=zh (fun h e=>h (by subst e;rfl));rw[hpe]at T Nk;clear hb hcells hpe;generalize l[k].1=x at *;generalize l[k].2=y at *;generalize m[k].1=x' at *;generalize m[k].2=y' at *;by_cases e1:x=x'
   ·by_cases e2:y=y'
    ·go_wp2;go_region;go_wp2;go_roundw
     case rel=>exact⟨k+1,jo,ju,zh (T.out ⟨e1,e2⟩),hb'.out.drew,Hc.out⟩
     simp[intOf];omega
    go_wp2;go_region;go_wp2;go_ret;exact⟨by rw[zN (Nk.out fun h=>e2 h.2)];rfl,hb'.out.drew⟩
   go_wp2;go_region;go_wp2;go_ret;exact⟨by rw[zN (Nk.out fun h=>e1 h.1)];rfl,hb'.out.drew⟩
  have hall:l=m:=by
   have h1:l.take k=l:=zR jo;have h2:m.take k=m:=zR jo;rw[←h1,←h2,hT.out]
  have hb':=zh hb;clear hb hcells hT;go_wp2;go_ret;exact⟨by rw[zO hall];rfl,hb'.out⟩
 have:¬l=m:=fun e=>hlen (by rw[e])
 rw[zN this];go_enter func14,ntmps14;go_wp2;go_ret;exact⟨rfl,zw _ _⟩
end Hi

namespace Hi
open Go.RowKit
structure Fine (l:List Bk):Prop where
 up:Up l
 one:∀b∈l,1≤b.2
theorem Fine.nil:Fine []:=⟨Up.nil,fun b h=>by simp at h⟩
theorem yP(l:List Bk):Up l↔l.Pairwise (fun a b=>a.1<b.1):=by
 constructor
 ·intro h;rw[List.pairwise_iff_getElem];intro i j hi hj hij;exact h.lt i j hij hj
 intro h i hi;rw[List.pairwise_iff_getElem]at h;exact h i (i+1) jo hi jo
theorem Fy(l:List Bk)(k n:Int):(bG l k n).1.length≤l.length+1:=by
 unfold bG
 split
 ·split
  ·simp
  simp
 have:=gA l k;simp;omega
theorem EG{l:List Bk}(h:Fine l)(k n:Int)(hn:1≤n):Fine (bG l k n).1:=by
 have hp:=gA l k;unfold bG
 split
 ·rename_i hf;obtain⟨hlt,hk⟩:=hf;have hgd:l.getD (pos l k) (0,0)=l[pos l k]:=by rw[List.getD_eq_getElem?_getD,zU hlt];rfl
  rw[hgd]at hk ⊢
  split
  ·exact Fine.nil
  refine⟨?_,?_⟩
  ·intro i hi;simp only[List.length_set]at hi;have hu:=h.up i hi;rw[List.getElem_set,List.getElem_set]
   split
   ·split
    ·omega
    rename_i h1 _;subst h1;rw[hk]at hu;exact hu
   split
   ·rename_i h1;show l[i].1<k;have e:l[pos l k].1=l[i+1].1:=(by simp only[h1]);omega
   exact hu
  intro b hb;rcases List.mem_or_eq_of_mem_set hb with hb|rfl
  ·exact h.one b hb
  have:=h.one _ (za hlt);show 1≤l[pos l k].2+n;omega
 rename_i hf;refine⟨?_,?_⟩
 ·rw[yP,List.pairwise_append,List.pairwise_cons];have hpw:=(yP l).1 h.up
  have hlo:∀a∈l.take (pos l k),a.1<k:=fun a ha=>by
   obtain⟨i,hi,rfl⟩:=List.getElem_of_mem ha;rw[zK]at hi;rw[List.getElem_take];exact(iK l k i jo).2
  have hhi:∀a∈l.drop (pos l k),k<a.1:=fun a ha=>by
   obtain⟨i,hi,rfl⟩:=List.getElem_of_mem ha;rw[zP]at hi;rw[List.getElem_drop];have hlt:pos l k<l.length:=jo;have h0:=qz l k hlt;have hgd:l.getD (pos l k) (0,0)=l[pos l k]:=by rw[List.getD_eq_getElem?_getD,zU hlt];rfl
   have hne:¬l[pos l k].1=k:=fun e=>hf ⟨hlt,by rw[hgd];exact e⟩
   rcases Nat.eq_zero_or_pos i with rfl|hip
   ·simp only[Nat.add_zero];omega
   have:=h.up.lt (pos l k) (pos l k+i) jo jo;omega
  refine⟨hpw.sublist (List.take_sublist _ _),⟨hhi,hpw.sublist (List.drop_sublist _ _)⟩,fun a ha b hb=>?_⟩;have h1:=hlo a ha;rcases List.mem_cons.1 hb with rfl|hb
  ·exact h1
  have:=hhi b hb;omega
 intro b hb;rcases List.mem_append.1 hb with hb|hb
 ·exact h.one b (List.mem_of_mem_take hb)
 rcases List.mem_cons.1 hb with rfl|hb
 ·exact hn
 exact h.one b (List.mem_of_mem_drop hb)
def ofF(d:Int)(ts:List Int):List Bk:=ts.foldl (fun l t=>(bG l (t/d) 1).1) []
theorem p5(d:Int)(ts:List Int)(k:Nat)(h:k<ts.length):ofF d (ts.take (k+1))=(bG (ofF d (ts.take k)) (ts[k]/d) 1).1:=by
 rw[zL h];unfold ofF;rw[List.foldl_append];rfl
theorem p6(d:Int)(ts:List Int):∀k,k≤ts.length→Fine (ofF d (ts.take k))∧(ofF d (ts.take k)).length≤k
 | 0,_=>⟨Fine.nil,zG _⟩
 | k+1,h=>by
  have ih:=p6 d ts k jo;rw[p5 d ts k h];exact⟨EG ih.1 _ _ jo,zY (Fy _ _ _) jo⟩
def lT(B:Nat)(d:Int)(ts:List Int)(w:World)(e:Ending)(w':World):Prop:=
 ∃v,e=.returned (.tuple #[v,.int .i64 (if d<1 then 240 else 0)])∧Row B w w' v (if d<1 then[]else ofF d ts)
theorem ij(A:Option Addr)(c B:Nat)(d:Int)(ts:List Int)(w:World)(hR:Reads w B 1 A ts.length (ts.map (Value.int .i64)))(hB:B≤w.heap.size)(hl:ts.length≤900000)(hd2:d≤9223372036854775807)(hin:∀t∈ts,ng t) :
  Calls prog 68 #[.int .i64 d,.slice A ts.length c] w (lT w.heap.size d ts w):=by
 unfold lT;by_cases hd:d<1
 ·simp only[zI hd];go_enter func68,ntmps68;go_wp2;go_ret2;exact⟨.slice none 0 0,rfl,Row.start _ _ _ (zw _ _)⟩
 simp only[zH hd];have HR:=zh hR;have Hin:=zh hin;clear hR hin;go_enter func68,ntmps68;go_wp2;go_loopw [6,13] (fun v i wr=>∃k:Nat,k≤ts.length∧i=.int .i64 k∧Row w.heap.size w wr v (ofF d (ts.take k))) (fun _ i _=>ts.length-(intOf i).toNat)
 case atStart=>exact⟨0,zS _,rfl,Row.start _ _ _ (zw _ _)⟩
 obtain⟨k,hk,rfl,hT⟩:=hrel;by_cases hlt:k<ts.length
 ·obtain⟨bb,o,hl',rfl,hbb,hc1⟩:=HR.out.at_map hlt;have d1:=(hT.bel.cell (p:=⟨bb,o+k,none⟩) (zT hbb hB)).trans hc1;have T:=zh (p5 d ts k hlt);have G:=p6 d ts k hk;have ht:=Hin.out _ (za hlt);have c1:=EE ts[k] d wr jo ht hd2;have c2:=qG w.heap.size _ _ (ts[k]/d) 1 wr hT.own hT.bel.size jo G.1.up G.1.one jo jo;have HT:=zh hT;clear hT hc1 ht;generalize ts[k]=x at *;generalize ofF d (ts.take k)=l at *;go_wp2_with fail;refine c1.mono ?_;rintro e w1 ⟨rfl,rfl⟩;go_wp2_with fail;refine c2.mono ?_;rintro e w2 ⟨v',rfl,hv⟩;have HV:=zh hv;clear hv c1 c2;go_wp2;go_roundw
  case rel=>exact⟨k+1,jo,ju,by rw[T.out];exact⟨HV.out.own,HT.out.bel.trans HV.out.bel⟩⟩
  simp[intOf];omega
 have hall:ts.take k=ts:=zR jo;rw[hall]at hT;have HT:=zh hT;clear hT;go_wp2;go_ret2;exact⟨_,rfl,HT.out⟩
end Hi

namespace Rg
open Go.RowKit
theorem add_lit(b o n:Nat):(⟨b,o,none⟩:Addr).add n=⟨b,o+n,none⟩:=by unfold Addr.add;split<;>simp_all
section
variable {w:World} {B n c p k:Nat} {A:Option Addr} {X:List Value}
end
structure Row (T:TypeId) (k B:Nat) (w wr:World) (v:Value) (n:Nat) (X:List Value):Prop where
 own:wr.ownsRow B T k v n X
 bel:Below B w wr
section
variable {T:TypeId} {k B n:Nat} {w wr w':World} {v:Value} {X:List Value}
theorem Row.start(hb:Below B w wr):Row T k B w wr (.slice none 0 0) 0 []:=⟨vM _ _ _ _,hb⟩
theorem Row.empty(T:TypeId)(k:Nat)(hk:0<k)(w:World):Row T k w.heap.size w (w.alloc (.cells #[] T)) (.slice (some ⟨w.heap.size,0,none⟩) 0 0) 0 []:=
 ⟨World.ownsRow_lit (base:=w.heap.size) (e:=T) (size:=k) w #[] 0 jz jx jz,zRR _⟩
theorem Row.below(h:Row T k B w wr v n X)(hB:B≤wr.heap.size)(hb:zWW wr w'):Row T k B w w' v n X:=
 ⟨h.own.kept (aJ hb none) (by cases v.ownBlock<;>simp),h.bel.trans (hb.mono hB)⟩
theorem Row.alloc(h:Row T k B w wr v n X)(hB:B≤wr.heap.size)(o:Obj):Row T k B w (wr.alloc o) v n X:=h.below hB (zRR _)
theorem Row.app{w5:World}{v5:Value}{m:Nat}{Y:List Value}(h:Row T k B w wr v n X)(hB:B≤wr.heap.size)(ho:w5.ownsRow B T k v5 (n+m) (X++Y))(hg:wr.grownBy w5 v.ownBlock):Row T k B w w5 v5 (n+m) (X++Y):=
 ⟨ho,h.bel.grown hg hB (fun b hb=>(h.own.lt b hb).1)⟩
theorem GG{w:World}{B B' n:Nat}{T:TypeId}{v:Value}{xs:List Value}(h:w.ownsRow B T k v n xs)(hB:B'≤B):w.ownsRow B' T k v n xs:=by
 obtain⟨h1,h2|⟨g,cap,cur,q1,q2,q3⟩⟩:=h
 ·exact⟨h1,.inl h2⟩
 exact⟨h1,.inr ⟨g,cap,cur,q1,jo,q3⟩⟩
theorem Row.over{w2:World}(h:Row T k B wr w2 v n X)(hw:zWW w wr)(hB:w.heap.size≤B):Row T k w.heap.size w w2 v n X:=⟨GG h.own hB,hw.trans (h.bel.mono hB)⟩
theorem I3(w:World)(T:TypeId)(cs:List Value)(m:Nat)(hl:cs.length=m*k)(h0:0<m):Reads (w.alloc (.cells cs.toArray T)) (w.alloc (.cells cs.toArray T)).heap.size k (some ⟨w.heap.size,0,none⟩) m cs:=
 ⟨hl,fun _=>⟨_,0,rfl,jz,fun j u hj=>by
  rw[zf,(Blk.new w T cs.toArray).cell j]
  simpa using hj⟩⟩
end
end Rg

namespace Qy
open Go.RowKit Go.ChangeShapes Go.WideShapes Go.ChangeAt Go.Deep Go.Joins
section
variable {H:Type} {enc:TypeId × Value→H} {P:Program} {W:World} {t e:TypeId}
theorem qA{k:Nat}:∀ {vss:List (List Value)} (_:∀v∈vss,v.length=k),vss.flatten.length=vss.length*k
 | [],_=>by simp
 | v::vss,h=>by
  rw[List.flatten_cons,zJ,h v jz,qA (fun x hx=>h x (List.mem_cons_of_mem _ hx)),zV,Nat.add_mul,Nat.one_mul,Nat.add_comm]
theorem qB{k fuel:Nat}{v:Value}{x:DataW H × List MemPlace}(ht:P.underlying t=some (.slice e))(hc:P.cellsOf e=k)(hk:0<k)(h:DataW.trod enc P W 0 (fun _=>true) true fuel t [v]=some x) :
  ∃(A:Option Addr) (len cap:Nat) (vss:List (List Value)) (ds spare:List (DataW H)),v=.slice A len cap∧len≤cap∧vss.length=len∧(∀u∈vss,u.length=k)∧Reads W W.heap.size k A len vss.flatten∧ds.length=len ∧
   (x.1=.slice ds spare∨(len=0∧ds=[]))∧∀i (h1:i<vss.length) (h2:i<ds.length),∃n y,DataW.trod enc P W 0 (fun _=>true) true n e vss[i]=some y∧y.1=ds[i]:=by
 rcases open_slice ht h with⟨hcs,_⟩|⟨a,len,cap,m,n,D,Pl,hcs,_,hl,hm,hmm,rfl,hx⟩
 ·simp only[zQ,and_true]at hcs;exact⟨none,0,0,[],[],[],hcs,zG _,rfl,jz,Reads.none_,rfl,.inr ⟨rfl,rfl⟩,fun i h1=>absurd h1 jz⟩
 simp only[zQ,and_true]at hcs;have hlm:len≤m:=by rw[hmm];split<;>omega
 have each:∀i:Nat,∃cs':List Value,i<len→W.cells? 0 (a.add (i*P.cellsOf e)) (P.cellsOf e)=some cs'∧DataW.trod enc P W 0 (fun _=>true) true n e cs'=some (D i,Pl i):=fun i=>by
  by_cases hi:i<len
  ·obtain⟨cs',h1,h2⟩:=hx i jo;exact⟨cs',fun _=>⟨h1,h2⟩⟩
  exact⟨[],fun h=>absurd h hi⟩
 obtain⟨f,hf⟩:=Classical.skolem.1 each;rw[hc]at hf;have hlen:((List.range len).map f).length=len:=jz
 have h4:∀u∈(List.range len).map f,u.length=k:=fun u hu=>by
  obtain⟨i,hi,rfl⟩:=List.mem_map.1 hu;exact(World.cells?_some (hf i (by simpa using hi)).1).2.1
 refine⟨some a,len,cap,(List.range len).map f,(List.range len).map D,_,hcs,hl,hlen,h4,?_,jz,.inl rfl,fun i h1 h2=>?_⟩
 ·have hfl:((List.range len).map f).flatten.length=len*k:=by rw[qA h4,hlen]
  refine⟨hfl,fun hn=>?_⟩;obtain⟨b,o,sp⟩:=a;have hc0:=(World.cells?_some (hf 0 hn).1).2.2 0 hk;have hl0:=(World.cells?_some (hf 0 hn).1).2.1;rw[zU jo]at hc0;have hsp:sp=none:=by simpa[Addr.add]using World.cell?_spot hc0
  subst hsp;have hadd:∀o' j,(⟨b,o',none⟩:Addr).add j=⟨b,o'+j,none⟩:=fun o' j=>by unfold Addr.add;split<;>simp_all
  have hbl:b<W.heap.size:=by
   have:=World.block_lt_of_cell? W _ hc0
   simpa[AU]using this
  refine⟨b,o,rfl,hbl,fun j u hu=>?_⟩
  have hj:j<len*k:=by
   have:=(List.getElem?_eq_some_iff.1 hu).1;rw[hfl]at this;exact this
  have hi:j/k<len:=(Nat.div_lt_iff_lt_mul hk).2 hj;have hr:j%k<k:=Nat.mod_lt _ hk;have ej:j=j/k*k+j%k:=by rw[Nat.mul_comm];exact(Nat.div_add_mod j k).symm
  have hg:=cQ h4 (j/k) (j%k) (by rw[hlen];exact hi) hr;rw[←ej]at hg;rw[hg]at hu;have hc:=(World.cells?_some (hf (j/k) hi).1).2.2 (j%k) hr;rw[hadd,hadd,Nat.add_assoc,←ej]at hc;rw[hc,←hu];simp
 have hi:i<len:=by rw[hlen]at h1;exact h1
 refine⟨n,(D i,Pl i),?_,jz⟩;have:=(hf i hi).2
 simpa using this
theorem jB{fs:Array Field}{parts:List (DataW H)}{j:Nat}{u:TypeId}{d:DataW H}(ht:P.underlying t=some (.struct fs))(hw:∀n∈(DataW.agg parts).weights P t,n≤140737488351232)
  (h1:(fs.toList.map (·.type))[j]?=some u) (h2:parts[j]?=some d):∀n∈d.weights P u,n≤140737488351232:=by
 intro n hn;apply hw;simp only[DataW.weights,ht];exact DataW.weights_mem_each h1 h2 n hn
theorem oF{ds spare:List (DataW H)}{d:DataW H}(ht:P.underlying t=some (.slice e))(hw:∀n∈(DataW.slice ds spare).weights P t,n≤140737488351232)(hd:d∈ds):∀n∈d.weights P e,n≤140737488351232:=by
 intro n hn;apply hw;simp only[DataW.weights,ht];exact List.mem_cons_of_mem _ (List.mem_append_left _ (rN hd n hn))
theorem oI{ds spare:List (DataW H)}(ht:P.underlying t=some (.slice e))(hw:∀n∈(DataW.slice ds spare).weights P t,n≤140737488351232):ds.length*P.bytesOf e≤140737488351232:=by
 have:=hw ((ds.length+spare.length)*P.bytesOf e) (by
  simp only[DataW.weights,ht]
  exact List.mem_cons_self)
 rw[Nat.add_mul]at this;omega
end
end Qy
end Go.Proofs.YtmomjpolkkbhnaaGreat
