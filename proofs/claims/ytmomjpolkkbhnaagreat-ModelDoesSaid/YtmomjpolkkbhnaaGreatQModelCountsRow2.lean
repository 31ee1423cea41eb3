/- Queries, as they lie in memory. No program. -/
import Derived.Outline
import Derived.Laws.CopyRow
import Derived.Laws.OwnMore
import Derived.Lib.AppendZerosOnto
import Derived.Lib.Overlaps
import Derived.Lib.SlBuf
import Derived.Laws.Externs
import Derived.Deep.RegionLaw
import Derived.Deep.RegionHeld3
import Derived.Laws.NewBlocks
import Derived.Test.YtmomjpolkkbhnaaGreatQModelCountsRow0
set_option maxRecDepth 20000
set_option maxHeartbeats 100000000
set_option linter.unusedSimpArgs false
open Go.Proofs.Tryz
namespace Go.Proofs.YtmomjpolkkbhnaaGreat
namespace Qy
open Go.RowKit
inductive Q where
 | mk (kind:Int) (name:ByteArray) (words:List ByteArray) (l:List Q)
def Q.kind:Q→Int | .mk k _ _ _=>k
def Q.name:Q→ByteArray | .mk _ n _ _=>n
def Q.words:Q→List ByteArray | .mk _ _ w _=>w
def Q.l:Q→List Q | .mk _ _ _ l=>l
theorem Q.ind{p:Q→Prop}(h:∀k n ws l,(∀x∈l,p x)→p (.mk k n ws l)):∀q,p q:=by
 intro q;refine Q.rec (motive_1:=p) (motive_2:=fun l=>∀x∈l,p x) (fun k n ws l hl=>h k n ws l hl) jz (fun x l hx hl=>?_) q;intro y hy;rcases List.mem_cons.1 hy with rfl|hy
 ·exact hx
 exact hl y hy
theorem cQ{k:Nat}:∀ {vss:List (List Value)} (_:∀v∈vss,v.length=k) (i j:Nat) (hi:i<vss.length) (_:j<k),vss.flatten[i*k+j]?=(vss[i])[j]?
 | v::vss,h,0,j,_,_=>by
  have hv:=h v jz;rw[List.flatten_cons,Nat.zero_mul,zf,List.getElem?_append_left jo];rfl
 | v::vss,h,i+1,j,hi,hj=>by
  have hv:=h v jz;have ih:=cQ (fun x hx=>h x (List.mem_cons_of_mem _ hx)) i j (by simpa using hi) hj;have e:(i+1)*k+j=v.length+(i*k+j):=by rw[hv,Nat.add_mul,Nat.one_mul];omega
  rw[List.flatten_cons,e,List.getElem?_append_right jo,Nat.add_sub_cancel_left,ih];rfl
inductive QAt (w:World) (B:Nat):Q→List Value→Prop
 | mk {k:Int} {nm:ByteArray} {ws:List ByteArray} {l:List Q} {A C:Option Addr} {n c m d:Nat} (vss:List (List Value)) (hn:ws.length=n) (hw:Reads w B 1 A n (ws.map Value.string)) (hm:l.length=m) (hv:vss.length=m)
   (h4:∀v∈vss,v.length=4) (hl:Reads w B 4 C m vss.flatten) (kids:∀i (h:i<l.length) (h':i<vss.length),QAt w B l[i] vss[i]):QAt w B (.mk k nm ws l) [.int .i64 k,.string nm,.slice A n c,.slice C m d]
theorem QAt.keep{w w':World}{B:Nat}(hk:∀b o,b<B→w'.cell? ⟨b,o,none⟩=w.cell? ⟨b,o,none⟩){q:Q}{vs:List Value}(h:QAt w B q vs):QAt w' B q vs:=by
 induction h with
 | mk vss hn hw hm hv h4 hl _ ih=>exact .mk vss hn (hw.keep hk) hm hv h4 (hl.keep hk) ih
theorem QAt.lower{w w':World}{B:Nat}{q:Q}{vs:List Value}(h:QAt w B q vs)(hb:Below B w w'):QAt w' B q vs:=h.keep fun _ _ hp=>hb.cell hp
theorem QAt.more{w:World}{B B':Nat}{q:Q}{vs:List Value}(h:QAt w B q vs)(hB:B≤B'):QAt w B' q vs:=by
 induction h with
 | mk vss hn hw hm hv h4 hl _ ih=>exact .mk vss hn (hw.more hB) hm hv h4 (hl.more hB) ih
theorem QAt.grow{w w':World}{q:Q}{vs:List Value}(h:QAt w w.heap.size q vs)(hb:zWW w w'):QAt w' w'.heap.size q vs:=(h.lower hb).more hb.size
structure QIs (w:World) (B:Nat) (k:Int) (nm:ByteArray) (ws:List ByteArray) (l:List Q) (A:Option Addr) (n:Nat) (C:Option Addr) (m:Nat):Prop where
 wn:ws.length=n
 wds:Reads w B 1 A n (ws.map Value.string)
 lm:l.length=m
 kid:∀i (h:i<l.length),∃b o v,C=some ⟨b,o,none⟩∧b<B∧QAt w B l[i] v∧∀j u,v[j]?=some u→w.cell? ⟨b,o+(i*4+j),none⟩=some u
theorem QAt.is{w:World}{B:Nat}{k:Int}{nm:ByteArray}{ws:List ByteArray}{l:List Q}{vs:List Value}(h:QAt w B (.mk k nm ws l) vs) :
  ∃A n c C m d,vs=[.int .i64 k,.string nm,.slice A n c,.slice C m d]∧QIs w B k nm ws l A n C m:=by
 cases h with
 | @mk _ _ _ _ A C n c m d vss hn hw hm hv h4 hl kids=>
  refine⟨A,n,c,C,m,d,rfl,hn,hw,hm,fun i hi=>?_⟩;obtain⟨b,o,e,hb,hc⟩:=hl.2 jo;have hi':i<vss.length:=jo;refine⟨b,o,vss[i],e,hb,kids i hi hi',fun j u hu=>?_⟩
  have hj:j<4:=by
   have h1:=(List.getElem?_eq_some_iff.1 hu).1;rw[h4 _ (za hi')]at h1;exact h1
  exact hc _ _ ((cQ h4 i j hi' hj).trans hu)
theorem QAt.len{w:World}{B:Nat}{q:Q}{vs:List Value}(h:QAt w B q vs):vs.length=4:=by cases h;rfl
theorem QIs.at_{w:World}{B:Nat}{k:Int}{nm:ByteArray}{ws:List ByteArray}{l:List Q}{A C:Option Addr}{n m:Nat}(h:QIs w B k nm ws l A n C m){i:Nat}(hi:i<l.length) :
  ∃b o A' n' c' C' m' d',C=some ⟨b,o,none⟩∧b<B∧QAt w B l[i] [.int .i64 l[i].kind,.string l[i].name,.slice A' n' c',.slice C' m' d'] ∧
   w.cell? ⟨b,o+i*4,none⟩=some (.int .i64 l[i].kind)∧w.cell? ⟨b,o+i*4+1,none⟩=some (.string l[i].name)∧w.cell? ⟨b,o+i*4+2,none⟩=some (.slice A' n' c')∧w.cell? ⟨b,o+i*4+3,none⟩=some (.slice C' m' d'):=by
 obtain⟨b,o,v,e,hb,hq,hc⟩:=h.kid i hi;generalize l[i]=q at *;obtain⟨k',nm',ws',l'⟩:=q;obtain⟨A',n',c',C',m',d',rfl,_⟩:=hq.is;exact⟨b,o,A',n',c',C',m',d',e,hb,hq,by simpa[Q.kind]using hc 0 _ rfl,by simpa[Nat.add_assoc,Q.name]using hc 1 _ rfl,by simpa[Nat.add_assoc]using hc 2 _ rfl,by simpa[Nat.add_assoc]using hc 3 _ rfl⟩
def aO(fs:List (ByteArray × ByteArray)):List Value:=fs.flatMap fun f=>[.string f.1,.string f.2]
theorem mD(fs:List (ByteArray × ByteArray)):(aO fs).length=fs.length*2:=by
 induction fs with
 | nil=>rfl
 | cons f fs ih=>simp[aO]at *;omega
theorem pI:∀(fs:List (ByteArray × ByteArray)) (k:Nat) (h:k<fs.length),(aO fs)[k*2]?=some (.string fs[k].1)∧(aO fs)[k*2+1]?=some (.string fs[k].2)
 | f::fs,0,_=>⟨rfl,rfl⟩
 | f::fs,k+1,h=>by
  have ih:=pI fs k (by simpa using h);have e1:(k+1)*2=k*2+2:=jo;have e2:(k+1)*2+1=(k*2+1)+2:=jo;rw[e2,e1];exact ih
theorem iB{w:World}{B n:Nat}{A:Option Addr}{fs:List (ByteArray × ByteArray)}(h:Reads w B 2 A n (aO fs)){k:Nat}(hk:k<fs.length) :
  ∃b o,A=some ⟨b,o,none⟩∧b<B∧w.cell? ⟨b,o+k*2,none⟩=some (.string fs[k].1)∧w.cell? ⟨b,o+k*2+1,none⟩=some (.string fs[k].2):=by
 have hl:=h.1;rw[mD]at hl;obtain⟨b,o,e,hb,hc⟩:=h.2 jo;have g:=pI fs k hk;refine⟨b,o,e,hb,hc _ _ g.1,?_⟩;have:=hc _ _ g.2
 rwa[←Nat.add_assoc]at this
end Qy

namespace Hi
open Go.RowKit
abbrev Bk:=Int × Int
def pos(l:List Bk)(k:Int):Nat:=l.findIdx fun x=>decide (k≤x.1)
theorem gA(l:List Bk)(k:Int):pos l k≤l.length:=List.findIdx_le_length
theorem iK(l:List Bk)(k:Int)(i:Nat)(h:i<pos l k):∃hl:i<l.length,l[i].1<k:=by
 have hl:i<l.length:=zT h (gA l k);refine⟨hl,?_⟩;have:=List.not_of_lt_findIdx h
 simpa using this
theorem qz(l:List Bk)(k:Int)(h:pos l k<l.length):k≤(l[pos l k]'h).1:=by
 have:=List.findIdx_getElem (p:=fun x:Bk=>decide (k≤x.1)) (xs:=l) (w:=h);exact of_decide_eq_true this
theorem Js(l:List Bk)(k:Int)(i:Nat)(hi:i≤l.length)(h1:∀a (h:a<i),(l[a]'(by omega)).1<k)(h2:∀h:i<l.length,k≤l[i].1):pos l k=i:=by
 rcases Nat.lt_trichotomy (pos l k) i with h|h|h
 ·have hp:=qz l k jo;have:=h1 (pos l k) h;omega
 ·exact h
 obtain⟨hl,hlt⟩:=iK l k i h;have:=h2 hl;omega
def Up(l:List Bk):Prop:=∀i (h:i+1<l.length),(l[i]'(by omega)).1<l[i+1].1
theorem Up.lt{l:List Bk}(h:Up l):∀(i j:Nat) (hij:i<j) (hj:j<l.length),(l[i]'(by omega)).1<l[j].1:=by
 intro i j hij
 induction j with
 | zero=>omega
 | succ j ih=>
  intro hj;have h1:=h j hj;by_cases e:i=j
  ·subst e;exact h1
  have:=ih jo jo;omega
theorem Up.nil:Up []:=fun i h=>by simp at h
def bA:Int:=1099511627776
def bG(l:List Bk)(k n:Int):List Bk × Bool:=
 if pos l k<l.length∧(l.getD (pos l k) (0,0)).1=k then
  (if bA<n∨bA-n<(l.getD (pos l k) (0,0)).2 then([],false)else(l.set (pos l k) (k,(l.getD (pos l k) (0,0)).2+n),true))
 else(l.take (pos l k)++(k,n)::l.drop (pos l k),decide (n≤bA))
def iz(l:List Bk)(k:Int):Bool:=decide (pos l k<l.length)&&decide ((l.getD (pos l k) (0,0)).1=k)
def bkV(x:Bk):List Value:=[.int .i64 x.1,.int .i64 x.2]
def bkC(l:List Bk):List Value:=l.flatMap bkV
theorem dL(l:List Bk):(bkC l).length=l.length*2:=by
 induction l with
 | nil=>rfl
 | cons x l ih=>simp[bkC,bkV]at *;omega
theorem mX(a b:List Bk):bkC (a++b)=bkC a++bkC b:=by simp[bkC]
theorem cg:∀(l:List Bk),∀u∈bkC l,u.oneCell'=true:=by
 intro l u hu;simp only[bkC,List.mem_flatMap]at hu;obtain⟨x,_,hx⟩:=hu;simp only[bkV,List.mem_cons,List.not_mem_nil,or_false]at hx;rcases hx with rfl|rfl<;>rfl
theorem qW:∀(l:List Bk) (k:Nat) (h:k<l.length),(bkC l)[k*2]?=some (.int .i64 l[k].1)∧(bkC l)[k*2+1]?=some (.int .i64 l[k].2)
 | x::l,0,_=>⟨rfl,rfl⟩
 | x::l,k+1,h=>by
  have ih:=qW l k (by simpa using h);have e1:(k+1)*2=k*2+2:=jo;have e2:(k+1)*2+1=(k*2+1)+2:=jo;rw[e2,e1];exact ih
theorem dx(l:List Bk)(k:Nat):bkC (l.take k)=(bkC l).take (k*2):=by
 induction l generalizing k with
 | nil=>simp[bkC]
 | cons x l ih=>
  cases k with
  | zero=>simp[bkC]
  | succ k=>
   have e1:(k+1)*2=k*2+2:=jo;rw[zX,e1];show bkV x++bkC (l.take k)=(bkV x++bkC l).take (k*2+2);rw[ih k,show k*2+2=(bkV x).length+k*2 from by simp[bkV];omega,List.take_length_add_append]
theorem lH(l:List Bk)(k:Nat):bkC (l.drop k)=(bkC l).drop (k*2):=by
 induction l generalizing k with
 | nil=>simp[bkC]
 | cons x l ih=>
  cases k with
  | zero=>simp[bkC]
  | succ k=>
   have e1:(k+1)*2=k*2+2:=jo;rw[zm,e1];show bkC (l.drop k)=(bkV x++bkC l).drop (k*2+2);rw[ih k,show k*2+2=(bkV x).length+k*2 from by simp[bkV];omega,List.drop_length_add_append]
theorem Ic(l:List Bk)(k:Nat)(a n:Int)(h:k<l.length)(ha:l[k].1=a):(bkC l).set (k*2+1) (.int .i64 n)=bkC (l.set k (a,n)):=by
 induction l generalizing k with
 | nil=>simp at h
 | cons x l ih=>
  cases k with
  | zero=>
   simp only[List.getElem_cons_zero]at ha;subst ha;simp[bkC,bkV]
  | succ k=>
   have e2:(k+1)*2+1=(k*2+1)+2:=jo;rw[e2];show bkV x++(bkC l).set (k*2+1) _=bkV x++bkC (l.set k (a,n));rw[ih k (by simpa using h) (by simpa using ha)]
theorem eG{w:World}{B n:Nat}{A:Option Addr}{l:List Bk}(h:Reads w B 2 A n (bkC l))(hn:l.length=n){k:Nat}(hk:k<l.length) :
  ∃b o,A=some ⟨b,o,none⟩∧b<B∧w.cell? ⟨b,o+k*2,none⟩=some (.int .i64 l[k].1)∧w.cell? ⟨b,o+k*2+1,none⟩=some (.int .i64 l[k].2):=by
 obtain⟨b,o,e,hb,hc⟩:=h.2 jo;have g:=qW l k hk;refine⟨b,o,e,hb,hc _ _ g.1,?_⟩;have:=hc _ _ g.2;rw[←Nat.add_assoc]at this;exact this
end Hi

namespace Hi
open Go.RowKit
theorem uZ(n:Int)(w:World):Calls prog 130 #[.int .i64 n] w fun e w'=>e=.returned (.bool false)∧w=w':=by
 go_enter func130,ntmps130;go_wp2;go_ret;exact⟨jz,rfl⟩
def dJ(a b:Int):Int:=if a<b then -1 else if b<a then 1 else 0
theorem BF(a b:Int)(w:World):Calls prog 105 #[.int .i64 a,.int .i64 b] w fun e w'=>e=.returned (.int .i64 (dJ a b))∧w=w':=by
 have c1:=uZ a w;have c2:=uZ b w;go_enter func105,ntmps105;go_wp2_with fail;refine c1.mono ?_;rintro e w' ⟨rfl,rfl⟩;go_wp2_with fail;refine c2.mono ?_;rintro e w' ⟨rfl,rfl⟩;rcases Int.lt_trichotomy a b with h|h|h
 ·have E:Hid (dJ a b=-1):=zh (by unfold dJ;rw[zI h]);go_wp2;go_ret;exact⟨by rw[E.out];rfl,rfl⟩
 ·subst h;have E:Hid (dJ a a=0):=zh (by unfold dJ;rw[zH jo,zH jo]);go_wp2;go_ret;exact⟨by rw[E.out];rfl,rfl⟩
 have E:Hid (dJ a b=1):=zh (by unfold dJ;rw[zH jo,zI h]);have h':¬a<b:=jo;go_wp2;go_ret;exact⟨by rw[E.out];rfl,rfl⟩
theorem KS(a b:Int)(w:World):Calls prog 133 #[.agg #[.int .i64 a,.int .i64 b]] w fun e w'=>e=.returned (.int .i64 a)∧zWW w w':=by
 go_enter func133,ntmps133;go_wp2;go_ret;exact⟨rfl,zRR _⟩
def kF:Value:=.func (.func 133) #[] #[]
def lX(p:Nat):Value:=.func (.func 155) #[] #[.pointer (some ⟨p,0,none⟩)]
theorem Jt(w:World):Calls prog 132 #[kF] w fun e w'=>e=.returned (lX w.heap.size)∧zWW w w'∧w'.cell? ⟨w.heap.size,0,none⟩=some kF:=by
 unfold kF lX;have h0:=(Blk.new w 183 #[.func (.func 133) #[] #[]]).cell 0;go_enter func132,ntmps132;go_wp2;go_ret;exact⟨rfl,zRR _,h0⟩
theorem xR(p:Nat)(a b t:Int)(w:World)(hp:w.cell? ⟨p,0,none⟩=some kF):Calls prog 155 #[.agg #[.int .i64 a,.int .i64 b],.int .i64 t,.pointer (some ⟨p,0,none⟩)] w fun e w'=>e=.returned (.int .i64 (dJ a t))∧zWW w w':=by
 have hpl:=World.block_lt_of_cell? w _ hp;unfold kF at hp;have hne:¬p=w.heap.size:=by have:p<w.heap.size:=hpl;omega
 go_enter func155,ntmps155;go_wp2_with fail;refine(KS a b _).mono ?_;rintro e w2 ⟨rfl,hb2⟩;have Hb2:=zh ((zRR _).trans (hb2.mono jz));clear hb2;go_wp2_with fail;refine(BF a t _).mono ?_;rintro e w' ⟨rfl,rfl⟩;go_wp2;go_ret;exact⟨rfl,Hb2.out⟩
theorem Ie{a b:Int}(h:a<b):dJ a b=-1:=by unfold dJ;rw[zI h]
theorem xS(a:Int):dJ a a=0:=by unfold dJ;rw[zH (by omega),zH (by omega)]
theorem xU{a b:Int}(h:b<a):dJ a b=1:=by unfold dJ;rw[zH (by omega),zI h]
theorem oU(A:Option Addr)(c B p:Nat)(l:List Bk)(t:Int)(w:World)(hR:Reads w B 2 A l.length (bkC l))(hB:B≤w.heap.size)(hp:w.cell? ⟨p,0,none⟩=some kF)(hup:Up l)(hl:l.length≤1000000000) :
  Calls prog 131 #[.slice A l.length c,.int .i64 t,lX p] w fun e w'=>e=.returned (.tuple #[.int .i64 (pos l t:Nat),.bool (iz l t)])∧zWW w w':=by
 have HR:=zh hR;have Hup:=zh hup.lt;have hpl:=World.block_lt_of_cell? w _ hp;unfold lX;clear hR hup;go_enter func131,ntmps131;go_wp2;go_loopw [9,10] (fun i j wr=>∃a b:Nat,a≤b∧b≤l.length∧i=.int .i64 a∧j=.int .i64 b∧(∀x (h:x<a),∃h:x<l.length,l[x].1<t)∧(∀h:b<l.length,t≤l[b].1)∧zWW w wr) (fun i j _=>(intOf j).toNat-(intOf i).toNat)
 case atStart=>exact⟨0,l.length,zS _,zG _,rfl,rfl,fun x h=>jo,fun h=>jo,zw _ _⟩
 obtain⟨a,b,hab,hbl,rfl,rfl,h1,h2,hb⟩:=hrel;by_cases hlt:a<b
 ·have hm:(a+b)/2<l.length:=jo;obtain⟨bb,o,rfl,hbb,hc1,hc2⟩:=eG HR.out rfl hm;have d1:=(hb.cell (p:=⟨bb,o+(a+b)/2*2,none⟩) (zT hbb hB)).trans hc1;have d2:=(hb.cell (p:=⟨bb,o+(a+b)/2*2+1,none⟩) (zT hbb hB)).trans hc2;have hp':=(hb.cell (p:=⟨p,0,none⟩) hpl).trans hp;have cc:=xR p l[(a+b)/2].1 l[(a+b)/2].2 t wr hp';have H1:=zh h1;have H2:=zh h2;have Hb:=zh hb;clear hc1 hc2 h1 h2 hb;by_cases hlm:l[(a+b)/2].1<t
  ·rw[Ie hlm]at cc
   have H1':Hid (∀x (h:x<(a+b)/2+1),∃h:x<l.length,l[x].1<t):=zh (fun x h=>⟨jo,by
    by_cases e:x=(a+b)/2
    ·subst e;exact hlm
    have:=Hup.out x ((a+b)/2) jo hm;omega⟩)
   clear hlm;generalize l[(a+b)/2].1=u at *;generalize l[(a+b)/2].2=v at *;go_wp2_with fail;refine cc.mono ?_;rintro e w2 ⟨rfl,hb2⟩;have Hb2:=zt Hb hb2;clear hb2 cc;go_wp2;go_roundw
   case rel=>exact⟨(a+b)/2+1,b,jo,hbl,ju,rfl,H1'.out,H2.out,Hb2.out⟩
   simp[intOf];omega
  have hcm:dJ l[(a+b)/2].1 t=0∨dJ l[(a+b)/2].1 t=1:=by
   rcases Int.lt_trichotomy l[(a+b)/2].1 t with h|h|h
   ·exact absurd h hlm
   ·rw[h];exact .inl (xS t)
   exact .inr (xU h)
  have H2':Hid (∀h:(a+b)/2<l.length,t≤l[(a+b)/2].1):=zh (fun _=>jo);clear hlm;generalize dJ l[(a+b)/2].1 t=z at *;generalize l[(a+b)/2].1=u at *;generalize l[(a+b)/2].2=v at *;have hz:¬z<0:=jo;clear hcm;go_wp2_with fail;refine cc.mono ?_;rintro e w2 ⟨rfl,hb2⟩;have Hb2:=zt Hb hb2;clear hb2 cc;go_wp2;go_roundw
  case rel=>exact⟨a,(a+b)/2,jo,jo,rfl,ju,H1.out,H2'.out,Hb2.out⟩
  simp[intOf];omega
 obtain rfl:a=b:=jo;have hpos:pos l t=a:=Js l t a hbl (fun x h=>(h1 x h).2) h2;have F:Hid (iz l t=(decide (a<l.length)&&decide ((l.getD a (0,0)).1=t))):=zh (by unfold iz;rw[hpos]);have Hpos:=zh hpos;clear hpos h1;by_cases hal:a<l.length
 ·have h2a:=h2 hal;obtain⟨bb,o,rfl,hbb,hc1,hc2⟩:=eG HR.out rfl hal;have d1:=(hb.cell (p:=⟨bb,o+a*2,none⟩) (zT hbb hB)).trans hc1;have d2:=(hb.cell (p:=⟨bb,o+a*2+1,none⟩) (zT hbb hB)).trans hc2;have hp':=(hb.cell (p:=⟨p,0,none⟩) hpl).trans hp;have cc:=xR p l[a].1 l[a].2 t wr hp';have Hb:=zh hb;have hgd:l.getD a (0,0)=l[a]:=by rw[List.getD_eq_getElem?_getD,zU hal];rfl
  rw[hgd,zO hal,Bool.true_and]at F;clear hc1 hc2 h2 hb hgd;by_cases he:l[a].1=t
  ·rw[he,xS]at cc;rw[zO he]at F;rw[he]at d1;clear he h2a;generalize l[a].2=v at *;go_wp2_with fail;refine cc.mono ?_;rintro e w2 ⟨rfl,hb2⟩;have Hb2:=zt Hb hb2;clear hb2 cc;go_wp2;go_ret2;exact⟨by rw[Hpos.out,F.out];rfl,Hb2.out⟩
  rw[xU (show t<l[a].1 by omega)]at cc;rw[zN he]at F;clear he h2a;generalize l[a].2=v at *;generalize l[a].1=u at *;go_wp2_with fail;refine cc.mono ?_;rintro e w2 ⟨rfl,hb2⟩;have Hb2:=zt Hb hb2;clear hb2 cc;go_wp2;go_ret2;exact⟨by rw[Hpos.out,F.out];rfl,Hb2.out⟩
 rw[zN hal,Bool.false_and]at F;have Hb:=zh hb;clear h2 hb;go_wp2;go_ret2;exact⟨by rw[Hpos.out,F.out];rfl,Hb.out⟩
end Hi

namespace Hi
open Go.RowKit
section
variable {P:Program}
theorem l6(w:World)(dT sT ty elem:TypeId)(sz m:Nat)(g o dLen dCap:Nat)(a:Addr)(sLen sCap:Nat)(cur:Array Value)(t:TypeId)(cs:List Value)
  (hu:P.underlying dT=some (.slice elem)) (hs:(P.info? elem).map (·.size)=some sz) (hg:w.heap[g]?=some (.cells cur t (0,0))) (hm:Nat.min sLen dLen=m) (hn:cs.length=m*sz)
  (hsrc:∀j v,cs[j]?=some v→w.cell? (a.add j)=some v) (hfit:o+cs.length≤cur.size) (h1:∀v∈cs,v.oneCell'=true) :
  (Builtin.copy_ #[dT,sT] ty #[.slice (some ⟨g,o,none⟩) dLen dCap,.slice (some a) sLen sCap]).run P w =
   .ok (Go.goInt m) (w.setRow g (cur.toList.take o++cs++cur.toList.drop (o+cs.length)).toArray):=by
 have hl:=run_loadCells_list (P:=P) w a cs hsrc;have hst:=run_storeCells_at P g o t cs 0 cur w hg (by simpa using hfit) h1
 cases hq:P.info? elem with
 | none=>simp[hq]at hs
 | some i=>
  have hi:i.size=sz:=by simpa[hq]using hs
  rw[hn]at hl;simp[Builtin.copy_,run_underlying hu,Builtin.lenOf,Builtin.firstCells,sizeOf,typeInfo,hq,hi,hm,hl,hst]
theorem tY{ops:Array Oper}{o:Oper}{a:Act}{w:World}{K:Act→World→Prop}{Q:Exit→Act→World→Prop}{E:Prop}
  (hg:o.guard=none) (d x:Operand) (dT sT:TypeId) (hop:o.op=Op.call { callee:=Callee.builtin Builtin.copy,args:=#[d,x],argTypes:=#[dT,sT] })
  (v u:Value) (hd:a.eval d=v) (hx:a.eval x=u) {v':Value} {w':World} (hr:(Builtin.copy_ #[dT,sT] o.type #[v,u]).run P w=.ok v' w') (hK:K (a.put o.dst v') w') :
  if Region.wanted o (yielded ops a.tmps)=true then Oper.wp P o a w K Q else E:=by
 have hw:Region.wanted o (yielded ops a.tmps)=true:=by simp[Region.wanted,hg]
 rw[zI hw];exact Lib.wp_copy_run w d x dT sT hop v u hd hx hr hK
end
theorem Ig(C D X:List Value)(a:Nat)(hX:X.length=2)(hl:a+2+D.length≤C.length) :
  ((C.take (a+2)++D++C.drop (a+2+D.length)).take a++X++(C.take (a+2)++D++C.drop (a+2+D.length)).drop (a+X.length)).take (a+2+D.length)=C.take a++X++D:=by
 have h1:(C.take (a+2)).length=a+2:=jw
 have e1:(C.take (a+2)++D++C.drop (a+2+D.length)).take a=C.take a:=by
  rw[List.append_assoc,List.take_append_of_le_length jo,List.take_take,Nat.min_eq_left jo]
 have e2:(C.take (a+2)++D++C.drop (a+2+D.length)).drop (a+X.length)=D++C.drop (a+2+D.length):=by
  rw[hX,List.append_assoc,List.drop_append_of_le_length jo,List.drop_eq_nil_of_le jo,List.nil_append]
 have h2:(C.take a++X).length=a+2:=by rw[zJ,zK,hX];omega
 rw[e1,e2,←List.append_assoc,List.take_append_of_le_length (by rw[zJ,h2];omega),zR (by rw[zJ,h2];omega)]
theorem fw:(prog.info? 91).map (fun i=>(i.zero,i.size,i.bytes))=some (some (.agg #[.int .i64 0,.int .i64 0]),2,16):=by kernel_rfl
theorem mY:(prog.info? 91).map (·.size)=some 2:=by kernel_rfl
def OwnB(w:World)(base:Nat)(v:Value)(l:List Bk):Prop:=w.ownsRow base 91 2 v l.length (bkC l)
def lK(w:World)(base:Nat)(v:Value)(l:List Bk)(e:Ending)(w':World):Prop:=
 ∃v',e=.returned v'∧OwnB w' base v' l∧w.grownBy w' v.ownBlock
theorem add_lit(b o j:Nat):(⟨b,o,none⟩:Addr).add j=⟨b,o+j,none⟩:=by unfold Addr.add;split<;>simp_all
theorem Fv(base g cap i vb:Nat)(l:List Bk)(k x:Int)(w:World)(hown:OwnB w base (.slice (some ⟨g,0,none⟩) l.length cap) l)(hi:i<l.length)(hroom:l.length+1≤cap)(hl:l.length≤1000000)
  (hv:Blk w vb 91 #[.int .i64 k,.int .i64 x]) (hne:vb≠g) :
  Calls prog 134 #[.slice (some ⟨g,0,none⟩) l.length cap,.int .i64 (i:Int),.slice (some ⟨vb,0,none⟩) 1 1] w
   (lK w base (.slice (some ⟨g,0,none⟩) l.length cap) (l.take i++(k,x)::l.drop i)):=by
 obtain⟨cur,hcm,hg,hsz,htk,hbg⟩:∃cur:Array Value,cap≤maxLen∧w.heap[g]?=some (.cells cur 91 (0,0))∧cur.size=cap*2∧cur.toList.take (l.length*2)=bkC l∧base≤g:=by
  rcases hown.2 with⟨h,_⟩|⟨g',cap',cur,h,hb,hg,hnc,hcm,hcs,ht⟩
  ·cases h
  injection h with h1 h2 h3;injection h1 with h1;injection h1 with h1;subst h1 h3;exact⟨cur,hcm,hg,hcs,ht,hb⟩
 unfold maxLen at hcm;have hshb:w.shape? g=some (91,cap*2):=by unfold World.shape?;rw[hg];simp[hsz]
 have hsha:w.shape? vb=some (91,2):=by unfold World.shape?;unfold Blk at hv;rw[hv];rfl
 have hov:∀lb cb,(callFunc 156 #[.slice (some ⟨vb,0,none⟩) 1 1,.slice (some ⟨g,(i+1)*2,none⟩) lb cb]).run prog w=.ok (.value (.bool false)) w:=fun lb cb=>by
  rw[run_callFunc_extern func156 jk jk jk (e:=Extern.SlicesOverlaps.overlaps #[40,40] #[4]) jk,
   Lib.run_overlaps_apart w 40 4 91 underlying40 2 (fun _=>jk) ⟨vb,0,none⟩ ⟨g,(i+1)*2,none⟩ 1 1 lb cb hne _ _ _ _ hsha hshb jo (hv.frozen 0) (hv.frozen 2)]
  rfl
 have hi1:((i:Int)==(l.length:Int))=false:=zM.2 jo;have hr1:(l.length:Int)+1≤(cap:Int):=jo;have hdl:(bkC (l.drop i)).length=(l.length-i)*2:=by rw[dL,zP]
 have hcell:∀j u,(bkC l)[j]?=some u→w.cell? ⟨g,j,none⟩=some u:=fun j u hj=>by
  have:=hown.cells (g:=g) rfl j u hj;rw[add_lit,zf]at this;exact this
 have hcp1:∀ty dc sc dl sl,dl=l.length-i→sl=l.length+1-i→(Builtin.copy_ #[40,40] ty #[.slice (some ⟨g,(i+1)*2,none⟩) dl dc,.slice (some ⟨g,i*2,none⟩) sl sc]).run prog w.drew =
   .ok (Go.goInt (l.length-i:Nat)) (w.drew.setRow g (cur.toList.take (i*2+2)++bkC (l.drop i)++cur.toList.drop (i*2+2+(bkC (l.drop i)).length)).toArray):=fun ty dc sc dl sl hdl' hsl'=>by
  have e:(i+1)*2=i*2+2:=jo;rw[e]
  exact l6 w.drew _ _ ty 91 2 (l.length-i) g (i*2+2) _ dc ⟨g,i*2,none⟩ _ sc cur 91 (bkC (l.drop i)) underlying40 mY hg (by simp only[Nat.min_def];split<;>omega) hdl
   (fun j u hj=>by
    rw[add_lit];rw[lH,List.getElem?_drop]at hj
    exact hcell _ _ hj) (by rw[hdl];omega) (cg _)
 obtain⟨R1,hR1⟩:∃R1,R1=cur.toList.take (i*2+2)++bkC (l.drop i)++cur.toList.drop (i*2+2+(bkC (l.drop i)).length):=⟨_,rfl⟩;have hfit1:i*2+2+(bkC (l.drop i)).length≤cur.toList.length:=by rw[hdl,Array.length_toList (xs:=cur),hsz];omega
 have hins:=Ig cur.toList (bkC (l.drop i)) [Value.int .i64 k,Value.int .i64 x] (i*2) rfl hfit1;rw[←hR1]at hcp1 hins
 have hR1l:R1.length=cap*2:=by
  rw[hR1,zJ,zJ,zK,zP,hdl,Array.length_toList];omega
 have hW:(w.drew.setRow g R1.toArray).heap=(w.setRow g R1.toArray).heap:=rfl
 have hcp2:∀ty dc sl,sl=l.length+1-i→(Builtin.copy_ #[40,40] ty #[.slice (some ⟨g,i*2,none⟩) sl dc,.slice (some ⟨vb,0,none⟩) 1 1]).run prog (w.drew.setRow g R1.toArray) =
   .ok (Go.goInt (1:Nat)) ((w.drew.setRow g R1.toArray).setRow g (R1.take (i*2) ++ [Value.int .i64 k,Value.int .i64 x]++R1.drop (i*2+2)).toArray):=fun ty dc sl hsl'=>by
  have hWg:(w.drew.setRow g R1.toArray).heap[g]?=some (.cells R1.toArray 91 (0,0)):=by rw[hW];exact zx w g _ _ _ _ hg
  have hWv:(w.drew.setRow g R1.toArray).heap[vb]?=some (.cells #[.int .i64 k,.int .i64 x] 91 (0,0)):=by rw[hW,vJ w g vb _ hne];exact hv
  have:=l6 (w.drew.setRow g R1.toArray) 40 40 ty 91 2 1 g (i*2) sl dc ⟨vb,0,none⟩ 1 1 R1.toArray 91 [.int .i64 k,.int .i64 x] underlying40 mY hWg (by simp only[Nat.min_def];split<;>omega) rfl
   (fun j u hj=>by
    rw[add_lit,zf,cell_of_row (w.drew.setRow g R1.toArray) vb j _ _ _ hWv]
    simpa using hj) jm (by intro u hu;simp at hu;rcases hu with rfl|rfl<;>rfl)
  simpa using this
 have hfin:OwnB ((w.drew.setRow g R1.toArray).setRow g (R1.take (i*2) ++ [Value.int .i64 k,Value.int .i64 x]++R1.drop (i*2+2)).toArray) base (.slice (some ⟨g,0,none⟩) (l.length+1) cap) (l.take i++(k,x)::l.drop i):=by
  have hlen:(l.take i++(k,x)::l.drop i).length=l.length+1:=jm;unfold OwnB;rw[hlen];refine⟨by rw[dL,hlen],.inr ⟨g,cap,_,rfl,hbg,zx _ g _ _ _ _ (zx w.drew g _ _ _ _ hg),hroom,jx,?_,?_⟩⟩
  ·simp;omega
  rw[hdl]at hins;have e3:i*2+2+(l.length-i)*2=(l.length+1)*2:=jo;rw[e3]at hins;rw[List.toList_toArray];refine hins.trans ?_;rw[mX,dx,←htk,List.take_take,Nat.min_eq_left jo,List.append_assoc];rfl
 have hgr:w.grownBy ((w.drew.setRow g R1.toArray).setRow g (R1.take (i*2) ++ [Value.int .i64 k,Value.int .i64 x]++R1.drop (i*2+2)).toArray) (some g):=
  ⟨rfl,rfl,rfl,by simp[World.setRow],fun j _ hj=>by
   have hj':j≠g:=fun e=>hj (by rw[e])
   rw[vJ _ g j _ hj',vJ w.drew g j _ hj'];rfl⟩
 obtain⟨R2,hR2⟩:∃R2,R2=R1.take (i*2) ++ [Value.int .i64 k,Value.int .i64 x]++R1.drop (i*2+2):=⟨_,rfl⟩;rw[←hR2]at hcp2 hfin hgr;have Fin:=zh hfin;have Gr:=zh hgr;have hw1:IntKind.i64.wrap ((i:Int)+1)=(i:Int)+1:=IntWalk.i64_in _ jo;have hb1:(0:Int)≤(i:Int)+1:=jo;have htn:((i:Int)+1).toNat=i+1:=jo;have hb2:¬(cap=i+1):=jo;have hb3:(i:Int)≤(l.length:Int)+1:=jo;have hb5:i≤l.length:=jo;have hb4:¬(cap=i):=jo;clear hR2 hins hfin hgr hcell hdl hR1 hR1l hshb hsha;go_enter func134,ntmps134;go_wp2_with (simp only[hov])
 go_region_law (refine tY rfl _ _ 40 40 rfl _ _ (by simp[Act.eval,Act.put]) (by simp[Act.eval,Act.put]) (hcp1 _ _ _ _ _ jo jo) ?_)
 go_wp2_with (at_builtin;refine Lib.wpList_copy_run _ rfl _ _ 40 40 rfl _ _ rfl rfl (hcp2 _ _ _ jo) ?_);go_ret;exact⟨_,rfl,Fin.out,Gr.out⟩
end Hi

namespace Hi
open Go.RowKit
theorem CV(A X D Z:List Value)(a:Nat)(ha:A.length=a)(hX:X.length=2) :
  (((A++Z).take a++X++(A++Z).drop (a+2)).take (a+2)++D++((A++Z).take a++X++(A++Z).drop (a+2)).drop (a+2+D.length)).take (a+2+D.length)=A++X++D:=by
 subst ha;have e1:(A++Z).take A.length=A:=by rw[List.take_append_of_le_length (zG _),zR (zG _)]
 have h2:(A++X).length=A.length+2:=by rw[zJ,hX]
 rw[e1]
 have e3:(A++X++(A++Z).drop (A.length+2)).take (A.length+2)=A++X:=by
  rw[List.take_append_of_le_length jo,zR jo]
 rw[e3,List.take_append_of_le_length (by rw[zJ,h2];omega),zR (by rw[zJ,h2];omega)]
theorem sP(w:World)(g:Nat)(c:Array Value):(w.setRow g c).heap.size=w.heap.size:=by simp[World.setRow]
theorem EC(w:World)(o:Obj)(N:Nat)(hN:N=w.heap.size):(w.alloc o).heap[N]?=some o:=by subst hN;show (w.heap.push o)[w.heap.size]?=some o;simp
theorem ED(w:World)(o:Obj)(k:Nat)(hk:k<w.heap.size):(w.alloc o).heap[k]?=w.heap[k]?:=by show (w.heap.push o)[k]?=_;simp[Array.getElem?_push,Nat.ne_of_lt hk]
theorem Fw(base g cap i vb:Nat)(l:List Bk)(k x:Int)(w:World)(hown:OwnB w base (.slice (some ⟨g,0,none⟩) l.length cap) l)(hi:i<l.length)(hroom:cap<l.length+1)(hl:l.length≤1000000)
  (hv:Blk w vb 91 #[.int .i64 k,.int .i64 x]) (hbase:base≤w.heap.size) :
  Calls prog 134 #[.slice (some ⟨g,0,none⟩) l.length cap,.int .i64 (i:Int),.slice (some ⟨vb,0,none⟩) 1 1] w
   (lK w base (.slice (some ⟨g,0,none⟩) l.length cap) (l.take i++(k,x)::l.drop i)):=by
 obtain⟨cur,hcm,hnc,hg,hsz,htk,hbg⟩:∃cur:Array Value,cap≤maxLen∧l.length≤cap∧w.heap[g]?=some (.cells cur 91 (0,0))∧cur.size=cap*2∧cur.toList.take (l.length*2)=bkC l∧base≤g:=by
  rcases hown.2 with⟨h,_⟩|⟨g',cap',cur,h,hb,hg,hnc,hcm,hcs,ht⟩
  ·cases h
  injection h with h1 h2 h3;injection h1 with h1;injection h1 with h1;subst h1 h3;exact⟨cur,hcm,hnc,hg,hcs,ht,hb⟩
 obtain rfl:cap=l.length:=jo;have hgl:g<w.heap.size:=(Array.getElem?_eq_some_iff.1 hg).1;have hvl:vb<w.heap.size:=hv.lt;have hi1:((i:Int)==(l.length:Int))=false:=zM.2 jo;have hr1:((l.length:Nat):Int)<(l.length:Int)+1:=jo;have hdl:(bkC (l.drop i)).length=(l.length-i)*2:=by rw[dL,zP]
 have hal:(bkC (l.take i)).length=i*2:=by rw[dL,zK];omega
 have hcell:∀j u,(bkC l)[j]?=some u→w.cell? ⟨g,j,none⟩=some u:=fun j u hj=>by
  have:=hown.cells (g:=g) rfl j u hj;rw[add_lit,zf]at this;exact this
 obtain⟨inf,hi0,hz0,hzs,hzb⟩:=info_parts fw
 have hold:(Builtin.firstCells inf.size i (.slice (some ⟨g,0,none⟩) i l.length)).run prog w.drew=.ok (bkC (l.take i)).toArray w.drew:=by
  rw[hzs]
  exact run_firstCells_some w.drew 2 i ⟨g,0,none⟩ i l.length (bkC (l.take i)) hal (fun j v hj=>by
   rw[add_lit,zf];rw[dx,List.getElem?_take]at hj
   split at hj
   ·exact hcell j v hj
   cases hj)
 obtain⟨G,hG⟩:∃G,G=grownCap w (l.length+1) l.length 91:=⟨_,rfl⟩;have hGn:l.length+1≤G:=by rw[hG];exact grownCap_ge w _ _ _
 have hG63:G≤maxLen:=by rw[hG];exact grownCap_le_maxLen w _ _ _ jx
 have hG63':G≤9223372036854775807:=by unfold maxLen at hG63;omega
 obtain⟨ZZ,hZZ⟩:∃ZZ,ZZ=Builtin.zeroCells (Value.agg #[.int .i64 0,.int .i64 0]).cells (l.length+1-i)++Builtin.zeroCells (Value.agg #[.int .i64 0,.int .i64 0]).cells (G-(l.length+1)):=⟨_,rfl⟩
 have hZl:ZZ.toList.length=(G-i)*2:=by
  rw[hZZ,Array.length_toList];simp[Builtin.zeroCells,Value.cells];omega
 have hrz:∀ty,(Builtin.append_ #[40,3] ty #[.slice (some ⟨g,0,none⟩) i l.length,.int .i64 ((l.length:Int)+1-(i:Int))]).run prog w =
   .ok (.slice (some ⟨w.heap.size,0,none⟩) (l.length+1) G) (w.drew.alloc (.cells (bkC (l.take i)++ZZ.toList).toArray 91)):=fun ty=>by
  have h:=Lib.run_append_grow_zeros w 40 3 ty 91 inf _ .i64 .i64 underlying40 underlying3 hi0 hz0 (some ⟨g,0,none⟩) i l.length (bkC (l.take i)) hold (l.length+1-i) jo jo jo jo (by rw[hzb];omega) (by rw[hzb];exact growslice_fits jo jo);have e:i+(l.length+1-i)=l.length+1:=jo;have e2:(l.length:Int)+1-(i:Int)=((l.length+1-i:Nat):Int):=jo;rw[e,←hG]at h;rw[e2,h,hZZ];congr 3;simp
 obtain⟨ROW,hROW⟩:∃ROW,ROW=bkC (l.take i)++ZZ.toList:=⟨_,rfl⟩;rw[←hROW]at hrz;have hRl:ROW.length=G*2:=by rw[hROW,zJ,hal,hZl];omega
 obtain⟨N,hN⟩:∃N,N=w.heap.size:=⟨_,rfl⟩;rw[←hN]at hrz;have hgN:g≠N:=jo;have hvN:vb≠N:=jo;obtain⟨W1,hW1⟩:∃W1,W1=(w.alloc (.cells ROW.toArray 91)).drew:=⟨_,rfl⟩;have h1N:W1.heap[N]?=some (.cells ROW.toArray 91 (0,0)):=by rw[hW1];exact EC w _ N hN
 have h1o:∀j,j<w.heap.size→W1.heap[j]?=w.heap[j]?:=fun j hj=>by rw[hW1];exact ED w _ j hj
 obtain⟨R1,hR1⟩:∃R1,R1=ROW.take (i*2) ++ [Value.int .i64 k,Value.int .i64 x]++ROW.drop (i*2+2):=⟨_,rfl⟩
 have hR1l:R1.length=G*2:=by
  rw[hR1,zJ,zJ,zK,zP,hRl];simp;omega
 have hcpA:∀ty dc sl,sl=l.length+1-i→(Builtin.copy_ #[40,40] ty #[.slice (some ⟨N,i*2,none⟩) sl dc,.slice (some ⟨vb,0,none⟩) 1 1]).run prog W1 =
   .ok (Go.goInt (1:Nat)) (W1.setRow N R1.toArray):=fun ty dc sl hsl'=>by
  have h1v:W1.heap[vb]?=some (.cells #[.int .i64 k,.int .i64 x] 91 (0,0)):=(h1o vb hvl).trans hv
  have:=l6 W1 40 40 ty 91 2 1 N (i*2) sl dc ⟨vb,0,none⟩ 1 1 ROW.toArray 91 [.int .i64 k,.int .i64 x] underlying40 mY h1N (by simp only[Nat.min_def];split<;>omega) rfl
   (fun j u hj=>by
    rw[add_lit,zf,cell_of_row W1 vb j _ _ _ h1v]
    simpa using hj) jm (by intro u hu;simp at hu;rcases hu with rfl|rfl<;>rfl)
  rw[hR1]
  simpa using this
 have h2N:(W1.setRow N R1.toArray).drew.heap[N]?=some (.cells R1.toArray 91 (0,0)):=zx W1 N _ _ _ _ h1N;have h2o:∀j,j<w.heap.size→(W1.setRow N R1.toArray).drew.heap[j]?=w.heap[j]?:=fun j hj=>(vJ W1 N j _ jo).trans (h1o j hj)
 obtain⟨R2,hR2⟩:∃R2,R2=R1.take (i*2+2)++bkC (l.drop i)++R1.drop (i*2+2+(bkC (l.drop i)).length):=⟨_,rfl⟩
 have hR2l:R2.length=G*2:=by
  rw[hR2,zJ,zJ,zK,zP,hR1l,hdl];omega
 have hcpB:∀ty dc sc dl sl,dl=l.length-i→sl=l.length-i→(Builtin.copy_ #[40,40] ty #[.slice (some ⟨N,(i+1)*2,none⟩) dl dc,.slice (some ⟨g,i*2,none⟩) sl sc]).run prog (W1.setRow N R1.toArray).drew =
   .ok (Go.goInt (l.length-i:Nat)) ((W1.setRow N R1.toArray).drew.setRow N R2.toArray):=fun ty dc sc dl sl hdl' hsl'=>by
  have e:(i+1)*2=i*2+2:=jo;rw[e]
  have:=l6 (W1.setRow N R1.toArray).drew 40 40 ty 91 2 (l.length-i) N (i*2+2) dl dc ⟨g,i*2,none⟩ sl sc R1.toArray 91 (bkC (l.drop i)) underlying40 mY h2N (by simp only[Nat.min_def];split<;>omega) hdl
   (fun j u hj=>by
    rw[add_lit];rw[lH,List.getElem?_drop]at hj
    exact(vN (h2o g hgl)).trans (hcell _ _ hj)) (by rw[hdl,List.size_toArray];omega) (cg _)
  rw[hR2];exact this
 have hfin:OwnB ((W1.setRow N R1.toArray).drew.setRow N R2.toArray) base (.slice (some ⟨N,0,none⟩) (l.length+1) G) (l.take i++(k,x)::l.drop i):=by
  have hlen:(l.take i++(k,x)::l.drop i).length=l.length+1:=jm;unfold OwnB;rw[hlen];refine⟨by rw[dL,hlen],.inr ⟨N,G,_,rfl,jo,zx _ N _ _ _ _ h2N,hGn,hG63,?_,?_⟩⟩
  ·rw[List.size_toArray,hR2l]
  have hins:=CV (bkC (l.take i)) [Value.int .i64 k,Value.int .i64 x] (bkC (l.drop i)) ZZ.toList (i*2) hal rfl;rw[←hROW,←hR1,←hR2,hdl]at hins;have e3:i*2+2+(l.length-i)*2=(l.length+1)*2:=jo;rw[e3]at hins;rw[List.toList_toArray];refine hins.trans ?_;rw[mX,List.append_assoc];rfl
 have hgr:w.grownBy ((W1.setRow N R1.toArray).drew.setRow N R2.toArray) (some g):=
  ⟨by rw[hW1];rfl,by rw[hW1];rfl,by rw[hW1];rfl,by rw[sP];show _≤(W1.setRow N R1.toArray).heap.size;rw[sP,hW1];show _≤(w.heap.push _).size;rw[Array.size_push];omega,fun j hjl hj=>by
   rw[vJ _ N j _ jo];exact h2o j hjl⟩
 have Fin:=zh hfin;have Gr:=zh hgr;have hw1:IntKind.i64.wrap ((i:Int)+1)=(i:Int)+1:=IntWalk.i64_in _ jo;have hb1:(0:Int)≤(i:Int)+1:=jo;have htn:((i:Int)+1).toNat=i+1:=jo;have hb2:¬(G=i+1):=jo;have hb3:(i:Int)≤(l.length:Int)+1:=jo;have hb4:¬(G=i):=jo;have hb5:i≤l.length:=jo;have hb6:¬(l.length=i):=jo;subst hW1;clear hR2 hfin hgr hcell hdl hal hR1 hR1l hR2l hRl hROW hZl hZZ hG hN hold h1N h1o h2N h2o;go_enter func134,ntmps134
 go_wp2_with (first
  | (at_builtin;refine Lib.wpList_append_run _ rfl _ _ _ _ rfl _ _ rfl rfl _ _ (hrz _) ?_)
  | (at_builtin;refine Lib.wpList_copy_run _ rfl _ _ 40 40 rfl _ _ rfl rfl (hcpA _ _ _ jo) ?_))
 go_region_law (refine tY rfl _ _ 40 40 rfl _ _ (by simp[Act.eval,Act.put]) (by simp[Act.eval,Act.put]) (hcpB _ _ _ _ _ jo jo) ?_)
 go_wp2;go_ret;exact⟨_,rfl,Fin.out,Gr.out⟩
end Hi
end Go.Proofs.YtmomjpolkkbhnaaGreat
