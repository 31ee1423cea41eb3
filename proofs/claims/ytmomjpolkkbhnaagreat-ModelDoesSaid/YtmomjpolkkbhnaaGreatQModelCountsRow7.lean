/- Events: which may be, how great, their terms: plain. (No program in sight.) -/
import Derived.Test.YtmomjpolkkbhnaaGreatQModelCountsRow3
set_option linter.unusedSectionVars false
set_option linter.unusedSimpArgs false
set_option linter.unusedVariables false
set_option maxHeartbeats 100000000
namespace Go.Proofs.YtmomjpolkkbhnaaGreat
namespace Ev
open Go.RowKit Ut Tk
abbrev Fl:=ByteArray × ByteArray
abbrev Evn:=Int × List Fl
theorem uD:∀x:List UInt8,Op.bytesLess x x=false
 | []=>by simp[Op.bytesLess]
 | a::x=>by simp[Op.bytesLess,uD x]
theorem ut:∀x y z:List UInt8,Op.bytesLess x y=true→Op.bytesLess y z=true→Op.bytesLess x z=true
 | [],[],_,h,_=>by simp[Op.bytesLess]at h
 | [],b::y,[],_,h=>by simp[Op.bytesLess]at h
 | [],b::y,c::z,_,_=>by simp[Op.bytesLess]
 | a::x,[],_,h,_=>by simp[Op.bytesLess]at h
 | a::x,b::y,[],_,h=>by simp[Op.bytesLess]at h
 | a::x,b::y,c::z,h1,h2=>by
  simp only[Op.bytesLess,Bool.or_eq_true,zo,zd,beq_iff_eq]at h1 h2 ⊢;rcases h1 with h1|⟨rfl,h1⟩
  ·rcases h2 with h2|⟨rfl,h2⟩
   ·exact .inl (UInt8.lt_trans h1 h2)
   exact .inl h1
  rcases h2 with h2|⟨rfl,h2⟩
  ·exact .inl h2
  exact .inr ⟨rfl,ut x y z h1 h2⟩
theorem uu:∀x y:List UInt8,Op.bytesLess x y=true∨x=y∨Op.bytesLess y x=true
 | [],[]=>.inr (.inl rfl)
 | [],b::y=>.inl (by simp[Op.bytesLess])
 | a::x,[]=>.inr (.inr (by simp[Op.bytesLess]))
 | a::x,b::y=>by
  simp only[Op.bytesLess,Bool.or_eq_true,zo,zd,beq_iff_eq,zQ];rcases UInt8.lt_or_lt_of_ne (a:=a) (b:=b) |> fun f=>Classical.em (a=b) |>.elim (fun e=>Or.inr e) (fun e=>Or.inl (f e))with h|rfl
  ·rcases h with h|h
   ·exact .inl (.inl h)
   exact .inr (.inr (.inl h))
  rcases uu x y with h|rfl|h
  ·exact .inl (.inr ⟨rfl,h⟩)
  ·exact .inr (.inl ⟨rfl,rfl⟩)
  exact .inr (.inr (.inr ⟨rfl,h⟩))
def ltB(a b:ByteArray):Bool:=Op.bytesLess a.toList b.toList
theorem uE{a b c:ByteArray}(h1:ltB a b=true)(h2:ltB b c=true):ltB a c=true:=ut _ _ _ h1 h2
theorem sj(a:ByteArray):ltB a a=false:=uD _
theorem toList_inj{a b:ByteArray}(h:a.toList=b.toList):a=b:=by
 have h2:a.data.toList=b.data.toList:=by rw[←ByteArray.toList_eq,←ByteArray.toList_eq];exact h
 have h3:a.data=b.data:=Array.toList_inj.1 h2
 cases a;cases b;simp at h3;rw[h3]
theorem uF{a b:ByteArray}(h:ltB a b=false):a=b∨ltB b a=true:=by
 rcases uu a.toList b.toList with g|g|g
 ·unfold ltB at h;rw[h]at g;cases g
 ·exact .inl (toList_inj g)
 exact .inr g
def eQ:List Fl→Int
 | []=>0
 | f::fs=>if isN f.1.data.toList=false then 100 else if 4096<f.2.size then 2 else eQ fs
def aM(fs:List Fl):Int:=if 16<fs.length then 3 else eQ fs
def szF:List Fl→Nat
 | []=>0
 | f::fs=>(f.1.size+f.2.size)+szF fs
def szE(fs:List Fl):Nat:=16+szF fs
theorem Ej(fs:List Fl)(f:Fl):szF (fs ++ [f])=szF fs+(f.1.size+f.2.size):=by
 induction fs with
 | nil=>simp[szF]
 | cons g fs ih=>simp only[List.cons_append,szF,ih];omega
theorem Gv{s:ByteArray}(h:isN s.data.toList=true):s.size≤32:=by
 unfold isN at h;simp only[zo,zd]at h;rw[aB]at h;exact h.1.2
theorem Gw{fs:List Fl}(h:eQ fs=0):∀f∈fs,isN f.1.data.toList=true∧f.1.size≤32∧f.2.size≤4096:=by
 induction fs with
 | nil=>intro f hf;cases hf
 | cons g fs ih=>
  unfold eQ at h;by_cases c1:isN g.1.data.toList=false
  ·rw[zI c1]at h;cases h
  rw[zH c1]at h;by_cases c2:4096<g.2.size
  ·rw[zI c2]at h;cases h
  rw[zH c2]at h;have hn:isN g.1.data.toList=true:=by simpa using c1
  intro f hf;rcases List.mem_cons.1 hf with rfl|hf
  ·exact⟨hn,Gv hn,jo⟩
  exact ih h f hf
theorem gP{fs:List Fl}(h:aM fs=0):fs.length≤16∧∀f∈fs,isN f.1.data.toList=true∧f.1.size≤32∧f.2.size≤4096:=by
 unfold aM at h;by_cases c1:16<fs.length
 ·rw[zI c1]at h;cases h
 rw[zH c1]at h;exact⟨jo,Gw h⟩
theorem JM{fs:List Fl}(h:∀f∈fs,f.1.size≤32∧f.2.size≤4096):szF fs≤fs.length*4128:=by
 induction fs with
 | nil=>exact zG _
 | cons g fs ih=>
  have h1:=h g (List.mem_cons_self ..);have h2:=ih (fun f hf=>h f (List.mem_cons_of_mem _ hf));simp only[szF,zV];omega
theorem lL{fs:List Fl}(h:aM fs=0):szE fs≤70000:=by
 have h1:=gP h;have h2:=JM (fun f hf=>(h1.2 f hf).2);unfold szE;omega
theorem uw(fs:List Fl):∀k,szF (fs.take k)≤szF fs:=by
 induction fs with
 | nil=>intro k;simp[szF]
 | cons g fs ih=>
  intro k
  cases k with
  | zero=>simp[szF]
  | succ k=>have:=ih k;simp only[zX,szF];omega
def gD:List Evn→Int
 | []=>0
 | e::l=>if aM e.2=0 then gD l else aM e.2
def szL:List Evn→Nat
 | []=>0
 | e::l=>szE e.2+szL l
theorem Ek(l:List Evn)(e:Evn):szL (l ++ [e])=szL l+szE e.2:=by
 induction l with
 | nil=>simp[szL]
 | cons g l ih=>simp only[List.cons_append,szL,ih];omega
theorem xm{l:List Evn}(h:∀e∈l,aM e.2=0):szL l≤l.length*70000:=by
 induction l with
 | nil=>exact zG _
 | cons g l ih=>
  have h1:=lL (h g (List.mem_cons_self ..));have h2:=ih (fun f hf=>h f (List.mem_cons_of_mem _ hf));simp only[szL,zV];omega
theorem Gy{l:List Evn}(h:∀e∈l,aM e.2=0):gD l=0:=by
 induction l with
 | nil=>rfl
 | cons g l ih=>
  unfold gD;rw[zI (h g (List.mem_cons_self ..))];exact ih (fun f hf=>h f (List.mem_cons_of_mem _ hf))
theorem Em{l:List Evn}(h:gD l=0):∀e∈l,aM e.2=0:=by
 induction l with
 | nil=>intro e he;cases he
 | cons g l ih=>
  unfold gD at h;by_cases c:aM g.2=0
  ·rw[zI c]at h;intro e he;rcases List.mem_cons.1 he with rfl|he
   ·exact c
   exact ih h e he
  rw[zH c]at h;exact absurd h c
theorem Gz{l:List Evn}:∀ {k:Nat} (hk:k<l.length),(∀e∈l.take k,aM e.2=0)→aM l[k].2≠0→gD l=aM l[k].2:=by
 induction l with
 | nil=>intro k hk;exact absurd hk jz
 | cons g l ih=>
  intro k hk h hne;unfold gD
  cases k with
  | zero=>
   have hne2:aM g.2≠0:=hne;rw[zH hne2];rfl
  | succ k=>
   have h1:=h g jz;rw[zI h1];exact ih (by simpa using hk) (fun e he=>h e (by simp[he])) hne
def bI(seq:Int)(l:List Evn):Int:=
 if l=[]then 1 else if 64<l.length then 3 else if gD l=0 then(if 65536<szL l then 2 else if seq<1∨1099511627776-(l.length:Int)+1<seq then 5 else 0)else gD l
theorem mR{seq:Int}{l:List Evn}(h:bI seq l=0):l≠[]∧l.length≤64∧(∀e∈l,aM e.2=0)∧szL l≤65536∧1≤seq∧seq≤1099511627776-(l.length:Int)+1:=by
 unfold bI at h;by_cases c1:l=[]
 ·rw[zI c1]at h;cases h
 rw[zH c1]at h;by_cases c2:64<l.length
 ·rw[zI c2]at h;cases h
 rw[zH c2]at h;by_cases c3:gD l=0
 ·rw[zI c3]at h;by_cases c4:65536<szL l
  ·rw[zI c4]at h;cases h
  rw[zH c4]at h;by_cases c5:seq<1∨1099511627776-(l.length:Int)+1<seq
  ·rw[zI c5]at h;cases h
  exact⟨c1,jo,Em c3,jo,jo,jo⟩
 rw[zH c3]at h;exact absurd h c3
abbrev T1:=ByteArray × Nat
abbrev Tm:=ByteArray × List Nat
def gF:List Tm→ByteArray→Nat→List Tm
 | [],s,p=>[(s,[p])]
 | x::l,s,p=>if ltB x.1 s=true then x::gF l s p else if x.1=s then(s,x.2 ++ [p])::l else(s,[p])::x::l
structure IsTm (L:List T1) (l:List Tm):Prop where
 up:l.Pairwise (fun x y=>ltB x.1 y.1=true)
 mem:∀x:Tm,x∈l↔x.2≠[]∧x.2=(L.filter (fun y=>decide (y.1=x.1))).map (·.2)
theorem wX:∀(l:List Tm) (s:ByteArray) (p:Nat),l.Pairwise (fun x y=>ltB x.1 y.1=true)→(gF l s p).Pairwise (fun x y=>ltB x.1 y.1=true)∧∀x∈gF l s p,x.1=s∨x∈l
 | [],s,p,_=>⟨by simp[gF],fun x hx=>by simp[gF]at hx;exact .inl (by rw[hx])⟩
 | y::l,s,p,h=>by
  obtain⟨h1,h2⟩:=List.pairwise_cons.1 h;obtain⟨g1,g2⟩:=wX l s p h2;unfold gF;by_cases c1:ltB y.1 s=true
  ·rw[zI c1];refine⟨List.pairwise_cons.2 ⟨fun x hx=>?_,g1⟩,fun x hx=>?_⟩
   ·rcases g2 x hx with e|e
    ·rw[e];exact c1
    exact h1 x e
   rcases List.mem_cons.1 hx with rfl|hx
   ·exact .inr (List.mem_cons_self ..)
   rcases g2 x hx with e|e
   ·exact .inl e
   exact .inr (List.mem_cons_of_mem _ e)
  rw[zH c1];by_cases c2:y.1=s
  ·rw[zI c2];refine⟨List.pairwise_cons.2 ⟨fun x hx=>by rw[←c2];exact h1 x hx,h2⟩,fun x hx=>?_⟩;rcases List.mem_cons.1 hx with rfl|hx
   ·exact .inl rfl
   exact .inr (List.mem_cons_of_mem _ hx)
  rw[zH c2]
  have c3:ltB s y.1=true:=by
   rcases uF (by simpa using c1:ltB y.1 s=false)with e|e
   ·exact absurd e c2
   exact e
  refine⟨List.pairwise_cons.2 ⟨fun x hx=>?_,h⟩,fun x hx=>?_⟩
  ·rcases List.mem_cons.1 hx with rfl|hx
   ·exact c3
   exact uE c3 (h1 x hx)
  rcases List.mem_cons.1 hx with rfl|hx
  ·exact .inl rfl
  exact .inr hx
theorem yT{l:List Tm}{y:Tm}(h:∀x∈l,ltB y.1 x.1=true){s:ByteArray}(e:ltB y.1 s=false):∀x∈l,x.1≠s:=fun x hx e2=>by
 have:=h x hx;rw[e2,e]at this;cases this
theorem uy:∀(l:List Tm) (s:ByteArray) (p:Nat),l.Pairwise (fun x y=>ltB x.1 y.1=true)→∀x:Tm,x∈gF l s p↔(x∈l∧x.1≠s)∨∃q,x=(s,q ++ [p])∧((s,q)∈l∨(q=[]∧∀y∈l,y.1≠s))
 | [],s,p,_,x=>by simp[gF]
 | y::l,s,p,h,x=>by
  obtain⟨h1,h2⟩:=List.pairwise_cons.1 h;have ih:=uy l s p h2 x;unfold gF;by_cases c1:ltB y.1 s=true
  ·have hys:y.1≠s:=fun e=>by rw[e,sj]at c1;cases c1
   rw[zI c1,List.mem_cons,ih];constructor
   ·rintro(rfl|⟨a,b⟩|⟨q,a,b⟩)
    ·exact .inl ⟨List.mem_cons_self ..,hys⟩
    ·exact .inl ⟨List.mem_cons_of_mem _ a,b⟩
    refine .inr ⟨q,a,?_⟩;rcases b with b|⟨b,c⟩
    ·exact .inl (List.mem_cons_of_mem _ b)
    exact .inr ⟨b,fun z hz=>by
     rcases List.mem_cons.1 hz with rfl|hz
     ·exact hys
     exact c z hz⟩
   rintro(⟨a,b⟩|⟨q,a,b⟩)
   ·rcases List.mem_cons.1 a with rfl|a
    ·exact .inl rfl
    exact .inr (.inl ⟨a,b⟩)
   refine .inr (.inr ⟨q,a,?_⟩);rcases b with b|⟨b,c⟩
   ·rcases List.mem_cons.1 b with rfl|b
    ·exact absurd rfl hys
    exact .inl b
   exact .inr ⟨b,fun z hz=>c z (List.mem_cons_of_mem _ hz)⟩
  have c1':ltB y.1 s=false:=by simpa using c1
  rw[zH c1];by_cases c2:y.1=s
  ·have hne:=yT h1 c1';rw[zI c2,List.mem_cons];constructor
   ·rintro(rfl|a)
    ·exact .inr ⟨y.2,rfl,.inl (by rw[←c2];exact List.mem_cons_self ..)⟩
    exact .inl ⟨List.mem_cons_of_mem _ a,hne x a⟩
   rintro(⟨a,b⟩|⟨q,a,b⟩)
   ·rcases List.mem_cons.1 a with rfl|a
    ·exact absurd c2 b
    exact .inr a
   rcases b with b|⟨b,c⟩
   ·rcases List.mem_cons.1 b with e|b
    ·rw[←e];exact .inl a
    exact absurd rfl (hne _ b)
   exact absurd c2 (c y (List.mem_cons_self ..))
  have c3:ltB s y.1=true:=by
   rcases uF c1' with e|e
   ·exact absurd e c2
   exact e
  have hne:∀z∈y::l,z.1≠s:=fun z hz=>by
   rcases List.mem_cons.1 hz with rfl|hz
   ·exact c2
   exact yT h1 c1' z hz
  rw[zH c2,List.mem_cons];constructor
  ·rintro(rfl|a)
   ·exact .inr ⟨[],rfl,.inr ⟨rfl,hne⟩⟩
   exact .inl ⟨a,hne x a⟩
  rintro(⟨a,b⟩|⟨q,a,b⟩)
  ·exact .inr a
  rcases b with b|⟨rfl,c⟩
  ·exact absurd rfl (hne _ b)
  exact .inl a
theorem IsTm.nil:IsTm [] []:=⟨List.Pairwise.nil,fun x=>⟨fun h=>(nomatch h),fun h=>absurd h.2 h.1⟩⟩
theorem IsTm.add{L:List T1}{l:List Tm}(h:IsTm L l)(s:ByteArray)(p:Nat):IsTm (L ++ [(s,p)]) (gF l s p):=by
 refine⟨(wX l s p h.up).1,fun x=>?_⟩;rw[uy l s p h.up x,List.filter_append,List.map_append];by_cases e:s=x.1
 ·subst e;have hs:List.filter (fun y:T1=>decide (y.1=x.1)) [(x.1,p)]=[(x.1,p)]:=jz;rw[hs];constructor
  ·rintro(⟨_,b⟩|⟨q,a,b⟩)
   ·exact absurd rfl b
   have e2:x.2=q ++ [p]:=by rw[a]
   rw[e2];refine⟨jz,?_⟩;rcases b with b|⟨rfl,b⟩
   ·have:=((h.mem _).1 b).2;simp only at this;rw[←this];rfl
   have:(L.filter (fun y=>decide (y.1=x.1))).map (·.2)=[]:=by
    apply Classical.byContradiction;intro hc;exact b (x.1,_) ((h.mem (x.1,(L.filter (fun y=>decide (y.1=x.1))).map (·.2))).2 ⟨hc,rfl⟩) rfl
   rw[this];rfl
  rintro⟨_,a⟩;refine .inr ⟨(L.filter (fun y=>decide (y.1=x.1))).map (·.2),Prod.ext rfl a,?_⟩;by_cases hc:(L.filter (fun y=>decide (y.1=x.1))).map (·.2)=[]
  ·refine .inr ⟨hc,fun y hy e=>?_⟩;have:=(h.mem y).1 hy;rw[e,hc]at this;exact this.1 this.2
  exact .inl ((h.mem (x.1,_)).2 ⟨hc,rfl⟩)
 have hs:List.filter (fun y:T1=>decide (y.1=x.1)) [(s,p)]=[]:=by simp[e]
 rw[hs,List.map_nil,List.append_nil,←h.mem];constructor
 ·rintro(⟨a,_⟩|⟨q,a,_⟩)
  ·exact a
  exact absurd (by rw[a]) e
 intro a;exact .inl ⟨a,fun e2=>e e2.symm⟩
theorem wY{α:Type}{r:α→α→Prop}(hi:∀x,¬r x x)(ht:∀x y z,r x y→r y z→r x z):∀ {l m:List α},(∀x,x∈l↔x∈m)→l.Pairwise r→m.Pairwise r→l=m
 | [],[],_,_,_=>rfl
 | [],y::m,h,_,_=>by have:=(h y).2 (List.mem_cons_self ..);cases this
 | x::l,[],h,_,_=>by have:=(h x).1 (List.mem_cons_self ..);cases this
 | x::l,y::m,h,hl,hm=>by
  obtain⟨a1,a2⟩:=List.pairwise_cons.1 hl;obtain⟨b1,b2⟩:=List.pairwise_cons.1 hm
  have e:x=y:=by
   rcases List.mem_cons.1 ((h x).1 (List.mem_cons_self ..))with e|h1
   ·exact e
   rcases List.mem_cons.1 ((h y).2 (List.mem_cons_self ..))with e|h2
   ·exact e.symm
   exact absurd (ht _ _ _ (a1 y h2) (b1 x h1)) (hi x)
  subst e;have hne:∀z∈l,z≠x:=fun z hz e=>hi x (e ▸ a1 z hz)
  have hne2:∀z∈m,z≠x:=fun z hz e=>hi x (e ▸ b1 z hz)
  rw[wY hi ht (fun z=>⟨fun hz=>by
   rcases List.mem_cons.1 ((h z).1 (List.mem_cons_of_mem _ hz))with e|h1
   ·exact absurd e (hne z hz)
   ·exact h1,fun hz=>by
   rcases List.mem_cons.1 ((h z).2 (List.mem_cons_of_mem _ hz))with e|h1
   ·exact absurd e (hne2 z hz)
   exact h1⟩) a2 b2]
theorem IsTm.one{L M:List T1}{l m:List Tm}(h:IsTm L l)(g:IsTm M m)(e:∀s,L.filter (fun y=>decide (y.1=s))=M.filter (fun y=>decide (y.1=s))):l=m:=
 wY (r:=fun x y=>ltB x.1 y.1=true) (fun x=>by rw[sj];decide) (fun _ _ _=>uE) (fun x=>by rw[h.mem,g.mem,e]) h.up g.up
end Ev

namespace Ss
open Go.Sort Go.Proofs
variable {α:Type} [Inhabited α] (cf:α→α→Int) (tag:α→Nat)
def bef(x y:α):Prop:=cf x y<0∨(¬cf y x<0∧tag x<tag y)
variable {cf tag}
theorem lt_false{x y:α}:ltOf cf x y=false↔¬cf x y<0:=by
 unfold ltOf;exact decide_eq_false_iff_not
theorem lt_true{x y:α}:ltOf cf x y=true↔cf x y<0:=by
 unfold ltOf;exact decide_eq_true_iff
theorem uN(hW:SWO (ltOf cf)){x y z:α}(h1:bef cf tag x y)(h2:bef cf tag y z):bef cf tag x z:=by
 rcases h1 with h1|⟨h1,t1⟩
 ·rcases h2 with h2|⟨h2,t2⟩
  ·exact .inl (lt_true.1 (hW.trans _ _ _ (lt_true.2 h1) (lt_true.2 h2)))
  refine .inl (Classical.byContradiction fun h=>?_);exact lt_false.1 (hW.ntrans x z y (lt_false.2 h) (lt_false.2 h2)) h1
 rcases h2 with h2|⟨h2,t2⟩
 ·refine .inl (Classical.byContradiction fun h=>?_);exact lt_false.1 (hW.ntrans y x z (lt_false.2 h1) (lt_false.2 h)) h2
 exact .inr ⟨lt_false.1 (hW.ntrans z y x (lt_false.2 h2) (lt_false.2 h1)),jo⟩
theorem mr{x y:α}(h:cf x y<0):bef cf tag x y:=.inl h
theorem nA{x y:α}(ht:tag y<tag x)(h:¬cf x y<0):bef cf tag y x:=.inr ⟨h,ht⟩
variable (cf tag)
def Srt(d:Array α)(a b:Nat):Prop:=∀x y,a≤x→x<y→y<b→bef cf tag d[x]! d[y]!
def Tg(d:Array α)(a m b:Nat):Prop:=∀x y,a≤x→x<m→m≤y→y<b→tag d[x]!<tag d[y]!
variable {cf tag}
theorem Srt.step_l(hW:SWO (ltOf cf)){d:Array α}{a b x y:Nat}{z:α}(h:Srt cf tag d a b)(ha:a≤x)(hxy:x≤y)(hb:y<b)(hz:bef cf tag d[y]! z):bef cf tag d[x]! z:=by
 rcases Nat.lt_or_ge x y with hlt|hge
 ·exact uN hW (h x y ha hlt hb) hz
 obtain rfl:x=y:=jo;exact hz
theorem Srt.step_r(hW:SWO (ltOf cf)){d:Array α}{a b x y:Nat}{z:α}(h:Srt cf tag d a b)(ha:a≤x)(hxy:x≤y)(hb:y<b)(hz:bef cf tag z d[x]!):bef cf tag z d[y]!:=by
 rcases Nat.lt_or_ge x y with hlt|hge
 ·exact uN hW hz (h x y ha hlt hb)
 obtain rfl:x=y:=jo;exact hz
theorem Srt.sub{d:Array α}{a b a' b':Nat}(h:Srt cf tag d a b)(ha:a≤a')(hb:b'≤b):Srt cf tag d a' b':=fun x y h1 h2 h3=>h x y (by omega) h2 (by omega)
theorem Srt.one(d:Array α){a b:Nat}(h:b≤a+1):Srt cf tag d a b:=fun x y h1 h2 h3=>by omega
theorem Srt.join{d:Array α}{a m b:Nat}(h1:Srt cf tag d a m)(h2:Srt cf tag d m b)(h3:∀x y,a≤x→x<m→m≤y→y<b→bef cf tag d[x]! d[y]!):Srt cf tag d a b:=fun x y hx hxy hy=>by
 by_cases c1:y<m
 ·exact h1 x y hx hxy c1
 by_cases c2:x<m
 ·exact h3 x y hx c2 jo hy
 exact h2 x y jo hxy hy
theorem JZ(d:Array α)(s m e:Nat)(h:s=m∨e=m)(hs:s≤m)(he:m≤e)(x:Nat):d[x]! = bZ d s m e x:=by
 unfold bZ;rcases h with rfl|rfl
 ·repeat' split
  all_goals first|(exfalso;omega)|rfl|(congr 1;omega)
 repeat' split
 all_goals first|(exfalso;omega)|rfl|(congr 1;omega)
theorem Db(hW:SWO (ltOf cf)){d d1:Array α}{a m b mid s e:Nat}(h1:a≤s)(h2:s≤m)(h3:m≤e)(h4:e≤b)(h5:s≤mid)(h6:mid≤e)(h7:mid+m=s+e)(S1:Srt cf tag d a m)(S2:Srt cf tag d m b)(T:Tg tag d a m b)
  (hA:s=a∨e=b∨bef cf tag d[s-1]! d[e]!) (hB:s=m∨e=m∨bef cf tag d[e-1]! d[s]!) (hd:∀x,d1[x]! = bZ d s m e x) :
  (Srt cf tag d1 a s∧Srt cf tag d1 s mid∧Tg tag d1 a s mid)∧(Srt cf tag d1 mid e∧Srt cf tag d1 e b∧Tg tag d1 mid e b)∧(∀x y,a≤x→x<mid→mid≤y→y<b→bef cf tag d1[x]! d1[y]!):=by
 have g1:∀x,x<s→d1[x]! = d[x]!:=fun x hx=>by rw[hd];unfold bZ;rw[if_neg jo,if_neg jo]
 have g2:∀x,s≤x→x<mid→d1[x]! = d[x+(m-s)]!:=fun x hx hy=>by rw[hd];unfold bZ;rw[if_pos jo]
 have g3:∀x,mid≤x→x<e→d1[x]! = d[x-(e-m)]!:=fun x hx hy=>by rw[hd];unfold bZ;rw[if_neg jo,if_pos jo]
 have g4:∀x,e≤x→d1[x]! = d[x]!:=fun x hx=>by rw[hd];unfold bZ;rw[if_neg jo,if_neg jo]
 refine⟨⟨fun x y p1 p2 p3=>?_,fun x y p1 p2 p3=>?_,fun x y p1 p2 p3 p4=>?_⟩,⟨fun x y p1 p2 p3=>?_,fun x y p1 p2 p3=>?_,fun x y p1 p2 p3 p4=>?_⟩,fun x y p1 p2 p3 p4=>?_⟩
 ·rw[g1 x jo,g1 y jo];exact S1 x y p1 p2 jo
 ·rw[g2 x jo jo,g2 y jo jo];exact S2 _ _ jo jo jo
 ·rw[g1 x jo,g2 y jo jo];exact T _ _ jo jo jo jo
 ·rw[g3 x jo jo,g3 y jo jo];exact S1 _ _ jo jo jo
 ·rw[g4 x jo,g4 y jo];exact S2 _ _ jo jo jo
 ·rw[g3 x jo jo,g4 y jo];exact T _ _ jo jo jo jo
 by_cases c1:x<s
 ·rw[g1 x c1];by_cases c2:y<e
  ·rw[g3 y p3 c2];exact S1 _ _ jo jo jo
  rw[g4 y jo];rcases hA with hA|hA|hA
  ·omega
  ·omega
  exact S1.step_l hW (y:=s-1) p1 jo jo (S2.step_r hW (x:=e) jo jo p4 hA)
 rw[g2 x jo p2];by_cases c2:y<e
 ·rw[g3 y p3 c2];rcases hB with hB|hB|hB
  ·omega
  ·omega
  exact S2.step_l hW (y:=e-1) jo jo jo (S1.step_r hW (x:=s) jo jo jo hB)
 rw[g4 y jo];exact S2 _ _ jo jo jo
def shL(d:Array α)(a k x:Nat):α:=if a≤x∧x<k then d[x+1]! else if x=k then d[a]! else d[x]!
theorem FD(d:Array α)(a x:Nat):d[x]! = shL d a a x:=by
 unfold shL
 repeat' split
 all_goals first|(exfalso;omega)|rfl|(congr 1)
theorem FG{d dk:Array α}{a k:Nat}(hak:a≤k)(hs:dk.size=d.size)(hk:k+1<d.size)(h:∀x,dk[x]! = shL d a k x)(x:Nat):(swp dk k (k+1))[x]! = shL d a (k+1) x:=by
 rw[qI dk k (k+1) x jo jo];simp only[h];unfold shL
 repeat' split
 all_goals first|(exfalso;omega)|rfl|(congr 1;omega)
theorem Hu(hW:SWO (ltOf cf)){d d1:Array α}{a i b:Nat}(hai:a<i)(hib:i≤b)(S:Srt cf tag d (a+1) b)(h1:∀h,a+1≤h→h<i→bef cf tag d[h]! d[a]!)(h2:∀h,i≤h→h<b→bef cf tag d[a]! d[h]!)(hd:∀x,d1[x]! = shL d a (i-1) x):Srt cf tag d1 a b:=fun x y p1 p2 p3=>by
 have g1:∀x,a≤x→x<i-1→d1[x]! = d[x+1]!:=fun x hx hy=>by rw[hd];unfold shL;rw[if_pos jo]
 have g2:d1[i-1]! = d[a]!:=by rw[hd];unfold shL;rw[if_neg jo,if_pos rfl]
 have g3:∀x,i≤x→d1[x]! = d[x]!:=fun x hx=>by rw[hd];unfold shL;rw[if_neg jo,if_neg jo]
 by_cases c1:x<i-1
 ·rw[g1 x p1 c1];by_cases c2:y<i-1
  ·rw[g1 y jo c2];exact S _ _ jo jo jo
  by_cases c3:y=i-1
  ·rw[c3,g2];exact h1 _ jo jo
  rw[g3 y jo];exact S _ _ jo jo jo
 by_cases c4:x=i-1
 ·rw[c4,g2,g3 y jo];exact h2 _ jo jo
 rw[g3 x jo,g3 y jo];exact S _ _ jo jo jo
def shR(d:Array α)(m k x:Nat):α:=if k<x∧x≤m then d[x-1]! else if x=k then d[m]! else d[x]!
theorem wA(d:Array α)(m x:Nat):d[x]! = shR d m m x:=by
 unfold shR
 repeat' split
 all_goals first|(exfalso;omega)|rfl|(congr 1)
theorem wC{d dk:Array α}{m k:Nat}(hkm:k+1≤m)(hs:dk.size=d.size)(hm:m<d.size)(h:∀x,dk[x]! = shR d m (k+1) x)(x:Nat):(swp dk (k+1) k)[x]! = shR d m k x:=by
 rw[qI dk (k+1) k x jo jo];simp only[h];unfold shR
 repeat' split
 all_goals first|(exfalso;omega)|rfl|(congr 1;omega)
theorem xA(hW:SWO (ltOf cf)){d d1:Array α}{a i m:Nat}(hai:a≤i)(him:i≤m)(S:Srt cf tag d a m)(h1:∀h,a≤h→h<i→bef cf tag d[h]! d[m]!)(h2:∀h,i≤h→h<m→bef cf tag d[m]! d[h]!)(hd:∀x,d1[x]! = shR d m i x):Srt cf tag d1 a (m+1):=fun x y p1 p2 p3=>by
 have g1:∀x,i<x→x≤m→d1[x]! = d[x-1]!:=fun x hx hy=>by rw[hd];unfold shR;rw[if_pos jo]
 have g2:d1[i]! = d[m]!:=by rw[hd];unfold shR;rw[if_neg jo,if_pos rfl]
 have g3:∀x,x<i→d1[x]! = d[x]!:=fun x hx=>by rw[hd];unfold shR;rw[if_neg jo,if_neg jo]
 by_cases c1:x<i
 ·rw[g3 x c1];by_cases c2:y<i
  ·rw[g3 y c2];exact S _ _ jo jo jo
  by_cases c3:y=i
  ·rw[c3,g2];exact h1 _ jo jo
  rw[g1 y jo jo];exact S _ _ jo jo jo
 by_cases c4:x=i
 ·rw[c4,g2,g1 y jo jo];exact h2 _ jo jo
 rw[g1 x jo jo,g1 y jo jo];exact S _ _ jo jo jo
theorem wD{d1 d2 d3:Array α}{a mid b:Nat}(ham:a≤mid)(hmb:mid≤b)(hb:b≤d1.size)(h:∀x y,a≤x→x<mid→mid≤y→y<b→bef cf tag d1[x]! d1[y]!)(P2:PermIn a mid d1 d2)(S2:Srt cf tag d2 a mid)(P3:PermIn mid b d2 d3)(S3:Srt cf tag d3 mid b):Srt cf tag d3 a b:=by
 have q2:∀x,x<a∨mid≤x→d2[x]! = d1[x]!:=P2.2.1;have q3:∀x,x<mid∨b≤x→d3[x]! = d2[x]!:=P3.2.1
 have e2:∀x,a≤x→x<mid→∀y,mid≤y→y<b→bef cf tag d2[x]! d2[y]!:=fun x hx hxm y hy hyb=>by
  rw[q2 y (.inr hy)];exact permIn_all d1 d2 a mid (fun z=>bef cf tag z d1[y]!) jo P2 (fun i hi hi2=>h i y hi hi2 hy hyb) x hx hxm
 refine Srt.join (m:=mid) (fun x y p1 p2 p3=>?_) S3 (fun x y p1 p2 p3 p4=>?_)
 ·rw[q3 x (.inl jo),q3 y (.inl p3)];exact S2 x y p1 p2 p3
 rw[q3 x (.inl p2)];exact permIn_all d2 d3 mid b (fun z=>bef cf tag d2[x]! z) (by rw[P2.1];exact hb) P3 (fun i hi hi2=>e2 x p1 p2 i hi hi2) y p3 p4
theorem Tg.sub{d:Array α}{a m b a' b':Nat}(h:Tg tag d a m b)(ha:a≤a')(hb:b'≤b):Tg tag d a' m b':=fun x y h1 h2 h3 h4=>h x y (by omega) h2 h3 (by omega)
theorem Ja(hW:SWO (ltOf cf)){d:Array α}{a m b p c:Nat}(S1:Srt cf tag d a m)(S2:Srt cf tag d m b)(T:Tg tag d a m b)(hc:c<m)(hq:m≤p-c)(hac:a≤c)(h:¬cf d[p-c]! d[c]!<0)(x:Nat)(hx:a≤x)(hxc:x≤c)(hpb:p-x<b):bef cf tag d[x]! d[p-x]!:=
 S1.step_l hW (y:=c) hx hxc hc (S2.step_r hW (x:=p-c) hq jo hpb (nA (T c (p-c) hac hc hq jo) h))
theorem Jb(hW:SWO (ltOf cf)){d:Array α}{a m b p c:Nat}(S1:Srt cf tag d a m)(S2:Srt cf tag d m b)(hac:a≤c)(hqb:p-c<b)(h:cf d[p-c]! d[c]!<0)(x:Nat)(hx:c≤x)(hxm:x<m)(hpx:m≤p-x):bef cf tag d[p-x]! d[x]!:=
 S2.step_l hW (y:=p-c) hpx jo hqb (S1.step_r hW (x:=c) hac hx hxm (mr h))
theorem Srt.keep{d d':Array α}{a b:Nat}(h:Srt cf tag d a b)(hk:∀x,a≤x→x<b→d'[x]! = d[x]!):Srt cf tag d' a b:=fun x y p1 p2 p3=>by
 rw[hk x p1 jo,hk y jo p3];exact h x y p1 p2 p3
theorem Tg.keep{d d':Array α}{a m b:Nat}(h:Tg tag d a m b)(hk:∀x,a≤x→x<b→d'[x]! = d[x]!):Tg tag d' a m b:=fun x y p1 p2 p3 p4=>by
 rw[hk x p1 jo,hk y jo p4];exact h x y p1 p2 p3 p4
end Ss
end Go.Proofs.YtmomjpolkkbhnaaGreat
