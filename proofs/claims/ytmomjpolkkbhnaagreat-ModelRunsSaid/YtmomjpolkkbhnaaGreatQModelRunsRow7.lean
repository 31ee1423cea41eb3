/- Events: which may be, how great, their terms: plain. (No program in sight.) -/
import Derived.Laws.StructEq
import Derived.Laws.AppendOwnNone
import Derived.Test.YtmomjpolkkbhnaaGreatQModelRunsRow2
import Derived.Test.YtmomjpolkkbhnaaGreatQModelRunsRow6
import Derived.Test.YtmomjpolkkbhnaaGreatQModelRunsRow11
import Derived.Test.YtmomjpolkkbhnaaGreatQModelRunsRow10
import Derived.Test.YtmomjpolkkbhnaaGreatQModelRunsRow16
set_option linter.unusedSectionVars false
set_option linter.unusedSimpArgs false
set_option linter.unusedVariables false
set_option maxRecDepth 20000
set_option maxHeartbeats 100000000
open Go.Proofs.Tryz
namespace Go.Proofs.YtmomjpolkkbhnaaGreat
namespace Ev
open Go.RowKit Ut Tk
abbrev Fl:=ByteArray × ByteArray
abbrev Evn:=Int × List Fl
theorem yz:∀x:List UInt8,Op.bytesLess x x=false
 | []=>by simp[Op.bytesLess]
 | a::x=>by simp[Op.bytesLess,yz x]
theorem Ao:∀x y z:List UInt8,Op.bytesLess x y=true→Op.bytesLess y z=true→Op.bytesLess x z=true
 | [],[],_,h,_=>by simp[Op.bytesLess]at h
 | [],b::y,[],_,h=>by simp[Op.bytesLess]at h
 | [],b::y,c::z,_,_=>by simp[Op.bytesLess]
 | a::x,[],_,h,_=>by simp[Op.bytesLess]at h
 | a::x,b::y,[],_,h=>by simp[Op.bytesLess]at h
 | a::x,b::y,c::z,e,d=>by
  simp only[Op.bytesLess,Bool.or_eq_true,zr,zg,beq_iff_eq]at e d ⊢;rcases e with e|⟨rfl,e⟩
  ·rcases d with d|⟨rfl,d⟩
   ·exact .inl (UInt8.lt_trans e d)
   exact .inl e
  rcases d with d|⟨rfl,d⟩
  ·exact .inl d
  exact .inr ⟨rfl,Ao x y z e d⟩
theorem Ap:∀x y:List UInt8,Op.bytesLess x y=true∨x=y∨Op.bytesLess y x=true
 | [],[]=>.inr (.inl rfl)
 | [],b::y=>.inl (by simp[Op.bytesLess])
 | a::x,[]=>.inr (.inr (by simp[Op.bytesLess]))
 | a::x,b::y=>by
  simp only[Op.bytesLess,Bool.or_eq_true,zr,zg,beq_iff_eq,zQ];rcases UInt8.lt_or_lt_of_ne (a:=a) (b:=b) |> fun f=>Classical.em (a=b) |>.elim (fun e=>Or.inr e) (fun e=>Or.inl (f e))with h|rfl
  ·rcases h with h|h
   ·exact .inl (.inl h)
   exact .inr (.inr (.inl h))
  rcases Ap x y with h|rfl|h
  ·exact .inl (.inr ⟨rfl,h⟩)
  ·exact .inr (.inl ⟨rfl,rfl⟩)
  exact .inr (.inr (.inr ⟨rfl,h⟩))
def ltB(a b:ByteArray):Bool:=Op.bytesLess a.toList b.toList
theorem zW{a b c:ByteArray}(h1:ltB a b=true)(h2:ltB b c=true):ltB a c=true:=Ao _ _ _ h1 h2
theorem yJ(a:ByteArray):ltB a a=false:=yz _
theorem toList_inj{a b:ByteArray}(h:a.toList=b.toList):a=b:=by
 have d:a.data.toList=b.data.toList:=by rw[←ByteArray.toList_eq,←ByteArray.toList_eq];exact h
 have c:a.data=b.data:=Array.toList_inj.1 d
 cases a;cases b;simp at c;rw[c]
theorem z7{a b:ByteArray}(h:ltB a b=false):a=b∨ltB b a=true:=by
 rcases Ap a.toList b.toList with g|g|g
 ·unfold ltB at h;rw[h]at g;cases g
 ·exact .inl (toList_inj g)
 exact .inr g
def kY:List Fl→Int
 | []=>0
 | f::fs=>if isN f.1.data.toList=false then 100 else if 4096<f.2.size then 2 else kY fs
def fM(fs:List Fl):Int:=if 16<fs.length then 3 else kY fs
def szF:List Fl→Nat
 | []=>0
 | f::fs=>(f.1.size+f.2.size)+szF fs
def szE(fs:List Fl):Nat:=16+szF fs
theorem Ir(fs:List Fl)(f:Fl):szF (fs ++ [f])=szF fs+(f.1.size+f.2.size):=by
 induction fs with
 | nil=>simp[szF]
 | cons g fs ih=>simp only[List.cons_append,szF,ih];omega
theorem Kk{s:ByteArray}(h:isN s.data.toList=true):s.size≤32:=by
 unfold isN at h;simp only[zr,zg]at h;rw[fB]at h;exact h.1.2
theorem Kl{fs:List Fl}(h:kY fs=0):∀f∈fs,isN f.1.data.toList=true∧f.1.size≤32∧f.2.size≤4096:=by
 induction fs with
 | nil=>intro f hf;cases hf
 | cons g fs ih=>
  unfold kY at h;by_cases a:isN g.1.data.toList=false
  ·rw[zI a]at h;cases h
  rw[zH a]at h;by_cases c:4096<g.2.size
  ·rw[zI c]at h;cases h
  rw[zH c]at h;have b:isN g.1.data.toList=true:=by simpa using a
  intro f hf;rcases List.mem_cons.1 hf with rfl|hf
  ·exact⟨b,Kk b,jo⟩
  exact ih h f hf
theorem mQ{fs:List Fl}(h:fM fs=0):fs.length≤16∧∀f∈fs,isN f.1.data.toList=true∧f.1.size≤32∧f.2.size≤4096:=by
 unfold fM at h;by_cases a:16<fs.length
 ·rw[zI a]at h;cases h
 rw[zH a]at h;exact⟨jo,Kl h⟩
theorem MQ{fs:List Fl}(h:∀f∈fs,f.1.size≤32∧f.2.size≤4096):szF fs≤fs.length*4128:=by
 induction fs with
 | nil=>exact zG _
 | cons g fs ih=>
  have b:=h g (List.mem_cons_self ..);have c:=ih (fun f a=>h f (List.mem_cons_of_mem _ a));simp only[szF,zV];omega
theorem qK{fs:List Fl}(h:fM fs=0):szE fs≤70000:=by
 have a:=mQ h;have c:=MQ (fun f b=>(a.2 f b).2);unfold szE;omega
theorem Aq(fs:List Fl):∀k,szF (fs.take k)≤szF fs:=by
 induction fs with
 | nil=>intro k;simp[szF]
 | cons g fs ih=>
  intro k
  cases k with
  | zero=>simp[szF]
  | succ k=>have:=ih k;simp only[zX,szF];omega
def mG:List Evn→Int
 | []=>0
 | e::l=>if fM e.2=0 then mG l else fM e.2
def szL:List Evn→Nat
 | []=>0
 | e::l=>szE e.2+szL l
theorem Iu(l:List Evn)(e:Evn):szL (l ++ [e])=szL l+szE e.2:=by
 induction l with
 | nil=>simp[szL]
 | cons g l ih=>simp only[List.cons_append,szL,ih];omega
theorem Ci{l:List Evn}(h:∀e∈l,fM e.2=0):szL l≤l.length*70000:=by
 induction l with
 | nil=>exact zG _
 | cons g l ih=>
  have b:=qK (h g (List.mem_cons_self ..));have c:=ih (fun f a=>h f (List.mem_cons_of_mem _ a));simp only[szL,zV];omega
theorem Km{l:List Evn}(h:∀e∈l,fM e.2=0):mG l=0:=by
 induction l with
 | nil=>rfl
 | cons g l ih=>
  unfold mG;rw[zI (h g (List.mem_cons_self ..))];exact ih (fun f a=>h f (List.mem_cons_of_mem _ a))
theorem Iw{l:List Evn}(h:mG l=0):∀e∈l,fM e.2=0:=by
 induction l with
 | nil=>intro e he;cases he
 | cons g l ih=>
  unfold mG at h;by_cases c:fM g.2=0
  ·rw[zI c]at h;intro e he;rcases List.mem_cons.1 he with rfl|he
   ·exact c
   exact ih h e he
  rw[zH c]at h;exact absurd h c
theorem Kn{l:List Evn}:∀ {k:Nat} (hk:k<l.length),(∀e∈l.take k,fM e.2=0)→fM l[k].2≠0→mG l=fM l[k].2:=by
 induction l with
 | nil=>intro k hk;exact absurd hk jz
 | cons g l ih=>
  intro k hk h a;unfold mG
  cases k with
  | zero=>
   have b:fM g.2≠0:=a;rw[zH b];rfl
  | succ k=>
   have d:=h g jz;rw[zI d];exact ih (by simpa using hk) (fun e c=>h e (by simp[c])) a
def gQ(seq:Int)(l:List Evn):Int:=
 if l=[]then 1 else if 64<l.length then 3 else if mG l=0 then(if 65536<szL l then 2 else if seq<1∨1099511627776-(l.length:Int)+1<seq then 5 else 0)else mG l
theorem rF{seq:Int}{l:List Evn}(h:gQ seq l=0):l≠[]∧l.length≤64∧(∀e∈l,fM e.2=0)∧szL l≤65536∧1≤seq∧seq≤1099511627776-(l.length:Int)+1:=by
 unfold gQ at h;by_cases b:l=[]
 ·rw[zI b]at h;cases h
 rw[zH b]at h;by_cases d:64<l.length
 ·rw[zI d]at h;cases h
 rw[zH d]at h;by_cases a:mG l=0
 ·rw[zI a]at h;by_cases c:65536<szL l
  ·rw[zI c]at h;cases h
  rw[zH c]at h;by_cases f:seq<1∨1099511627776-(l.length:Int)+1<seq
  ·rw[zI f]at h;cases h
  exact⟨b,jo,Iw a,jo,jo,jo⟩
 rw[zH a]at h;exact absurd h a
abbrev T1:=ByteArray × Nat
abbrev Tm:=ByteArray × List Nat
def mH:List Tm→ByteArray→Nat→List Tm
 | [],s,p=>[(s,[p])]
 | x::l,s,p=>if ltB x.1 s=true then x::mH l s p else if x.1=s then(s,x.2 ++ [p])::l else(s,[p])::x::l
structure IsTm (L:List T1) (l:List Tm):Prop where
 up:l.Pairwise (fun x y=>ltB x.1 y.1=true)
 mem:∀x:Tm,x∈l↔x.2≠[]∧x.2=(L.filter (fun y=>decide (y.1=x.1))).map (·.2)
theorem Bc:∀(l:List Tm) (s:ByteArray) (p:Nat),l.Pairwise (fun x y=>ltB x.1 y.1=true)→(mH l s p).Pairwise (fun x y=>ltB x.1 y.1=true)∧∀x∈mH l s p,x.1=s∨x∈l
 | [],s,p,_=>⟨by simp[mH],fun x hx=>by simp[mH]at hx;exact .inl (by rw[hx])⟩
 | y::l,s,p,h=>by
  obtain⟨c,d⟩:=List.pairwise_cons.1 h;obtain⟨i,f⟩:=Bc l s p d;unfold mH;by_cases b:ltB y.1 s=true
  ·rw[zI b];refine⟨List.pairwise_cons.2 ⟨fun x hx=>?_,i⟩,fun x hx=>?_⟩
   ·rcases f x hx with e|e
    ·rw[e];exact b
    exact c x e
   rcases List.mem_cons.1 hx with rfl|hx
   ·exact .inr (List.mem_cons_self ..)
   rcases f x hx with e|e
   ·exact .inl e
   exact .inr (List.mem_cons_of_mem _ e)
  rw[zH b];by_cases a:y.1=s
  ·rw[zI a];refine⟨List.pairwise_cons.2 ⟨fun x hx=>by rw[←a];exact c x hx,d⟩,fun x hx=>?_⟩;rcases List.mem_cons.1 hx with rfl|hx
   ·exact .inl rfl
   exact .inr (List.mem_cons_of_mem _ hx)
  rw[zH a]
  have g:ltB s y.1=true:=by
   rcases z7 (by simpa using b:ltB y.1 s=false)with e|e
   ·exact absurd e a
   exact e
  refine⟨List.pairwise_cons.2 ⟨fun x hx=>?_,h⟩,fun x hx=>?_⟩
  ·rcases List.mem_cons.1 hx with rfl|hx
   ·exact g
   exact zW g (c x hx)
  rcases List.mem_cons.1 hx with rfl|hx
  ·exact .inl rfl
  exact .inr hx
theorem DZ{l:List Tm}{y:Tm}(h:∀x∈l,ltB y.1 x.1=true){s:ByteArray}(e:ltB y.1 s=false):∀x∈l,x.1≠s:=fun x b a=>by
 have:=h x b;rw[a,e]at this;cases this
theorem Ar:∀(l:List Tm) (s:ByteArray) (p:Nat),l.Pairwise (fun x y=>ltB x.1 y.1=true)→∀x:Tm,x∈mH l s p↔(x∈l∧x.1≠s)∨∃q,x=(s,q ++ [p])∧((s,q)∈l∨(q=[]∧∀y∈l,y.1≠s))
 | [],s,p,_,x=>by simp[mH]
 | y::l,s,p,h,x=>by
  obtain⟨k,m⟩:=List.pairwise_cons.1 h;have ih:=Ar l s p m x;unfold mH;by_cases j:ltB y.1 s=true
  ·have i:y.1≠s:=fun e=>by rw[e,yJ]at j;cases j
   rw[zI j,List.mem_cons,ih];constructor
   ·rintro(rfl|⟨a,b⟩|⟨q,a,b⟩)
    ·exact .inl ⟨List.mem_cons_self ..,i⟩
    ·exact .inl ⟨List.mem_cons_of_mem _ a,b⟩
    refine .inr ⟨q,a,?_⟩;rcases b with b|⟨b,c⟩
    ·exact .inl (List.mem_cons_of_mem _ b)
    exact .inr ⟨b,fun z hz=>by
     rcases List.mem_cons.1 hz with rfl|hz
     ·exact i
     exact c z hz⟩
   rintro(⟨a,b⟩|⟨q,a,b⟩)
   ·rcases List.mem_cons.1 a with rfl|a
    ·exact .inl rfl
    exact .inr (.inl ⟨a,b⟩)
   refine .inr (.inr ⟨q,a,?_⟩);rcases b with b|⟨b,c⟩
   ·rcases List.mem_cons.1 b with rfl|b
    ·exact absurd rfl i
    exact .inl b
   exact .inr ⟨b,fun z hz=>c z (List.mem_cons_of_mem _ hz)⟩
  have f:ltB y.1 s=false:=by simpa using j
  rw[zH j];by_cases g:y.1=s
  ·have d:=DZ k f;rw[zI g,List.mem_cons];constructor
   ·rintro(rfl|a)
    ·exact .inr ⟨y.2,rfl,.inl (by rw[←g];exact List.mem_cons_self ..)⟩
    exact .inl ⟨List.mem_cons_of_mem _ a,d x a⟩
   rintro(⟨a,b⟩|⟨q,a,b⟩)
   ·rcases List.mem_cons.1 a with rfl|a
    ·exact absurd g b
    exact .inr a
   rcases b with b|⟨b,c⟩
   ·rcases List.mem_cons.1 b with e|b
    ·rw[←e];exact .inl a
    exact absurd rfl (d _ b)
   exact absurd g (c y (List.mem_cons_self ..))
  have n:ltB s y.1=true:=by
   rcases z7 f with e|e
   ·exact absurd e g
   exact e
  have d:∀z∈y::l,z.1≠s:=fun z hz=>by
   rcases List.mem_cons.1 hz with rfl|hz
   ·exact g
   exact DZ k f z hz
  rw[zH g,List.mem_cons];constructor
  ·rintro(rfl|a)
   ·exact .inr ⟨[],rfl,.inr ⟨rfl,d⟩⟩
   exact .inl ⟨a,d x a⟩
  rintro(⟨a,b⟩|⟨q,a,b⟩)
  ·exact .inr a
  rcases b with b|⟨rfl,c⟩
  ·exact absurd rfl (d _ b)
  exact .inl a
theorem IsTm.nil:IsTm [] []:=⟨List.Pairwise.nil,fun x=>⟨fun h=>(nomatch h),fun h=>absurd h.2 h.1⟩⟩
theorem IsTm.add{L:List T1}{l:List Tm}(h:IsTm L l)(s:ByteArray)(p:Nat):IsTm (L ++ [(s,p)]) (mH l s p):=by
 refine⟨(Bc l s p h.up).1,fun x=>?_⟩;rw[Ar l s p h.up x,List.filter_append,List.map_append];by_cases e:s=x.1
 ·subst e;have f:List.filter (fun y:T1=>decide (y.1=x.1)) [(x.1,p)]=[(x.1,p)]:=jz;rw[f];constructor
  ·rintro(⟨_,b⟩|⟨q,a,b⟩)
   ·exact absurd rfl b
   have d:x.2=q ++ [p]:=by rw[a]
   rw[d];refine⟨jz,?_⟩;rcases b with b|⟨rfl,b⟩
   ·have:=((h.mem _).1 b).2;simp only at this;rw[←this];rfl
   have:(L.filter (fun y=>decide (y.1=x.1))).map (·.2)=[]:=by
    apply Classical.byContradiction;intro c;exact b (x.1,_) ((h.mem (x.1,(L.filter (fun y=>decide (y.1=x.1))).map (·.2))).2 ⟨c,rfl⟩) rfl
   rw[this];rfl
  rintro⟨_,a⟩;refine .inr ⟨(L.filter (fun y=>decide (y.1=x.1))).map (·.2),Prod.ext rfl a,?_⟩;by_cases c:(L.filter (fun y=>decide (y.1=x.1))).map (·.2)=[]
  ·refine .inr ⟨c,fun y g e=>?_⟩;have:=(h.mem y).1 g;rw[e,c]at this;exact this.1 this.2
  exact .inl ((h.mem (x.1,_)).2 ⟨c,rfl⟩)
 have f:List.filter (fun y:T1=>decide (y.1=x.1)) [(s,p)]=[]:=by simp[e]
 rw[f,List.map_nil,List.append_nil,←h.mem];constructor
 ·rintro(⟨a,_⟩|⟨q,a,_⟩)
  ·exact a
  exact absurd (by rw[a]) e
 intro a;exact .inl ⟨a,fun d=>e d.symm⟩
theorem Be{α:Type}{r:α→α→Prop}(hi:∀x,¬r x x)(ht:∀x y z,r x y→r y z→r x z):∀ {l m:List α},(∀x,x∈l↔x∈m)→l.Pairwise r→m.Pairwise r→l=m
 | [],[],_,_,_=>rfl
 | [],y::m,h,_,_=>by have:=(h y).2 (List.mem_cons_self ..);cases this
 | x::l,[],h,_,_=>by have:=(h x).1 (List.mem_cons_self ..);cases this
 | x::l,y::m,h,hl,hm=>by
  obtain⟨d,i⟩:=List.pairwise_cons.1 hl;obtain⟨f,g⟩:=List.pairwise_cons.1 hm
  have e:x=y:=by
   rcases List.mem_cons.1 ((h x).1 (List.mem_cons_self ..))with e|h1
   ·exact e
   rcases List.mem_cons.1 ((h y).2 (List.mem_cons_self ..))with e|h2
   ·exact e.symm
   exact absurd (ht _ _ _ (d y h2) (f x h1)) (hi x)
  subst e;have c:∀z∈l,z≠x:=fun z a e=>hi x (e ▸ d z a)
  have b:∀z∈m,z≠x:=fun z a e=>hi x (e ▸ f z a)
  rw[Be hi ht (fun z=>⟨fun a=>by
   rcases List.mem_cons.1 ((h z).1 (List.mem_cons_of_mem _ a))with e|h1
   ·exact absurd e (c z a)
   ·exact h1,fun a=>by
   rcases List.mem_cons.1 ((h z).2 (List.mem_cons_of_mem _ a))with e|h1
   ·exact absurd e (b z a)
   exact h1⟩) i g]
theorem IsTm.one{L M:List T1}{l m:List Tm}(h:IsTm L l)(g:IsTm M m)(e:∀s,L.filter (fun y=>decide (y.1=s))=M.filter (fun y=>decide (y.1=s))):l=m:=
 Be (r:=fun x y=>ltB x.1 y.1=true) (fun x=>by rw[yJ];decide) (fun _ _ _=>zW) (fun x=>by rw[h.mem,g.mem,e]) h.up g.up
end Ev

namespace Ev
open Go.RowKit Ut Tk Qy
structure FlAt (w:World) (B:Nat) (F:Option Addr) (fn fc:Nat) (fs:List Fl):Prop where
 rd:Reads w B 2 F fn (fJ fs)
 len:fs.length=fn
 few:fn≤8796093021952
 cap:fn≤fc
 sz:∀f∈fs,f.1.size≤140737488351232∧f.2.size≤140737488351232
 nl:F=none→fc=0
theorem FlAt.keep{w w':World}{B:Nat}{F:Option Addr}{fn fc:Nat}{fs:List Fl}(h:FlAt w B F fn fc fs)(hk:∀b o,b<B→w'.cell? ⟨b,o,none⟩=w.cell? ⟨b,o,none⟩):FlAt w' B F fn fc fs:=⟨h.rd.keep hk,h.len,h.few,h.cap,h.sz,h.nl⟩
theorem FlAt.more{w:World}{B B':Nat}{F:Option Addr}{fn fc:Nat}{fs:List Fl}(h:FlAt w B F fn fc fs)(hB:B≤B'):FlAt w B' F fn fc fs:=⟨h.rd.more hB,h.len,h.few,h.cap,h.sz,h.nl⟩
theorem FlAt.grow{w w':World}{F:Option Addr}{fn fc:Nat}{fs:List Fl}(h:FlAt w w.heap.size F fn fc fs)(hb:zWW w w'):FlAt w' w'.heap.size F fn fc fs:=(h.keep fun _ _ a=>hb.cell a).more hb.size
theorem FlAt.at_{w:World}{B:Nat}{F:Option Addr}{fn fc:Nat}{fs:List Fl}(h:FlAt w B F fn fc fs){k:Nat}(hk:k<fs.length) :
  ∃b o,F=some ⟨b,o,none⟩∧b<B∧w.cell? ⟨b,o+k*2,none⟩=some (.string fs[k].1)∧w.cell? ⟨b,o+k*2+1,none⟩=some (.string fs[k].2):=Qy.lq h.rd hk
theorem Bj{α:Type}(l:List α)(k:Nat)(h:k<l.length):l.drop k=l[k]::l.drop (k+1):=zf h
theorem JC(s:ByteArray)(w:World)(hs:s.size≤140737488351232):Calls prog 123 #[.string s] w fun e w'=>e=.returned (.bool (isN s.data.toList))∧zWW w w':=by
 have c:=xg s w hs;go_enter func123,ntmps123;go_wp2_with fail;refine c.mono ?_;rintro e w' ⟨rfl,a⟩;go_wp2;go_ret;exact⟨rfl,a⟩
theorem Gh(t:Int)(F:Option Addr)(fn fc:Nat)(fs:List Fl)(w:World)(h:FlAt w w.heap.size F fn fc fs) :
  Calls prog 93 #[.agg #[.int .i64 t,.slice F fn fc]] w fun e w'=>e=.returned (.int .i64 (fM fs))∧zWW w w':=by
 have V:=h.len;have W:fs.length≤fn:=jo;have U:fn≤fs.length:=jo;have O:=h.cap;have M:=h.few;have Fin:Hid (fM fs=if 16<fs.length then 3 else kY fs):=rfl;have H:=zh h;have m:Hid (zWW w (w.alloc (.cells #[.int .i64 t,.slice F fn fc] 46))):=zh (zRR _);clear V h;generalize fM fs=r at *;by_cases d:16<fs.length
 ·have y:(16:Int)<(fn:Int):=jo;go_enter func93,ntmps93;go_wp2;go_ret;exact⟨by rw[Fin.out,zI d];rfl,m.out⟩
 have y:¬(16:Int)<(fn:Int):=jo;have l:Hid (r=kY (fs.drop 0)):=zh (by rw[Fin.out,zH d,List.drop_zero]);clear Fin d;go_enter func93,ntmps93;go_wp2;go_loopw [12] (fun i wr=>∃k:Nat,k≤fs.length∧i=.int .i64 (k:Nat)∧Hid (r=kY (fs.drop k))∧Hid (zWW w wr)) (fun i _=>fs.length-(intOf i).toNat)
 case atStart=>exact⟨0,zS _,rfl,l,m⟩
 clear l m;obtain⟨k,hk,rfl,G,z⟩:=hrel;by_cases n:k<fs.length
 ·have E:(k:Int)<(fn:Int):=jo;obtain⟨b,o,rfl,T,N,R⟩:=(H.out.keep (w':=wr) (fun b o S=>z.out.cell (p:=⟨b,o,none⟩) S)).at_ n;have x:=H.out.sz _ (za n);have a:Hid (r=if isN fs[k].1.data.toList=false then 100 else if 4096<fs[k].2.size then 2 else kY (fs.drop (k+1))):=zh (by rw[G.out,Bj _ _ n];rfl);clear G;generalize L:fs[k]=f at *;clear L;obtain⟨g,j⟩:=f;simp only at N R x a;obtain⟨D,X⟩:=x;go_wp2_with fail;have v:Hid (zWW w (wr.alloc (.cells #[.string g,.string j] 85))):=zh (z.out.alloc z.out.size _);have c:=JC g (wr.alloc (.cells #[.string g,.string j] 85)) D;have J:=(Blk.new wr 85 #[.string g,.string j]).cell 1;have B:wr.heap.size<(wr.alloc (.cells #[.string g,.string j] 85)).heap.size:=jz;simp only[zA,zB,zC]at J;generalize wr.alloc (.cells #[.string g,.string j] 85)=w1 at *;clear z N R;refine c.mono ?_;rintro e Y ⟨rfl,s⟩;have Z:=(s.cell (p:=⟨wr.heap.size,1,none⟩) B).trans J;have q:Hid (zWW w Y):=zt v s;clear c J s v;by_cases u:isN g.data.toList=false
  ·rw[u];go_wp2;go_ret;exact⟨by rw[a.out,zI u];rfl,q.out⟩
  have A:isN g.data.toList=true:=by simpa using u
  rw[A];by_cases P:4096<j.size
  ·have C:(4096:Int)<(j.size:Int):=jo;go_wp2;go_ret;exact⟨by rw[a.out,zH u,zI P];rfl,q.out⟩
  have C:¬(4096:Int)<(j.size:Int):=jo;have I:Hid (r=kY (fs.drop (k+1))):=zh (by rw[a.out,zH u,zH P]);clear a u A;go_wp2;go_roundw
  case rel=>exact⟨k+1,jo,ju,I,q⟩
  simp[intOf];omega
 have E:¬(k:Int)<(fn:Int):=jo;go_wp2;go_ret;exact⟨by rw[G.out,List.drop_eq_nil_of_le jo];rfl,z.out⟩
end Ev

namespace Ss
open Go.Shelf Go.RowKit Go.Lib Go.Sort
variable {α:Type} [Inhabited α] {enc:α→List Value}
theorem FR(k:Nat)(hk2:k=3)(fv:Value)(blk off cap a m b:Nat)(d0 d:Array α)(w0 w:World)(R:RowK enc k w0 blk off d0)(hs:d.size=d0.size)(S:SWK enc k w0 blk off d w)(ham:a<m)(hmb:m<b)(hb:b≤d.size)(hsz:d.size<1099511627776) :
  Calls prog 177 #[.slice (some ⟨blk,off,none⟩) d.size cap,.int .i64 a,.int .i64 m,.int .i64 b,fv] w fun e w'=>
   e=.returned (.tuple #[])∧∃d',SWK enc k w0 blk off d' w'∧d'.size=d.size∧PermIn a b d d'∧∀x,d'[x]! = iE d a m b x:=by
 have I:Aside (SWK enc k w0 blk off d w):=S;have z:=zh hk2;have A:=zh hs;clear S hk2 hs;go_enter func177,ntmps177;go_wp2;go_loopw [10,11] (fun p q wr=>∃(i j:Nat) (g:Array α),0<i∧0<j∧a+i≤m∧m+j≤b∧p=.int .i64 (i:Nat)∧q=.int .i64 (j:Nat)∧Aside (SWK enc k w0 blk off g wr)∧g.size=d.size∧Hid (PermIn a b d g)∧Hid (∀x,iE g (m-i) m (m+j) x=iE d a m b x)) (fun p q _=>(intOf p).toNat+(intOf q).toNat)
 case atStart=>exact⟨m-a,b-m,d,jo,jo,jo,jo,ju,ju,I,rfl,zh (permIn_refl _ _ _),zh (fun x=>by rw[show m-(m-a)=a by omega,show m+(b-m)=b by omega])⟩
 clear I;obtain⟨i,j,g,L,J,M,N,rfl,rfl,r,c,s,t⟩:=hrel;by_cases y:i=j
 ·subst y;have E:¬((i:Int)≠(i:Int)):=jo;have P:IntKind.i64.wrap ((m:Int)-(i:Int))=((m-i:Nat):Int):=by rw[IntKind.wrap_i64];omega
  have u:(m:Int)-(i:Int)=((m-i:Nat):Int):=jo;have f:=sj k z.out fv blk off cap (m-i) m i d0 g w0 wr R (c.trans A.out) r.out jo jo jo;rw[c]at f;have n:=zh f;clear f r;go_wp2_with fail;try rw[u]
  refine n.out.mono ?_;rintro e v ⟨rfl,d',h,H,o,l⟩;have Fin:Hid (SWK enc k w0 blk off d' v∧d'.size=d.size∧PermIn a b d d'∧∀x,d'[x]! = iE d a m b x):=zh ⟨h,jo,permIn_trans _ _ _ _ _ s.out (permIn_mono _ _ _ _ _ _ jo jo jo o),fun x=>by rw[l,Mf _ _ _ jo,t.out]⟩;clear n h H o l s t;go_wp2
  go_end0
  exact⟨rfl,d',Fin.out⟩
 have E:(i:Int)≠(j:Int):=jo;by_cases C:j<i
 ·have D:(j:Int)<(i:Int):=jo;have u:(m:Int)-(i:Int)=((m-i:Nat):Int):=jo;have f:=sj k z.out fv blk off cap (m-i) m j d0 g w0 wr R (c.trans A.out) r.out jo jo jo;rw[c]at f;have n:=zh f;clear f r;go_wp2_with fail;try rw[u]
  refine n.out.mono ?_;rintro e v ⟨rfl,d',h,H,o,l⟩;have F:Aside (SWK enc k w0 blk off d' v):=h;have B:Hid (PermIn a b d d'):=zh (permIn_trans _ _ _ _ _ s.out (permIn_mono _ _ _ _ _ _ jo jo jo o));have G:Hid (∀x,iE d' (m-(i-j)) m (m+j) x=iE d a m b x):=zh (fun x=>by rw[Mc g d' m i j C jo l,t.out]);clear n h o l s t;go_wp2;go_roundw
  case rel=>exact⟨i-j,j,d',jo,jo,jo,jo,ju,ju,F,jo,B,G⟩
  simp[intOf];omega
 have D:¬(j:Int)<(i:Int):=jo;have u:(m:Int)-(i:Int)=((m-i:Nat):Int):=jo;have O:(m:Int)+(j:Int)-(i:Int)=((m+j-i:Nat):Int):=jo;have f:=sj k z.out fv blk off cap (m-i) (m+j-i) i d0 g w0 wr R (c.trans A.out) r.out jo jo jo;rw[c]at f;have n:=zh f;clear f r;go_wp2_with fail;try rw[u]
 try rw[O]
 refine n.out.mono ?_;rintro e v ⟨rfl,d',h,H,o,l⟩;have F:Aside (SWK enc k w0 blk off d' v):=h;have B:Hid (PermIn a b d d'):=zh (permIn_trans _ _ _ _ _ s.out (permIn_mono _ _ _ _ _ _ jo jo jo o));have G:Hid (∀x,iE d' (m-i) m (m+(j-i)) x=iE d a m b x):=zh (fun x=>by rw[Me g d' m i j jo jo l,t.out]);clear n h o l s t;go_wp2;go_roundw
 case rel=>exact⟨i,j-i,d',jo,jo,jo,jo,ju,ju,F,jo,B,G⟩
 simp[intOf];omega
end Ss

namespace Ss
open Go.Shelf Go.RowKit Go.Lib Go.Sort
variable {α:Type} [Inhabited α] {enc:α→List Value} {cf:α→α→Int} {tag:α→Nat}
def nO(enc:α→List Value)(cf:α→α→Int)(tag:α→Nat)(k:Nat)(w0:World)(blk off:Nat)(d:Array α)(a b:Nat)(e:Ending)(w':World):Prop:=
 e=.returned (.tuple #[])∧∃d',SWK enc k w0 blk off d' w'∧d'.size=d.size∧PermIn a b d d'∧Srt cf tag d' a b
set_option maxRecDepth 1000000 in
theorem JI(hW:SWO (ltOf cf))(k:Nat)(hk2:k=3)(g:Nat)(cb:Array Value)(blk off cap a m b:Nat)(hm:m=a+1)(d0 d:Array α)(w0 w:World)(eg:∀args w,(callFunc g args).run prog w=.ok (.enter g args) w)(hC:CmpLays prog g cb enc k cf blk off d0.size w0)
  (R:RowK enc k w0 blk off d0) (hs:d.size=d0.size) (S:SWK enc k w0 blk off d w) (hb:b≤d.size) (hab:a+1<b) (hsz:d.size<1099511627776) (hS2:Srt cf tag d (a+1) b) (hT:∀y,a+1≤y→y<b→tag d[a]!<tag d[y]!) :
  Calls prog 154 #[.slice (some ⟨blk,off,none⟩) d.size cap,.int .i64 a,.int .i64 m,.int .i64 b,.func (.func g) #[] cb] w (nO enc cf tag k w0 blk off d a b):=by
 have zE:∀w,(Go.sizeOf 48).run prog w=.ok k w:=by rw[hk2];exact Tryz.sizeOf48
 have L:prog.follows Departure.mixedOrders=true:=jk;have S0:Aside (SWK enc k w0 blk off d w):=S;have HC:Aside _:=hC;have z:=zh hs;have v:=zh hS2;have HT:=zh hT;have e1:(m:Int)-(a:Int)=1:=jo;have e2:((m:Int)-(a:Int)=1)=True:=eq_true e1;have ah:a+1≤m:=jo;have ac:m≤a+1:=jo;clear S hk2 hs hC hS2 hT hm;go_enter func154,ntmps154;go_wp2;go_loopw [10,11] (fun U vj wr=>∃(i j:Nat),m≤i∧i≤j∧j≤b∧U=.int .i64 (i:Nat)∧vj=.int .i64 (j:Nat)∧Aside (SWK enc k w0 blk off d wr)∧Hid (∀h,a+1≤h→h<i→bef cf tag d[h]! d[a]!)∧Hid (∀h,j≤h→h<b→bef cf tag d[a]! d[h]!)) (fun U vj _=>(intOf vj).toNat-(intOf U).toNat)
 case atStart=>exact⟨m,b,zG _,jo,zG _,rfl,rfl,S0,zh (fun h _ _=>jo),zh (fun h _ _=>jo)⟩
 clear S0;obtain⟨i,j,hi,ab,P,rfl,rfl,e,X,H2⟩:=hrel;by_cases af:i<j
 ·have ag:(i:Int)<(j:Int):=jo;have n1:(0:Int)≤((i:Int)+(j:Int))/2:=jo;have n2:((i:Int)+(j:Int))/2<(d.size:Int):=jo;have n3:(((i:Int)+(j:Int))/2).toNat=(i+j)/2:=jo;have n4:(a:Int)<(d.size:Int):=jo;have I:Aside (∀n W,SWK enc k w0 blk off d (grow (wr.drewN n) W)):=fun n W=>e.out.grown n W
  have M:=fun B o=>e.out.ld R z.out prog ((i+j)/2) jo B o
  have Z:=fun B o=>e.out.ld R z.out prog (a) jo B o
  have r:=fun B o=>e.out.cmp HC.out z.out d[(i+j)/2]! d[a]! B o
  have J:Hid (cf d[(i+j)/2]! d[a]!<0→∀h,a+1≤h→h<(i+j)/2+1→bef cf tag d[h]! d[a]!):=zh (fun hc h T p2=>v.out.step_l hW (y:=(i+j)/2) T jo jo (rT hc));have G:Hid (¬cf d[(i+j)/2]! d[a]!<0→∀h,(i+j)/2≤h→h<b→bef cf tag d[a]! d[h]!):=zh (fun hc h T p2=>v.out.step_r hW (x:=(i+j)/2) jo T p2 (rU (HT.out _ jo jo) hc));obtain⟨xp,q⟩:∃x,d[(i+j)/2]! = x:=⟨_,rfl⟩;obtain⟨xq,p⟩:∃x,d[a]! = x:=⟨_,rfl⟩;rw[q]at M;rw[p]at Z;rw[q,p]at r;rw[q,p]at J G;have A:Hid (d[(i+j)/2]! = xp∧d[a]! = xq):=zh ⟨q,p⟩;clear q p;clear e;by_cases C:cf xp xq<0
  ·have N1:Hid (∀h,a+1≤h→h<(i+j)/2+1→bef cf tag d[h]! d[a]!):=zh (by rw[A.out.2];exact J.out C);clear J G;go_wp2_with fail
   go_quiet_grown (first|(go_at_fn g;refine Calls.grown_of (r _ _)))
   have F:Aside (SWK enc k w0 blk off d (grow (wr.drewN nq) osq)):=I.out nq osq;generalize grow (wr.drewN nq) osq=w3 at F ⊢;clear M Z r I;go_wp2;go_roundw
   case rel=>exact⟨(i+j)/2+1,j,jo,jo,jo,ju,rfl,F,N1,H2⟩
   simp[intOf];omega
  have N2:Hid (∀h,(i+j)/2≤h→h<b→bef cf tag d[a]! d[h]!):=zh (by rw[A.out.2];exact G.out C);clear J G;go_wp2_with fail
  go_quiet_grown (first|(go_at_fn g;refine Calls.grown_of (r _ _)))
  have F:Aside (SWK enc k w0 blk off d (grow (wr.drewN nq) osq)):=I.out nq osq;generalize grow (wr.drewN nq) osq=w3 at F ⊢;clear M Z r I;go_wp2;go_roundw
  case rel=>exact⟨i,(i+j)/2,jo,jo,jo,rfl,ju,F,X,N2⟩
  simp[intOf];omega
 obtain rfl:i=j:=jo;have HF:Hid (∀d1:Array α,(∀x,d1[x]! = shL d a (i-1) x)→Srt cf tag d1 a b):=zh (fun d1 hd=>Kz hW jo P v.out X.out H2.out hd);clear X H2;go_wp2_with fail;go_loopw [13] (fun O wr=>∃(x:Nat) (c:Array α),a≤x∧x+1≤i∧O=.int .i64 (x:Nat)∧Aside (SWK enc k w0 blk off c wr)∧c.size=d.size∧Hid (PermIn a b d c)∧Hid (∀y,c[y]! = shL d a x y)) (fun O _=>i-(intOf O).toNat)
 case atStart=>exact⟨a,d,zG _,jo,rfl,e,rfl,zh (permIn_refl _ _ _),zh (fun y=>JG d a y)⟩
 clear e;obtain⟨x,c,V,ad,rfl,e,f,HP,A⟩:=hrel;by_cases ae:x+1<i
 ·have aa:(x:Int)<(i:Int)-1:=jo;have n0:(0:Int)≤(x:Int):=jo;have n1:(0:Int)≤(x:Int)+1:=jo;have n2:(x:Int)+1<(d.size:Int):=jo;have n3:(x:Int)<(d.size:Int):=jo;have n5:((x:Int)+1).toNat=x+1:=jo;have H:Aside (SWK enc k w0 blk off (swp c (x) (x+1)) ((wr.drew.setCells blk (off+(x)*k) (enc c[x+1]!)).setCells blk (off+(x+1)*k) (enc c[x]!))):=e.out.swapped R (x) (x+1) jo jo;have t:=e.out.ld1 R (f.trans z.out) prog (x) jo;have s:=e.out.ld1 R (f.trans z.out) prog (x+1) jo;have u:=e.out.st1 R (f.trans z.out) prog (x) jo c[x+1]!;have l:=e.out.st2 R (f.trans z.out) prog (x) (x+1) jo jo c[x+1]! c[x]!;have E:(enc c[x]!).length=k:=R.hk _;have D:(enc c[x+1]!).length=k:=R.hk _;have N:Hid (PermIn a b d (swp c x (x+1))):=zh (permIn_trans _ _ _ _ _ HP.out (swp_permIn c a b x (x+1) jo jo jo jo jo));have Y:Hid (∀y,(swp c x (x+1))[y]! = shL d a (x+1) y):=zh (JH V f jo A.out);generalize enc c[x]! = cI44 at H t l E;generalize enc c[x+1]! = cJ44 at H s u l D;clear e HP A;go_wp2_with fail
  go_big_region_o
  clear t s u l;generalize (wr.drew.setCells blk (off+(x)*k) cJ44).setCells blk (off+(x+1)*k) cI44=w2 at H ⊢;go_wp2;go_roundw
  case rel=>exact⟨x+1,swp c x (x+1),jo,jo,ju,H,by rw[size_swp];exact f,N,Y⟩
  simp[intOf];omega
 have aa:¬(x:Int)<(i:Int)-1:=jo;have Fin:=zh (HF.out c (by rw[show i-1=x by omega];exact A.out));go_wp2
 go_end0
 exact⟨rfl,c,e.out,f,HP.out,Fin.out⟩
set_option maxRecDepth 1000000 in
theorem JJ(hW:SWO (ltOf cf))(k:Nat)(hk2:k=3)(g:Nat)(cb:Array Value)(blk off cap a m b:Nat)(hm:b=m+1)(d0 d:Array α)(w0 w:World)(eg:∀args w,(callFunc g args).run prog w=.ok (.enter g args) w)(hC:CmpLays prog g cb enc k cf blk off d0.size w0)
  (R:RowK enc k w0 blk off d0) (hs:d.size=d0.size) (S:SWK enc k w0 blk off d w) (hb:b≤d.size) (hab:a+1<m) (hsz:d.size<1099511627776) (hS2:Srt cf tag d a m) (hT:∀y,a≤y→y<m→tag d[y]!<tag d[m]!) :
  Calls prog 154 #[.slice (some ⟨blk,off,none⟩) d.size cap,.int .i64 a,.int .i64 m,.int .i64 b,.func (.func g) #[] cb] w (nO enc cf tag k w0 blk off d a b):=by
 have zE:∀w,(Go.sizeOf 48).run prog w=.ok k w:=by rw[hk2];exact Tryz.sizeOf48
 have N:prog.follows Departure.mixedOrders=true:=jk;have S0:Aside (SWK enc k w0 blk off d w):=S;have HC:Aside _:=hC;have A:=zh hs;have z:=zh hS2;have HT:=zh hT;have e1:((m:Int)-(a:Int)=1)=False:=eq_false jo;have ag:((m:Int)-(a:Int)==1)=false:=jm;have e2:(b:Int)-(m:Int)=1:=jo;have aj:m+1≤b:=jo;have ae:b≤m+1:=jo;clear S hk2 hs hC hS2 hT hm;go_enter func154,ntmps154;go_wp2;go_loopw [14,15] (fun W vj wr=>∃(i j:Nat),a≤i∧i≤j∧j≤m∧W=.int .i64 (i:Nat)∧vj=.int .i64 (j:Nat)∧Aside (SWK enc k w0 blk off d wr)∧Hid (∀h,a≤h→h<i→bef cf tag d[h]! d[m]!)∧Hid (∀h,j≤h→h<m→bef cf tag d[m]! d[h]!)) (fun W vj _=>(intOf vj).toNat-(intOf W).toNat)
 case atStart=>exact⟨a,m,zG _,jo,zG _,rfl,rfl,S0,zh (fun h _ _=>jo),zh (fun h _ _=>jo)⟩
 clear S0;obtain⟨i,j,hi,ad,F,rfl,rfl,e,Y,H2⟩:=hrel;by_cases ah:i<j
 ·have ai:(i:Int)<(j:Int):=jo;have n1:(0:Int)≤((i:Int)+(j:Int))/2:=jo;have n2:((i:Int)+(j:Int))/2<(d.size:Int):=jo;have n3:(((i:Int)+(j:Int))/2).toNat=(i+j)/2:=jo;have n4:(m:Int)<(d.size:Int):=jo;have L:Aside (∀n X,SWK enc k w0 blk off d (grow (wr.drewN n) X)):=fun n X=>e.out.grown n X
  have P:=fun C o=>e.out.ld R A.out prog (m) jo C o
  have l2:=fun C o=>e.out.ld R A.out prog ((i+j)/2) jo C o
  have r:=fun C o=>e.out.cmp HC.out A.out d[m]! d[(i+j)/2]! C o
  have M:Hid (cf d[m]! d[(i+j)/2]!<0→∀h,(i+j)/2≤h→h<m→bef cf tag d[m]! d[h]!):=zh (fun hc h V p2=>z.out.step_r hW (x:=(i+j)/2) jo V p2 (rT hc));have I:Hid (¬cf d[m]! d[(i+j)/2]!<0→∀h,a≤h→h<(i+j)/2+1→bef cf tag d[h]! d[m]!):=zh (fun hc h V p2=>z.out.step_l hW (y:=(i+j)/2) V jo jo (rU (HT.out _ jo jo) hc));obtain⟨xp,q⟩:∃x,d[m]! = x:=⟨_,rfl⟩;obtain⟨O,p⟩:∃x,d[(i+j)/2]! = x:=⟨_,rfl⟩;rw[q]at P;rw[p]at l2;rw[q,p]at r;rw[q,p]at M I;have B:Hid (d[(i+j)/2]! = O∧d[m]! = xp):=zh ⟨p,q⟩;clear q p;clear e;by_cases v:cf xp O<0
  ·have N2:Hid (∀h,(i+j)/2≤h→h<m→bef cf tag d[m]! d[h]!):=zh (by rw[B.out.2];exact M.out v);clear M I;go_wp2_with fail
   go_quiet_grown (first|(go_at_fn g;refine Calls.grown_of (r _ _)))
   have H:Aside (SWK enc k w0 blk off d (grow (wr.drewN nq) osq)):=L.out nq osq;generalize grow (wr.drewN nq) osq=w3 at H ⊢;clear P l2 r L;go_wp2;go_roundw
   case rel=>exact⟨i,(i+j)/2,jo,jo,jo,rfl,ju,H,Y,N2⟩
   simp[intOf];omega
  have ac:decide (cf xp O<0)=false:=zN v;have N1:Hid (∀h,a≤h→h<(i+j)/2+1→bef cf tag d[h]! d[m]!):=zh (by rw[B.out.2];exact I.out v);clear M I;go_wp2_with fail
  go_quiet_grown (first|(go_at_fn g;refine Calls.grown_of (r _ _)))
  have H:Aside (SWK enc k w0 blk off d (grow (wr.drewN nq) osq)):=L.out nq osq;generalize grow (wr.drewN nq) osq=w3 at H ⊢;clear P l2 r L;go_wp2;go_roundw
  case rel=>exact⟨(i+j)/2+1,j,jo,jo,jo,ju,rfl,H,N1,H2⟩
  simp[intOf];omega
 obtain rfl:i=j:=jo;have HF:Hid (∀d1:Array α,(∀x,d1[x]! = shR d m i x)→Srt cf tag d1 a b):=zh (fun d1 hd=>by rw[show b=m+1 by omega];exact Bl hW hi F z.out Y.out H2.out hd);clear Y H2;go_wp2_with fail;go_loopw [17] (fun U wr=>∃(x:Nat) (c:Array α),i≤x∧x≤m∧U=.int .i64 (x:Nat)∧Aside (SWK enc k w0 blk off c wr)∧c.size=d.size∧Hid (PermIn a b d c)∧Hid (∀y,c[y]! = shR d m x y)) (fun U _=>(intOf U).toNat)
 case atStart=>exact⟨m,d,F,zG _,rfl,e,rfl,zh (permIn_refl _ _ _),zh (fun y=>BF d m y)⟩
 clear e;obtain⟨G,c,ak,aa,rfl,e,f,HP,B⟩:=hrel;by_cases af:i<G
 ·obtain⟨x,rfl⟩:∃x,G=x+1:=⟨G-1,jo⟩;have ab:(i:Int)<(x:Int)+1:=jo;have n0:(0:Int)≤(x:Int):=jo;have n1:(0:Int)≤(x:Int)+1:=jo;have n2:(x:Int)+1<(d.size:Int):=jo;have n3:(x:Int)<(d.size:Int):=jo;have n5:((x:Int)+1).toNat=x+1:=jo;have J:Aside (SWK enc k w0 blk off (swp c (x+1) (x)) ((wr.drew.setCells blk (off+(x+1)*k) (enc c[x]!)).setCells blk (off+(x)*k) (enc c[x+1]!))):=e.out.swapped R (x+1) (x) jo jo;have t:=e.out.ld1 R (f.trans A.out) prog (x+1) jo;have s:=e.out.ld1 R (f.trans A.out) prog (x) jo;have u:=e.out.st1 R (f.trans A.out) prog (x+1) jo c[x]!;have l:=e.out.st2 R (f.trans A.out) prog (x+1) (x) jo jo c[x]! c[x+1]!;have E:(enc c[x+1]!).length=k:=R.hk _;have D:(enc c[x]!).length=k:=R.hk _;have T:Hid (PermIn a b d (swp c (x+1) x)):=zh (permIn_trans _ _ _ _ _ HP.out (swp_permIn c a b (x+1) x jo jo jo jo jo));have Z:Hid (∀y,(swp c (x+1) x)[y]! = shR d m x y):=zh (BG aa f jo B.out);generalize enc c[x+1]! = cI44 at J t l E;generalize enc c[x]! = cJ44 at J s u l D;clear e HP B;go_wp2_with fail
  go_big_region_o
  clear t s u l;generalize (wr.drew.setCells blk (off+(x+1)*k) cJ44).setCells blk (off+(x)*k) cI44=w2 at J ⊢;go_wp2;go_roundw
  case rel=>exact⟨x,swp c (x+1) x,jo,jo,by first|rfl|go_num|(congr 1;omega),J,by rw[size_swp];exact f,T,Z⟩
  first|(simp[intOf];done)|(simp[intOf];omega)
 have ab:¬(i:Int)<(G:Int):=jo;have Fin:=zh (HF.out c (by rw[show i=G by omega];exact B.out));go_wp2
 go_end0
 exact⟨rfl,c,e.out,f,HP.out,Fin.out⟩
end Ss

namespace Ss
open Go.Sort Go.Proofs
variable {α:Type} [Inhabited α] {cf:α→α→Int} {tag:α→Nat}
def Tgb(tag:α→Nat)(d:Array α)(B n:Nat):Prop:=∀c x y,x<c*B→c*B≤y→y<n→tag d[x]!<tag d[y]!
def Sb(cf:α→α→Int)(tag:α→Nat)(d:Array α)(B n:Nat):Prop:=∀c,Srt cf tag d (c*B) (min ((c+1)*B) n)
theorem Tgb.perm{d d':Array α}{B n a b:Nat}(hT:Tgb tag d B n)(hb:b≤d.size)(hin:∀c,c*B≤a∨b≤c*B)(P:PermIn a b d d')(hbn:b≤n):Tgb tag d' B n:=by
 intro c x y m p l;have r:=hin c;have hT:=hT c;generalize c*B=q at *
 have k:∀e,e<q→tag d[e]!<tag d'[y]!:=fun e f=>by
  by_cases g:a≤y∧y<b
  ·exact permIn_all d d' a b (fun z=>tag d[e]!<tag z) hb P (fun i o j=>hT e i f jo jo) y g.1 g.2
  rw[P.2.1 y jo];exact hT e y f p l
 by_cases h:a≤x∧x<b
 ·exact permIn_all d d' a b (fun z=>tag z<tag d'[y]!) hb P (fun i o j=>k i jo) x h.1 h.2
 rw[P.2.1 x jo];exact k x m
theorem Tgb.twice{d:Array α}{B n:Nat}(h:Tgb tag d B n):Tgb tag d (2*B) n:=fun c x y b a f=>by
 have e:c*(2*B)=(c*2)*B:=(Nat.mul_assoc c 2 B).symm;rw[e]at b a;exact h (c*2) x y b a f
structure Ph (cf:α→α→Int) (tag:α→Nat) (d0 dB dk:Array α) (B n c:Nat):Prop where
 hs:dk.size=d0.size
 hBs:dB.size=d0.size
 hn:n≤d0.size
 P:PermIn 0 n d0 dk
 T:Tgb tag dk (2*B) n
 S:∀c'<c,Srt cf tag dk (c'*(2*B)) ((c'+1)*(2*B))
 K:∀x,c*(2*B)≤x→dk[x]! = dB[x]!
 TB:Tgb tag dB B n
 SB:Sb cf tag dB B n
theorem Ph.start{d0 dB:Array α}{B n:Nat}(hBs:dB.size=d0.size)(hn:n≤d0.size)(P:PermIn 0 n d0 dB)(T:Tgb tag dB B n)(S:Sb cf tag dB B n):Ph cf tag d0 dB dB B n 0:=
 ⟨hBs,hBs,hn,P,T.twice,fun a h=>jo,fun _ _=>rfl,T,S⟩
theorem Db(c B:Nat):(c*2)*B=c*(2*B):=Nat.mul_assoc c 2 B
theorem qP(c B:Nat):(c*2+1)*B=c*(2*B)+B:=by rw[Nat.add_mul,Nat.mul_assoc,Nat.one_mul]
theorem mg(c B:Nat):(c+1)*(2*B)=c*(2*B)+2*B:=by rw[Nat.add_mul,Nat.one_mul]
theorem Ph.wants{d0 dB dk:Array α}{B n c a b:Nat}(h:Ph cf tag d0 dB dk B n c)(ha:a=c*(2*B))(hb:b=min (a+2*B) n)(hm:a+B<n):Srt cf tag dk a (a+B)∧Srt cf tag dk (a+B) b∧Tg tag dk a (a+B) b:=by
 have f:=h.SB (c*2);have g:=h.SB (c*2+1);have i:=h.TB (c*2+1);have l:(c*2+1+1)*B=c*(2*B)+2*B:=by rw[Nat.add_mul,qP];omega
 rw[qP,Db,←ha]at f;rw[l,qP,←ha]at g;rw[qP,←ha]at i;have K:=h.K;rw[←ha]at K;have k:b≤n:=jo;refine⟨(f.sub (zG _) jo).keep (fun x d e=>K x d),(g.sub (zG _) jo).keep (fun x d e=>K x jo),fun x y d e j m=>?_⟩;rw[K x d,K y jo];exact i x y e j jo
theorem Ph.next{d0 dB dk d':Array α}{B n c a:Nat}(h:Ph cf tag d0 dB dk B n c)(ha:a=c*(2*B))(hb:a+2*B≤n)(P:PermIn a (a+2*B) dk d')(S:Srt cf tag d' a (a+2*B)):Ph cf tag d0 dB d' B n (c+1):=by
 have j:=h.hs;have f:=h.hn;refine⟨P.1.trans j,h.hBs,f,permIn_trans _ _ _ _ _ h.P (permIn_mono _ _ _ _ _ _ jo jo jo P),h.T.perm jo (fun b=>?_) P jo,fun b i=>?_,fun x d=>?_,h.TB,h.SB⟩
 ·rcases Nat.lt_or_ge c b with g|g
  ·refine .inr ?_;have:=Nat.mul_le_mul_right (2*B) (show c+1≤b from g);rw[mg,←ha]at this;exact this
  exact .inl (by rw[ha];exact Nat.mul_le_mul_right _ g)
 ·rcases Nat.lt_or_ge b c with g|g
  ·have e:=Nat.mul_le_mul_right (2*B) (show b+1≤c from g);rw[←ha]at e;exact(h.S b g).keep (fun x l k=>P.2.1 x (.inl jo))
  obtain rfl:b=c:=jo;rw[mg,←ha];exact S
 rw[mg,←ha]at d;rw[P.2.1 x (.inr d)];exact h.K x (by rw[←ha];omega)
theorem Ph.last{d0 dB dk d':Array α}{B n c a:Nat}(h:Ph cf tag d0 dB dk B n c)(ha:a=c*(2*B))(hb:n<a+2*B)(hm:a+B<n)(P:PermIn a n dk d')(S:Srt cf tag d' a n):d'.size=d0.size∧PermIn 0 n d0 d'∧Tgb tag d' (2*B) n∧Sb cf tag d' (2*B) n:=by
 have d:=h.hs;have j:=h.hn;refine⟨P.1.trans d,permIn_trans _ _ _ _ _ h.P (permIn_mono _ _ _ _ _ _ jo jo jo P),h.T.perm jo (fun b=>?_) P jo,fun b=>?_⟩
 ·rcases Nat.lt_or_ge c b with g|g
  ·refine .inr ?_;have:=Nat.mul_le_mul_right (2*B) (show c+1≤b from g);rw[mg,←ha]at this;omega
  exact .inl (by rw[ha];exact Nat.mul_le_mul_right _ g)
 rcases Nat.lt_trichotomy b c with g|g|g
 ·have e:=Nat.mul_le_mul_right (2*B) (show b+1≤c from g);rw[←ha]at e;exact((h.S b g).keep (fun x i f=>P.2.1 x (.inl jo))).sub (zG _) jo
 ·subst g;rw[mg,←ha];exact S.sub (zG _) jo
 have:=Nat.mul_le_mul_right (2*B) (show c+1≤b from g);rw[mg,←ha]at this;exact Srt.one _ jo
theorem Ph.done{d0 dB dk:Array α}{B n c a:Nat}(h:Ph cf tag d0 dB dk B n c)(ha:a=c*(2*B))(hm:n≤a+B):dk.size=d0.size∧PermIn 0 n d0 dk∧Tgb tag dk (2*B) n∧Sb cf tag dk (2*B) n:=by
 refine⟨h.hs,h.P,h.T,fun b=>?_⟩;rcases Nat.lt_trichotomy b c with g|g|g
 ·exact(h.S b g).sub (zG _) jo
 ·subst g;have d:=h.SB (b*2);rw[qP,Db,←ha]at d;rw[mg,←ha];have K:=h.K;rw[←ha]at K;exact(d.sub (zG _) jo).keep (fun x e f=>K x e)
 have:=Nat.mul_le_mul_right (2*B) (show c+1≤b from g);rw[mg,←ha]at this;exact Srt.one _ jo
theorem Sb.whole{d:Array α}{B n:Nat}(h:Sb cf tag d B n)(hB:n≤B):Srt cf tag d 0 n:=by
 have:=h 0;rw[Nat.zero_mul,Nat.zero_add,Nat.one_mul]at this;exact this.sub (zG _) jo
structure Pi (cf:α→α→Int) (tag:α→Nat) (d0 dk:Array α) (B n c:Nat):Prop where
 hs:dk.size=d0.size
 hn:n≤d0.size
 P:PermIn 0 n d0 dk
 T:Tgb tag dk B n
 S:∀c'<c,Srt cf tag dk (c'*B) ((c'+1)*B)
 K:∀x,c*B≤x→dk[x]! = d0[x]!
 O:∀x y,x<y→y<n→tag d0[x]!<tag d0[y]!
theorem Pi.start{d0:Array α}{B n:Nat}(hn:n≤d0.size)(O:∀x y,x<y→y<n→tag d0[x]!<tag d0[y]!):Pi cf tag d0 d0 B n 0:=
 ⟨rfl,hn,permIn_refl _ _ _,fun c x y d b hn=>O x y jo hn,fun a h=>jo,fun _ _=>rfl,O⟩
theorem Pi.next{d0 dk d':Array α}{B n c a:Nat}(h:Pi cf tag d0 dk B n c)(ha:a=c*B)(hb:a+B≤n)(P:PermIn a (a+B) dk d')(S:Srt cf tag d' a (a+B)):Pi cf tag d0 d' B n (c+1):=by
 have k:=h.hs;have i:=h.hn;have d:(c+1)*B=a+B:=by rw[Nat.add_mul,Nat.one_mul,ha]
 refine⟨P.1.trans k,i,permIn_trans _ _ _ _ _ h.P (permIn_mono _ _ _ _ _ _ jo jo jo P),h.T.perm jo (fun b=>?_) P jo,fun b j=>?_,fun x f=>?_,h.O⟩
 ·rcases Nat.lt_or_ge c b with g|g
  ·refine .inr ?_;have:=Nat.mul_le_mul_right B (show c+1≤b from g);rw[d]at this;exact this
  exact .inl (by rw[ha];exact Nat.mul_le_mul_right _ g)
 ·rcases Nat.lt_or_ge b c with g|g
  ·have e:=Nat.mul_le_mul_right B (show b+1≤c from g);rw[←ha]at e;exact(h.S b g).keep (fun x m l=>P.2.1 x (.inl jo))
  obtain rfl:b=c:=jo;rw[d,←ha];exact S
 rw[d]at f;rw[P.2.1 x (.inr f)];exact h.K x (by rw[←ha];omega)
theorem Pi.last{d0 dk d':Array α}{B n c a:Nat}(h:Pi cf tag d0 dk B n c)(ha:a=c*B)(hb:n<a+B)(han:a≤n)(P:PermIn a n dk d')(S:Srt cf tag d' a n):d'.size=d0.size∧PermIn 0 n d0 d'∧Tgb tag d' B n∧Sb cf tag d' B n:=by
 have f:=h.hs;have k:=h.hn;have d:(c+1)*B=a+B:=by rw[Nat.add_mul,Nat.one_mul,ha]
 refine⟨P.1.trans f,permIn_trans _ _ _ _ _ h.P (permIn_mono _ _ _ _ _ _ jo jo jo P),h.T.perm jo (fun b=>?_) P jo,fun b=>?_⟩
 ·rcases Nat.lt_or_ge c b with g|g
  ·refine .inr ?_;have:=Nat.mul_le_mul_right B (show c+1≤b from g);rw[d]at this;omega
  exact .inl (by rw[ha];exact Nat.mul_le_mul_right _ g)
 rcases Nat.lt_trichotomy b c with g|g|g
 ·have e:=Nat.mul_le_mul_right B (show b+1≤c from g);rw[←ha]at e;exact((h.S b g).keep (fun x j i=>P.2.1 x (.inl jo))).sub (zG _) jo
 ·subst g;rw[d,←ha];exact S.sub (zG _) jo
 have:=Nat.mul_le_mul_right B (show c+1≤b from g);rw[d]at this;exact Srt.one _ jo
theorem Pi.tags{d0 dk:Array α}{B n c a:Nat}(h:Pi cf tag d0 dk B n c)(ha:a=c*B){x y:Nat}(hx:a≤x)(hxy:x<y)(hy:y<n):tag dk[x]!<tag dk[y]!:=by
 have K:=h.K;rw[←ha]at K;rw[K x hx,K y jo];exact h.O x y hxy hy
theorem Eg{d d':Array α}{a b i:Nat}(P:PermIn a b d d')(hai:a≤i)(K:∀x,i≤x→d'[x]! = d[x]!)(hib:i≤b)(hb:b≤d.size):PermIn a i d d':=by
 refine⟨P.1,fun x hx=>?_,?_⟩
 ·rcases hx with hx|hx
  ·exact P.2.1 x (.inl hx)
  exact K x hx
 have j:=P.1
 have e:∀(c:Array α),b≤c.size→(c.extract a b).toList=(c.extract a i).toList++(c.extract i b).toList:=fun c l=>by
  rw[←Array.toList_append,Array.extract_append_extract];congr 2<;>omega
 have h:(d'.extract i b).toList=(d.extract i b).toList:=by
  refine List.ext_getElem (by simp[j]) (fun x k g=>?_);have hx:i+x<d.size:=by simp at g;omega
  have:=K (i+x) jo;rw[getElem!_pos d' (i+x) jo,getElem!_pos d (i+x) hx]at this
  simpa using this
 have f:=P.2.2;rw[e d' jo,e d hb,h]at f;exact(List.perm_append_right_iff _).1 f
theorem K4(hW:SWO (ltOf cf)){di dj:Array α}{a i j:Nat}(haj:a≤j)(hji:j≤i)(S:Srt cf tag di a i)(hT:∀h,a≤h→h<i→tag di[h]!<tag di[i]!)(hX:∀x,dj[x]! = shR di i j x)(hG:∀h,j≤h→h<i→bef cf tag di[i]! di[h]!)(hstop:j≤a∨¬cf di[i]! di[j-1]!<0):Srt cf tag dj a (i+1):=by
 refine Bl hW haj hji S (fun h b c=>?_) hG hX;rcases hstop with g|g
 ·omega
 exact S.step_l hW (y:=j-1) b jo jo (rU (hT (j-1) jo jo) g)
end Ss

namespace Cu
open Cr
def be(s n:Nat):List UInt8:=(List.range s).map fun j=>UInt8.ofNat (n/2 ^ (8*(s-1-j)))
def pre(a:Nat)(q:List UInt8):List UInt8:=[76,67,1]++be 8 a++be 2 q.length++q
def enc(a:Nat)(q:List UInt8):List UInt8:=pre a q++le4 (crc (pre a q))
theorem iP(s n:Nat):(be s n).length=s:=by simp[be]
theorem Bw(s n k:Nat)(h:k<s):(be s n).take (k+1)=(be s n).take k ++ [UInt8.ofNat (n/2 ^ (8*(s-1-k)))]:=by
 rw[List.take_succ_eq_append_getElem (by rw[iP];exact h)];congr 1;simp[be]
theorem vD(n:Nat):(le4 n).length=4:=rfl
theorem vE(a:Nat)(q:List UInt8):(pre a q).length=q.length+13:=by
 simp[pre,iP];omega
theorem nI(a:Nat)(q:List UInt8):(enc a q).length=q.length+17:=by
 unfold enc;rw[List.length_append,vE,vD]
def num(l:List UInt8):Nat:=l.foldl (fun u c=>u*256+c.toNat) 0
theorem BO(l:List UInt8)(c:UInt8):num (l ++ [c])=num l*256+c.toNat:=by unfold num;rw[List.foldl_append];rfl
theorem rY(l:List UInt8):num l<256 ^ l.length:=by
 have h:∀(l:List UInt8) (u n:Nat),u<256 ^ n→l.foldl (fun u c=>u*256+c.toNat) u<256 ^ (n+l.length):=by
  intro l
  induction l with
  | nil=>intro u n h;exact h
  | cons c l ih=>
   intro u n h;have a:=c.toNat_lt;have:=ih (u*256+c.toNat) (n+1) (by rw[Nat.pow_succ];omega);rw[List.length_cons,show n+(l.length+1)=n+1+l.length by omega];exact this
 have:=h l 0 0 jz
 rwa[Nat.zero_add]at this
theorem u8n(k:Nat):(UInt8.ofNat k).toNat=k%256:=UInt8.toNat_ofNat'
theorem LM(n:Nat)(h:n<65536):num (be 2 n)=n:=by
 have e:be 2 n=[UInt8.ofNat (n/256),UInt8.ofNat n]:=by simp[be,List.range,List.range.loop]
 rw[e];unfold num;simp only[List.foldl_cons,List.foldl_nil,u8n];omega
theorem LN(n:Nat)(h:n<18446744073709551616):num (be 8 n)=n:=by
 have e:be 8 n=[UInt8.ofNat (n/72057594037927936),UInt8.ofNat (n/281474976710656),UInt8.ofNat (n/1099511627776),UInt8.ofNat (n/4294967296),UInt8.ofNat (n/16777216),UInt8.ofNat (n/65536),UInt8.ofNat (n/256),UInt8.ofNat n]:=by
  simp[be,List.range,List.range.loop]
 rw[e];unfold num;simp only[List.foldl_cons,List.foldl_nil,u8n];omega
def aOf(L:List UInt8):Nat:=num ((L.drop 3).take 8)
def nOf(L:List UInt8):Nat:=num ((L.drop 11).take 2)
def qOf(L:List UInt8):List UInt8:=(L.drop 13).take (nOf L)
def mq(L:List UInt8):List UInt8:=(L.drop 13).take (L.length-17)
theorem vF(a:Nat)(q:List UInt8):enc a q=[76,67,1]++(be 8 a++(be 2 q.length++(q++le4 (crc (pre a q))))):=by
 unfold enc;generalize le4 (crc (pre a q))=z;simp[pre]
theorem vG(a:Nat)(q:List UInt8)(h:a<18446744073709551616):aOf (enc a q)=a:=by
 unfold aOf;rw[vF,show (3:Nat)=([76,67,1]:List UInt8).length from rfl,List.drop_left];rw[List.take_left' (iP 8 a)];exact LN a h
theorem Fj(a:Nat)(q:List UInt8):(enc a q).drop 11=be 2 q.length++(q++le4 (crc (pre a q))):=by
 rw[vF,←List.append_assoc,show (11:Nat)=([76,67,1]++be 8 a:List UInt8).length by rw[List.length_append,iP];rfl,List.drop_left]
theorem yV(a:Nat)(q:List UInt8):(enc a q).drop 13=q++le4 (crc (pre a q)):=by
 rw[vF,←List.append_assoc,←List.append_assoc,show (13:Nat)=([76,67,1]++be 8 a++be 2 q.length:List UInt8).length by rw[List.length_append,List.length_append,iP,iP];rfl,List.drop_left]
theorem LO(a:Nat)(q:List UInt8)(h:q.length<65536):nOf (enc a q)=q.length:=by
 unfold nOf;rw[Fj,List.take_left' (iP 2 _)];exact LM _ h
theorem vW(a:Nat)(q:List UInt8)(h:q.length<65536):qOf (enc a q)=q:=by
 unfold qOf;rw[LO a q h,yV,List.take_left]
theorem Jd(a:Nat)(q:List UInt8):mq (enc a q)=q:=by
 unfold mq;rw[nI,yV,show q.length+17-17=q.length by omega,List.take_left]
theorem enc_inj{a a':Nat}{q q':List UInt8}(ha:a<18446744073709551616)(ha':a'<18446744073709551616)(hq:q.length<65536)(hq':q'.length<65536)(h:enc a q=enc a' q'):a=a'∧q=q':=
 ⟨by rw[←vG a q ha,h,vG a' q' ha'],by rw[←vW a q hq,h,vW a' q' hq']⟩
end Cu

namespace Tk
open Go.RowKit Ut
theorem Mw(ws:List (List UInt8))(k:Nat)(h:k<ws.length):(sv ws)[k]?=some (.string (str ws[k])):=by simp[sv,zU h]
def ct(n:Nat)(s:ByteArray):ByteArray:=s.extract 0 (min s.size n)
end Tk

namespace Qy
open Go.RowKit Ut Tk
def kg(f:ByteArray × ByteArray):ByteArray × ByteArray:=(f.1,ct 300 f.2)
theorem lU:(prog.info? 48).map (fun i=>(i.zero,i.size,i.bytes))=some (some (.agg #[.int .i64 0,.int .i64 0,.slice none 0 0]),3,40):=by kernel_rfl
theorem uS:(prog.info? 85).map (fun i=>(i.zero,i.size,i.bytes))=some (some (.agg #[.string ByteArray.empty,.string ByteArray.empty]),2,32):=by kernel_rfl
theorem qU(w:World)(h o:Nat)(u:Value):w.grownBy (w.setCell ⟨h,o,none⟩ u) (some h):=
 ⟨rfl,rfl,rfl,by simp[World.setCell],fun k _ a=>vN _ _ _ _ (fun e=>a (by rw[e]))⟩
theorem fP{w:World}{base:Nat}{e:TypeId}{size n:Nat}{v:Value}{xs:List Value}(h:w.ownsRow base e size v n xs) :
  ∃A c,v=.slice A n c∧Reads w w.heap.size size A n xs∧n≤c∧(A=none→c=0)∧(0<n→∃g,A=some ⟨g,0,none⟩∧∃cur,w.heap[g]?=some (.cells cur e (0,0))):=by
 obtain⟨A,c,rfl,b⟩:=fT h;refine⟨A,c,rfl,b,?_⟩;rcases h.2 with⟨a,j⟩|⟨g,f,cur,a,_,i,d,_⟩
 ·injection a with _ _ hc;exact⟨jo,fun _=>hc,fun h=>jo⟩
 injection a with hA _ hc;exact⟨jo,fun e=>(by rw[hA]at e;cases e),fun _=>⟨g,hA,cur,i⟩⟩
structure Flds (wo wq:World) (pd:Nat) (s a:Int) (fs:List (ByteArray × ByteArray)):Prop where
 ex:∃v,Blk wq pd 48 #[.int .i64 s,.int .i64 a,v]∧wq.ownsRow (wo.heap.size+1) 85 2 v fs.length (fJ fs)
 bel:zWW wo wq
 ge:pd=wo.heap.size
end Qy

namespace Cu
open Go.RowKit Qy
def sel(a k:Int)(ds:List Dc):List Dc:=ds.filter fun d=>decide (a<d.seq)&&decide (d.seq≤k)
def iY(a k l:Int)(ds:List Dc):List Dc:=(sel a k ds).take l.toNat
def gU(a:Int)(out:List Dc):Int:=out.foldl (fun m d=>max m d.seq) a
def gV(a k l:Int)(ds:List Dc):List Dc × Int:=
 if l<1 then([],a)else(iY a k l ds,if((iY a k l ds).length:Int)<l then max a k else gU a (iY a k l ds))
theorem yd(a:Int)(out:List Dc)(d:Dc):gU a (out ++ [d])=max (gU a out) d.seq:=by unfold gU;rw[List.foldl_append];rfl
theorem wA(a k:Int)(xs ys:List Dc):sel a k (xs++ys)=sel a k xs++sel a k ys:=List.filter_append ..
theorem Bz(a k:Int)(ds:List Dc)(i:Nat)(h:i<ds.length)(h1:a<ds[i].seq)(h2:ds[i].seq≤k):sel a k (ds.take (i+1))=sel a k (ds.take i) ++ [ds[i]]:=by
 rw[zL h,wA];congr 1;simp[sel,h1,h2]
theorem DI(a k:Int)(ds:List Dc)(i:Nat)(h:i<ds.length)(h1:¬(a<ds[i].seq∧ds[i].seq≤k)):sel a k (ds.take (i+1))=sel a k (ds.take i):=by
 rw[zL h,wA]
 have:sel a k [ds[i]]=[]:=by
  unfold sel;rw[List.filter_cons_of_neg (by simpa using h1)];rfl
 rw[this,List.append_nil]
theorem B0(a k:Int)(ds:List Dc):(sel a k ds).length≤ds.length:=List.length_filter_le ..
theorem BS{a k l:Int}(ds:List Dc)(h:l<1):gV a k l ds=([],a):=by unfold gV;rw[zI h]
theorem uZ{a k l:Int}{ds:List Dc}(i:Nat)(h1:¬l<1)(h:((sel a k (ds.take i)).length:Int)=l):gV a k l ds=(sel a k (ds.take i),gU a (sel a k (ds.take i))):=by
 have e:iY a k l ds=sel a k (ds.take i):=by
  unfold iY
  conv=>lhs;rw[←List.take_append_drop i ds]
  rw[wA,List.take_left' jo]
 unfold gV;rw[zH h1,e,zH jo]
theorem CG{a k l:Int}{ds:List Dc}(i:Nat)(h1:¬l<1)(hi:ds.length≤i)(h:((sel a k (ds.take i)).length:Int)<l):gV a k l ds=(sel a k (ds.take i),max a k):=by
 rw[zR hi]at h ⊢
 have e:iY a k l ds=sel a k ds:=by
  unfold iY;rw[zR jo]
 unfold gV;rw[zH h1,e,zI h]
section
variable {w wr w2:World} {v v':Value} {ds:List Dc}
theorem ub(h:DocsOwn w wr v ds){g:Nat}{t:TypeId}{cs:Array Value}(hB:Blk wr g t cs)(ht:t≠48):some g≠v.ownBlock:=by
 intro e;obtain⟨i,k,d,j⟩:=h.ex;obtain⟨_,c,f⟩:=AC d g e.symm;exact(Blk.ne_ (g:=g) hB (show Blk wr g 48 c from f) ht) rfl
theorem qD(h:DocsOwn w wr v ds){g:Nat}{cs:Array Value}(hB:Blk wr g 122 cs)(hg:w.heap.size≤g)(o:Nat)(u:Value):DocsOwn w (wr.setCell ⟨g,o,none⟩ u) v ds:=by
 have n:=ub h hB jd;obtain⟨B,U,T,N⟩:=h.ex;have s:∀b,b≠g→(wr.setCell ⟨g,o,none⟩ u).heap[b]?=wr.heap[b]?:=fun b W=>vN wr ⟨g,o,none⟩ u b W
 refine⟨⟨B,U,T.kept (qU wr g o u) ?_,fun i a b=>?_⟩,h.bel.setCell (p:=⟨g,o,none⟩) hg _⟩
 ·cases C:v.ownBlock with
  | none=>exact .inl rfl
  | some k=>exact .inr (fun e=>n (by rw[C];exact e.symm))
 obtain⟨S,M⟩:=N i a b;obtain⟨F,G,H,e,J,O⟩:=S
 have x:∀f m,F=some ⟨f,m,none⟩→0<G→f≠g:=fun f m t l D=>by
  obtain⟨y,L,d,c⟩:=M F G H (by rw[e];rfl) l;rw[t]at d;injection d with d;injection d with d _;subst d D;rcases c with c|⟨r,I,c⟩
  ·omega
  unfold Blk at hB;rw[hB]at c;injection c with c;injection c with _ c;exact absurd c jd
 refine⟨⟨F,G,H,e,⟨J.1,fun l=>?_⟩,O⟩,?_⟩
 ·obtain⟨f,m,t,z,c⟩:=J.2 l;refine⟨f,m,t,by simpa[World.setCell]using z,fun j R P=>?_⟩;rw[vP (w:=wr) (s f (x f m t l))];exact c j R P
 intro V E A C l;obtain⟨y,L,d,c⟩:=M V E A C l;refine⟨y,L,d,?_⟩;rcases c with c|⟨r,I,c⟩
 ·exact .inl c
 refine .inr ⟨r,I,?_⟩;rw[s y (fun D=>?_)]
 ·exact c
 subst D;unfold Blk at hB;rw[hB]at c;injection c with c;injection c with _ c;exact absurd c jd
end
structure Fol (w wr:World) (a:Int) (q:ByteArray) (v:Value) (out:List Dc):Prop where
 box:Blk wr w.heap.size 122 #[.int .i64 a,.string q]
 res:Blk wr (w.heap.size+1) 122 #[.int .i64 0,.string ⟨#[]⟩]
 own:DocsOwn w wr v out
section
variable {w wr w2:World} {a b:Int} {q:ByteArray} {v v':Value} {out:List Dc}
theorem Fol.alloc(h:Fol w wr a q v out)(o:Obj):Fol w (wr.alloc o) a q v out:=⟨h.box.alloc o,h.res.alloc o,h.own.below (zRR _)⟩
theorem Fol.below(h:Fol w wr a q v out)(hb:zWW wr w2):Fol w w2 a q v out:=⟨h.box.below hb h.box.lt,h.res.below hb h.res.lt,h.own.below hb⟩
theorem Fol.drew(h:Fol w wr a q v out):Fol w wr.drew a q v out:=h.below (zy _ _).drew
theorem Fol.after(h:Fol w wr a q v out)(b:Int):Fol w (wr.setCell ⟨w.heap.size,0,none⟩ (.int .i64 b)) b q v out:=
 ⟨by have:=h.box.set_ 0 (.int .i64 b);simpa using this,h.res.far jz _,qD h.own h.box (zG _) 0 _⟩
theorem Fol.put{d:Dc}{u:List Value}{xs:List Value}(h:Fol w wr a q v out)(hx:∃vss:List (List Value),vss.length=out.length∧wr.ownsRow w.heap.size 48 3 v out.length vss.flatten∧(∀i (h:i<out.length) (h':i<vss.length),DcV wr wr.heap.size out[i] vss[i]∧Far wr w.heap.size vss[i])∧xs=vss.flatten)
  (hp:w2.ownsRow w.heap.size 48 3 v' (out.length+1) (xs++u)) (hg:wr.grownBy w2 v.ownBlock) (hd:DcV wr wr.heap.size d u) (hf:Far wr w.heap.size u):Fol w w2 a q v' (out ++ [d]):=
 ⟨h.box.grown hg (ub h.own h.box jd),h.res.grown hg (ub h.own h.res jd),h.own.put hx hp hg hd hf⟩
theorem Fol.done(h:Fol w wr a q v out):Blk ((wr.drew.setCell ⟨w.heap.size+1,0,none⟩ (.int .i64 a)).setCell ⟨w.heap.size+1,1,none⟩ (.string q)) (w.heap.size+1) 122 #[.int .i64 a,.string q] ∧
  DocsOwn w ((wr.drew.setCell ⟨w.heap.size+1,0,none⟩ (.int .i64 a)).setCell ⟨w.heap.size+1,1,none⟩ (.string q)) v out:=by
 have c:=h.drew.res.set_ 0 (.int .i64 a);have d:=c.set_ 1 (.string q);refine⟨by simpa using d,qD (qD h.drew.own h.drew.res (zZ _) 0 _) c (zZ _) 1 _⟩
end
def Dh(w:World)(p:List Dc × Int)(q:ByteArray)(e:Ending)(w':World):Prop:=∃v,e=.returned (.tuple #[v,.agg #[.int .i64 p.2,.string q]])∧DocsOwn w w' v p.1
theorem nU{fn:Func}{p1 p2:Tmp}(hf:fn.results=#[.tmp p1,.cell p2 122]){tmps:Array Value}{W:World}{b1:Nat}{a0 a1 v:Value}(h1:tmps.getD p1 undef=v)(h2:tmps.getD p2 undef=.pointer (some ⟨b1,0,none⟩))(B1:Blk W b1 122 #[a0,a1]) :
  (results fn tmps).run prog W=.ok (.tuple #[v,.agg #[a0,a1]]) W:=by
 have e:=zv (P:=prog) W b1 122 122 #[a0,a1] (0,0) _ B1 underlying122 rfl jk;have d:tmps[p1]?.getD undef=v:=by simpa using h1
 have c:tmps[p2]?.getD undef=.pointer (some ⟨b1,0,none⟩):=by simpa using h2
 simp[results,hf,d,c,asAddr,e]
end Cu

namespace Hi
open Go.RowKit
def Bks(w:World)(B:Nat)(v:Value)(l:List Bk):Prop:=
 (v=.slice none 0 0∧l=[])∨∃b o c,v=.slice (some ⟨b,o,none⟩) l.length c∧l.length≤c∧Reads w B 2 (some ⟨b,o,none⟩) l.length (bkC l)
theorem Bks.of_own{w:World}{base:Nat}{v:Value}{l:List Bk}(h:OwnB w base v l):Bks w w.heap.size v l:=by
 rcases h.2 with⟨rfl,d⟩|⟨g,a,c,rfl,_,_,b,_⟩
 ·exact .inl ⟨rfl,List.eq_nil_of_length_eq_zero d⟩
 exact .inr ⟨g,0,a,rfl,b,Reads.of_own h⟩
theorem Bks.reads{w:World}{B:Nat}{v:Value}{l:List Bk}(h:Bks w B v l):∃A c,v=.slice A l.length c∧Reads w B 2 A l.length (bkC l):=by
 rcases h with⟨rfl,rfl⟩|⟨b,o,c,rfl,_,a⟩
 ·exact⟨none,0,rfl,Reads.none_⟩
 exact⟨_,c,rfl,a⟩
theorem Bks.below{w w':World}{B:Nat}{v:Value}{l:List Bk}(h:Bks w B v l)(hb:Below B w w'):Bks w' B v l:=by
 rcases h with h|⟨b,o,c,e,a,d⟩
 ·exact .inl h
 exact .inr ⟨b,o,c,e,a,d.below hb⟩
theorem Bks.more{w:World}{B B':Nat}{v:Value}{l:List Bk}(h:Bks w B v l)(hB:B≤B'):Bks w B' v l:=by
 rcases h with h|⟨b,o,c,e,a,d⟩
 ·exact .inl h
 exact .inr ⟨b,o,c,e,a,d.more hB⟩
theorem Jy(k n:Int)(w:World):Calls prog 38 #[.slice none 0 0,.int .i64 k,.int .i64 n] w (jp w [] k n):=by
 obtain⟨d,a,f,g,h⟩:=info_parts l6;have j:=zh (Row.empty w);have F:Hid (gN [] k n=([(k,n)],decide (n≤gI))):=zh rfl;unfold jp;go_enter func38,ntmps38;go_wp2;go_loopw [8] (fun i wr=>i=.int .i64 0∧wr=w) (fun i _=>0)
 case atStart=>exact⟨rfl,rfl⟩
 obtain⟨rfl,rfl⟩:=hrel;go_wp2_with (at_builtin;refine vJ _ rfl _ _ 40 rfl wr.heap.size 91 d _ 2 16 underlying40 a f g h rfl jd (.slice (some ⟨wr.heap.size,0,none⟩) 0 0) 0 (bkC []) rfl (j.out.more (by rw[vM];omega) _).own ⟨wr.heap.size+1,0,none⟩ 1 1 (bkC [(k,n)]) rfl rfl ?a1 (iW _) ?a3 ?a4 ?a5 ?_)
 case a1=>
  have:=oZ (w:=wr.alloc (.cells #[] 91)) k n;rw[vM]at this;exact this
 case a3=>decide
 case a4=>omega
 case a5=>simp;omega
 intro e m c b _;have l:Hid (Row wr.heap.size wr m e [(k,n)]):=zh ((j.out.more (by rw[vM];omega) _).app jm rfl c b);clear c b;go_wp2_with (at_builtin;refine wpList_append_own_none rfl _ _ 40 rfl wr.heap.size 91 d 2 underlying40 a e 1 (bkC [(k,n)]) rfl l.out.own rfl ?_);go_wp2;go_ret2;exact⟨e,by rw[F.out];rfl,by rw[F.out];exact l.out⟩
theorem Jz(v:Value)(l:List Bk)(k n:Int)(w:World)(h:Bks w w.heap.size v l)(hl:l.length≤1000000)(h1:∀b∈l,1≤b.2)(hn:1≤n)(hn2:n≤9223372036854775807) :
  Calls prog 38 #[v,.int .i64 k,.int .i64 n] w (jp w l k n):=by
 rcases h with⟨rfl,rfl⟩|⟨b,o,c,rfl,g,f⟩
 ·exact Jy k n w
 by_cases a:pos l k<l.length
 ·have j:=wT l k a;by_cases i:l[pos l k].1=k
  ·by_cases e:gI<n∨gI-n<l[pos l k].2
   ·exact Jt b o c l k n w f g hl hn hn2 h1 a i e
   by_cases d:c=pos l k+1
   ·exact IG b o c l k n w f g hl hn hn2 h1 a i e d
   exact Ju b o c l k n w f g hl hn hn2 h1 a i e d
  exact Jv b o c l k n w f g hl a jo
 by_cases d:c=pos l k
 ·exact II b o c l k n w f g hl a d
 exact Jw b o c l k n w f g hl a d
theorem IJ{w:World}{base base':Nat}{v:Value}{l:List Bk}(h:OwnB w base v l)(hb:base'≤base):OwnB w base' v l:=
 ⟨h.1,h.2.elim .inl (fun⟨g,cap,cur,hv,hg,r⟩=>.inr ⟨g,cap,cur,hv,zY hb hg,r⟩)⟩
theorem Lj(A:Option Addr)(c B:Nat)(d:Int)(ts:List Int)(w:World)(hR:Reads w B 1 A ts.length (ts.map (Value.int .i64)))(hB:B≤w.heap.size)(hl:ts.length≤900000)(hd2:d≤9223372036854775807)(hin:∀t∈ts,sW t) :
  Calls prog 12 #[.int .i64 d,.slice A ts.length c] w (fun e w'=>∃v,e=.returned (.tuple #[v,.int .i64 (if d<1 then 240 else 0)])∧zWW w w'∧OwnB w' w.heap.size v (if d<1 then[]else ofF d ts)):=by
 by_cases q:d<1
 ·simp only[zI q];go_enter func12,ntmps12;go_wp2;go_ret2;exact⟨.slice none 0 0,rfl,zy _ _,vO _ _ _ _⟩
 simp only[zH q];have F:=zh hR;have Hin:=zh hin;clear hR hin;go_enter func12,ntmps12;go_wp2;go_loopw [6,7] (fun v i wr=>∃k:Nat,k≤ts.length∧i=.int .i64 k∧zWW w wr∧OwnB wr w.heap.size v (ofF d (ts.take k))) (fun _ i _=>ts.length-(intOf i).toNat)
 case atStart=>exact⟨0,zS _,rfl,zy _ _,vO _ _ _ _⟩
 obtain⟨k,E,rfl,h,g⟩:=hrel;by_cases a:k<ts.length
 ·obtain⟨C,o,D,rfl,m,b⟩:=F.out.at_map a;have J:=(h.cell (p:=⟨C,o+k,none⟩) (zT m hB)).trans b;have T:=zh (ug d ts k a);have G:=uh d ts k E;have u:=Hin.out _ (za a);have r:=Jo ts[k] d wr jo u hd2;have n:=Jz _ _ (ts[k]/d) 1 wr (Bks.of_own g) jo G.1.one jo jo;have j:=zh h;clear g b u h;generalize ts[k]=x at *;generalize ofF d (ts.take k)=l at *;go_wp2_with fail;refine r.mono ?_;rintro e I ⟨rfl,rfl⟩;go_wp2_with fail;refine n.mono ?_;rintro e L ⟨H,rfl,s⟩;have y:=zh s;clear s r n;go_wp2;go_roundw
  case rel=>exact⟨k+1,jo,ju,j.out.trans (y.out.bel.mono j.out.size),by rw[T.out];exact IJ y.out.own j.out.size⟩
  simp[intOf];omega
 have f:ts.take k=ts:=zR jo;rw[f]at g;have z:=zh g;have j:=zh h;clear g h;go_wp2;go_ret2;exact⟨_,rfl,j.out,z.out⟩
end Hi
end Go.Proofs.YtmomjpolkkbhnaaGreat
