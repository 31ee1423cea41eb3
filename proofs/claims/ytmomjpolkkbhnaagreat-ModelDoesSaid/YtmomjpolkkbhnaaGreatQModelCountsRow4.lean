/- Plain facts on words of words, folded texts, names and terms. No program. -/
import Derived.StillTail
import Derived.Test.YtmomjpolkkbhnaaGreatQModelCountsRow1
import Derived.Test.YtmomjpolkkbhnaaGreatQModelCountsRow2
import Derived.Test.YtmomjpolkkbhnaaGreatQModelCountsRow5
set_option maxRecDepth 20000
set_option maxHeartbeats 100000000
set_option linter.unusedSimpArgs false
open Go.Proofs.Tryz
namespace Go.Proofs.YtmomjpolkkbhnaaGreat
namespace Tk
open Go.RowKit Ut
def low(r:Nat):Nat:=(lower (r:Int)).toNat
theorem uo(r:Nat)(h:Ut.bX r):((low r:Nat):Int)=lower (r:Int):=Int.toNat_of_nonneg (oK r h).1
theorem Eb(r:Nat)(h:Ut.bX r):Ut.bX (low r):=(oK r h).2
theorem Ec(r:Nat)(h:Ut.bX r):au (low r:Nat)=au (r:Int):=by rw[uo r h,BX]
theorem Ga(r:Nat)(h:Ut.bX r):lower ((low r:Nat):Int)=lower (r:Int):=by rw[uo r h,Am]
def iL(a:List UInt8):List Nat→Nat
 | []=>0
 | r::t=>if 32<a.length+(enc (lower (r:Int))).length then 0 else iL (a++enc (lower (r:Int))) t+1
theorem oL(a:List UInt8)(r:Nat)(t:List Nat):iL a (r::t)=if 32<a.length+(enc (lower (r:Int))).length then 0 else iL (a++enc (lower (r:Int))) t+1:=rfl
theorem rf:∀(l:List Nat) (a:List UInt8),dW a (l.take (iL a l))=dW a l
 | [],a=>rfl
 | r::t,a=>by
  rw[oL,iA]
  split
  ·rename_i h;simp only[List.take_zero];rfl
  rename_i h;rw[zX,iA,zH h,rf]
theorem sZ:∀(l:List Nat) (a:List UInt8),dW a l=a++bQ ((jA (l.take (iL a l))).map lower)
 | [],a=>by simp[dW,jA,bQ]
 | r::t,a=>by
  rw[oL,iA]
  split
  ·simp[jA,bQ]
  rw[zX,sZ t];simp[jA,bQ]
theorem Cm(r:Nat)(t:List Nat):1≤iL [] (r::t):=by
 rw[oL,zH (by have:=(iG (lower (r:Int))).2;simp;omega)];omega
theorem si:∀(l:List Nat) (a:List UInt8),(∀r∈l,Ut.bX r)→dW a (l.map low)=dW a l
 | [],a,_=>rfl
 | r::t,a,h=>by
  rw[List.map_cons,iA,iA,Ga r (h r jz),si t _ (fun x hx=>h x (by simp[hx]))]
theorem Ed(l:List Nat)(h:∀r∈l,Ut.bX r):ai (l.map low)=ai l:=si l [] h
def told(l:List Nat):List Nat:=(l.take (iL [] l)).map low
theorem Cn(l:List Nat)(h:∀r∈l,Ut.bX r):ai (told l)=ai l:=by
 unfold told;rw[Ed _ (fun r hr=>h r (List.mem_of_mem_take hr))];exact rf l []
theorem BZ(l:List Nat)(h:∀r∈l,Ut.bX r)(t:List UInt8):bT (ai l++t)=told l++bT t:=by
 have e:ai l=bQ ((jA (l.take (iL [] l))).map lower):=by
  have:=sZ l [];rw[List.nil_append]at this;exact this
 rw[e,AV,Ck _ (fun r hr=>h r (List.mem_of_mem_take hr))];rfl
theorem Gb(l:List Nat)(h:l≠[]):told l≠[]:=by
 obtain⟨r,t,rfl⟩:∃r t,l=r::t:=by cases l with|nil=>exact absurd rfl h|cons r t=>exact⟨r,t,rfl⟩
 intro e;have h1:=Cm r t;have h2:=congrArg List.length e;unfold told at h2;rw[List.length_map,zK,zV,List.length_nil]at h2;omega
def Run(l:List Nat):Prop:=l≠[]∧(∀r∈l,Ut.bX r)∧∀r∈l,au (r:Int)=true
theorem Ee(l:List Nat)(h:Run l):Run (told l):=by
 refine⟨Gb l h.1,?_,?_⟩
 ·intro r hr;unfold told at hr;obtain⟨x,hx,rfl⟩:=List.mem_map.1 hr;exact Eb x (h.2.1 x (List.mem_of_mem_take hx))
 intro r hr;unfold told at hr;obtain⟨x,hx,rfl⟩:=List.mem_map.1 hr;rw[Ec x (h.2.1 x (List.mem_of_mem_take hx))];exact h.2.2 x (List.mem_of_mem_take hx)
theorem pK:∀(m c x:List Nat),(∀r∈m,au (r:Int)=true)→bY c (m++x)=bY (c++m) x
 | [],c,x,_=>by simp
 | r::m,c,x,h=>by
  rw[List.cons_append,ez,h r jz,zI rfl,pK m (c ++ [r]) x (fun y hy=>h y (by simp[hy]))];simp
theorem Ef(m:List Nat)(h:Run m):bY [] m=[m]:=by
 have:=pK m [] [] h.2.2;rw[List.append_nil]at this;rw[this,List.nil_append,gL];rw[last,zH h.1]
theorem pM:∀(l c:List Nat),(∀r∈l,Ut.bX r)→(∀r∈c,Ut.bX r∧au (r:Int)=true)→∀m∈bY c l,Run m
 | [],c,_,hc,m,hm=>by
  rw[gL]at hm;unfold last at hm
  split at hm
  ·cases hm
  simp only[List.mem_singleton]at hm;subst hm;exact⟨by assumption,fun r hr=>(hc r hr).1,fun r hr=>(hc r hr).2⟩
 | r::t,c,hl,hc,m,hm=>by
  rw[ez]at hm
  split at hm
  ·rename_i hw;refine pM t (c ++ [r]) (fun x hx=>hl x (by simp[hx])) (fun x hx=>?_) m hm;rcases List.mem_append.1 hx with hx|hx
   ·exact hc x hx
   simp only[List.mem_singleton]at hx;subst hx;exact⟨hl x jz,hw⟩
  rcases List.mem_append.1 hm with hm|hm
  ·unfold last at hm
   split at hm
   ·cases hm
   simp only[List.mem_singleton]at hm;subst hm;exact⟨by assumption,fun r hr=>(hc r hr).1,fun r hr=>(hc r hr).2⟩
  exact pM t [] (fun x hx=>hl x (by simp[hx])) (fun x hx=>by cases hx) m hm
theorem Co(s:List UInt8):∀m∈bY [] (bT s),Run m:=pM _ _ (BW s) (fun x hx=>by cases hx)
theorem Eg:au ((32:Nat):Int)=false:=by decide
theorem Ba(s:List UInt8):∀w∈words s,words w=[w]∧w.length≤32:=by
 intro w hw;unfold words at hw;obtain⟨m,hm,rfl⟩:=List.mem_map.1 hw;have hr:=Co s m hm;refine⟨?_,Ea m⟩;have e:=BZ m hr.2.1 [];rw[List.append_nil,ol,List.append_nil]at e;unfold words;rw[e,Ef _ (Ee m hr)];show [ai (told m)]=[ai m];rw[Cn m hr.2.1]
def eH(c:UInt8):Bool:=c.toNat==95 || (decide (48≤c.toNat)&&decide (c.toNat≤57)) || (decide (97≤c.toNat)&&decide (c.toNat≤122))
def isN(s:List UInt8):Bool:=decide (1≤s.length)&&decide (s.length≤32)&&s.all eH
end Tk

namespace Qy
open Go.RowKit
structure Dc where
 seq:Int
 at_:Int
 fs:List (ByteArray × ByteArray)
def DcV(w:World)(B:Nat)(d:Dc)(v:List Value):Prop:=∃F fn fc,v=[.int .i64 d.seq,.int .i64 d.at_,.slice F fn fc]∧Reads w B 2 F fn (aO d.fs)∧d.fs.length=fn∧fn≤8796093021952∧fn≤fc∧(F=none→fc=0)
theorem DcV.len{w:World}{B:Nat}{d:Dc}{v:List Value}(h:DcV w B d v):v.length=3:=by obtain⟨F,fn,fc,rfl,_⟩:=h;rfl
theorem DcV.keep{w w':World}{B:Nat}{d:Dc}{v:List Value}(h:DcV w B d v)(hk:∀b o,b<B→w'.cell? ⟨b,o,none⟩=w.cell? ⟨b,o,none⟩):DcV w' B d v:=by
 obtain⟨F,fn,fc,e,h1,h2⟩:=h;exact⟨F,fn,fc,e,h1.keep hk,h2⟩
theorem DcV.more{w:World}{B B':Nat}{d:Dc}{v:List Value}(h:DcV w B d v)(hB:B≤B'):DcV w B' d v:=by
 obtain⟨F,fn,fc,e,h1,h2⟩:=h;exact⟨F,fn,fc,e,h1.more hB,h2⟩
structure DocsAt (w:World) (B:Nat) (A:Option Addr) (n:Nat) (ds:List Dc):Prop where
 ln:ds.length=n
 ex:∃vss:List (List Value),vss.length=n∧Reads w B 3 A n vss.flatten∧∀i (h:i<ds.length) (h':i<vss.length),DcV w B ds[i] vss[i]
theorem DocsAt.keep{w w':World}{B n:Nat}{A:Option Addr}{ds:List Dc}(h:DocsAt w B A n ds)(hk:∀b o,b<B→w'.cell? ⟨b,o,none⟩=w.cell? ⟨b,o,none⟩):DocsAt w' B A n ds:=by
 obtain⟨vss,h1,h2,h3⟩:=h.ex;exact⟨h.ln,vss,h1,h2.keep hk,fun i a b=>(h3 i a b).keep hk⟩
theorem DocsAt.more{w:World}{B B' n:Nat}{A:Option Addr}{ds:List Dc}(h:DocsAt w B A n ds)(hB:B≤B'):DocsAt w B' A n ds:=by
 obtain⟨vss,h1,h2,h3⟩:=h.ex;exact⟨h.ln,vss,h1,h2.more hB,fun i a b=>(h3 i a b).more hB⟩
theorem DocsAt.grow{w w':World}{n:Nat}{A:Option Addr}{ds:List Dc}(h:DocsAt w w.heap.size A n ds)(hb:zWW w w'):DocsAt w' w'.heap.size A n ds:=(h.keep fun _ _ hp=>hb.cell hp).more hb.size
theorem DocsAt.nil{w:World}{B:Nat}{A:Option Addr}:DocsAt w B A 0 []:=⟨rfl,[],rfl,⟨by simp,fun h=>absurd h (by omega)⟩,fun i h=>absurd h (by simp)⟩
theorem DocsAt.at_{w:World}{B n:Nat}{A:Option Addr}{ds:List Dc}(h:DocsAt w B A n ds){i:Nat}(hi:i<ds.length) :
  ∃b o F fn fc,A=some ⟨b,o,none⟩∧b<B∧w.cell? ⟨b,o+i*3,none⟩=some (.int .i64 ds[i].seq)∧w.cell? ⟨b,o+i*3+1,none⟩=some (.int .i64 ds[i].at_)∧w.cell? ⟨b,o+i*3+2,none⟩=some (.slice F fn fc) ∧
   Reads w B 2 F fn (aO ds[i].fs)∧ds[i].fs.length=fn∧fn≤8796093021952∧fn≤fc∧(F=none→fc=0):=by
 obtain⟨vss,h1,h2,h3⟩:=h.ex;have hl:=h.ln;have hi':i<vss.length:=jo
 have h4:∀v∈vss,v.length=3:=fun v hv=>by
  obtain⟨j,hj,rfl⟩:=zp.1 hv;exact(h3 j jo hj).len
 obtain⟨F,fn,fc,e,g1,g2,g3,g4⟩:=h3 i hi hi';obtain⟨b,o,eA,hb,hc⟩:=h2.2 jo;have f0:=cQ h4 i 0 hi' jo;have f1:=cQ h4 i 1 hi' jo;have f2:=cQ h4 i 2 hi' jo;rw[e]at f0 f1 f2;have c0:=hc _ _ f0;have c1:=hc _ _ f1;have c2:=hc _ _ f2;rw[←Nat.add_assoc]at c1 c2;exact⟨b,o,F,fn,fc,eA,hb,c0,c1,c2,g1,g2,g3,g4⟩
def Far(w:World)(base:Nat)(v:List Value):Prop:=∀F fn fc,v[2]?=some (.slice F fn fc)→0<fn→∃b o,F=some ⟨b,o,none⟩∧(b<base∨∃cs fr,w.heap[b]?=some (.cells cs 85 fr))
structure DocsOwn (w wr:World) (v:Value) (ds:List Dc):Prop where
 ex:∃vss:List (List Value),vss.length=ds.length∧wr.ownsRow w.heap.size 48 3 v ds.length vss.flatten∧∀i (h:i<ds.length) (h':i<vss.length),DcV wr wr.heap.size ds[i] vss[i]∧Far wr w.heap.size vss[i]
 bel:zWW w wr
theorem DocsOwn.start(w:World):DocsOwn w w (.slice none 0 0) []:=⟨⟨[],rfl,vM _ _ _ _,fun i h=>absurd h (by simp)⟩,zw _ _⟩
theorem Far.grown{w w':World}{base:Nat}{v:List Value}{row:Option Nat}(h:Far w base v)(hg:w.grownBy w' row)(hr:∀b,row=some b→base≤b∧∀cs fr,w.heap[b]?≠some (.cells cs 85 fr)):Far w' base v:=by
 intro F fn fc hv hn;obtain⟨b,o,e,h1|⟨cs,fr,h1⟩⟩:=h F fn fc hv hn
 ·exact⟨b,o,e,.inl h1⟩
 refine⟨b,o,e,.inr ⟨cs,fr,?_⟩⟩;have hlt:b<w.heap.size:=(Array.getElem?_eq_some_iff.1 h1).1;rw[hg.block b hlt (fun er=>(hr b er.symm).2 cs fr h1)];exact h1
theorem Far.below{w w':World}{base:Nat}{v:List Value}(h:Far w base v)(hb:zWW w w'):Far w' base v:=h.grown (aJ hb none) (fun b e=>by cases e)
theorem DocsOwn.below{w wr w2:World}{v:Value}{ds:List Dc}(h:DocsOwn w wr v ds)(hb:zWW wr w2):DocsOwn w w2 v ds:=by
 obtain⟨vss,h1,h2,h3⟩:=h.ex;exact⟨⟨vss,h1,h2.kept (aJ hb none) (by cases hv:v.ownBlock<;>simp),fun i a b=>⟨((h3 i a b).1.keep fun _ _ hp=>hb.cell hp).more hb.size,(h3 i a b).2.below hb⟩⟩,h.bel.trans (hb.mono h.bel.size)⟩
theorem uJ{w:World}{base:Nat}{e:TypeId}{size n:Nat}{v:Value}{xs:List Value}(h:w.ownsRow base e size v n xs):∀b,v.ownBlock=some b→base≤b∧∃cur,w.heap[b]?=some (.cells cur e (0,0)):=by
 intro b hb;rcases h.2 with⟨rfl,_⟩|⟨g,cap,cur,rfl,h1,h2,_⟩
 ·cases hb
 injection hb with hb;subst hb;exact⟨h1,cur,h2⟩
theorem DocsOwn.put{w wr w2:World}{v v':Value}{ds:List Dc}{d:Dc}{u:List Value}{xs:List Value}(h:DocsOwn w wr v ds)(hx:∃vss:List (List Value),vss.length=ds.length∧wr.ownsRow w.heap.size 48 3 v ds.length vss.flatten∧(∀i (h:i<ds.length) (h':i<vss.length),DcV wr wr.heap.size ds[i] vss[i]∧Far wr w.heap.size vss[i])∧xs=vss.flatten)
  (hp:w2.ownsRow w.heap.size 48 3 v' (ds.length+1) (xs++u)) (hg:wr.grownBy w2 v.ownBlock) (hd:DcV wr wr.heap.size d u) (hf:Far wr w.heap.size u):DocsOwn w w2 v' (ds ++ [d]):=by
 obtain⟨vss,h1,h2,h3,rfl⟩:=hx;have hown:=uJ h2
 have hr:∀b,v.ownBlock=some b→w.heap.size≤b∧∀cs fr,wr.heap[b]?≠some (.cells cs 85 fr):=fun b hb=>by
  obtain⟨h4,cur,h5⟩:=hown b hb;refine⟨h4,fun cs fr e=>?_⟩;rw[h5]at e;injection e with e;injection e with _ e;exact absurd e jd
 have keep:∀(d:Dc) (u:List Value),DcV wr wr.heap.size d u→Far wr w.heap.size u→DcV w2 w2.heap.size d u:=fun d u hd hf=>by
  obtain⟨F,fn,fc,rfl,g1,g2,g3,g4⟩:=hd;refine⟨F,fn,fc,rfl,(g1.grown hg (zG _) ?_).more hg.size,g2,g3,g4⟩;intro b o e hn er;obtain⟨b',o',e',h4⟩:=hf F fn fc rfl hn;rw[e]at e';injection e' with e';injection e' with e1 e2;subst e1;obtain⟨h5,h6⟩:=hr b er.symm;rcases h4 with h4|⟨cs,fr,h4⟩
  ·omega
  exact h6 cs fr h4
 refine⟨⟨vss ++ [u],by simp[h1],?_,fun i a b=>?_⟩,h.bel.grown hg h.bel.size (fun k hk=>(hr k hk).1)⟩
 ·rw[List.flatten_append,zJ]
  simpa using hp
 by_cases hi:i<ds.length
 ·rw[zi hi,zi jo];have:=h3 i hi jo;exact⟨keep _ _ this.1 this.2,this.2.grown hg hr⟩
 have hi':i=ds.length:=by simp at a;omega
 subst hi';rw[zl jo,zl jo];simp only[Nat.sub_self,h1,List.getElem_cons_zero];exact⟨keep _ _ hd hf,hf.grown hg hr⟩
theorem DocsOwn.read{w wr:World}{v:Value}{ds:List Dc}(h:DocsOwn w wr v ds):∃A c,v=.slice A ds.length c∧DocsAt wr wr.heap.size A ds.length ds:=by
 obtain⟨vss,h1,h2,h3⟩:=h.ex;obtain⟨A,c,e,hR⟩:=aU h2;exact⟨A,c,e,rfl,vss,h1,hR,fun i a b=>(h3 i a b).1⟩
end Qy

section
open Go Go.RowKit
section
variable {P:Program} {ops:Array Oper} {md:Region.Mode} {C:World→Prop} {G:World→World→Prop} {Q:Act→World→Prop} {S:Nat→Option RSpec} {n g:Nat} {K:Array Bool→Act→(Nat→World→Prop)→Prop}
def kL(P:Program)(md:Region.Mode)(ops:Array Oper)(C:World→Prop)(G:World→World→Prop)(S:Nat→Option RSpec)(n:Nat)(K:Array Bool→Act→(Nat→World→Prop)→Prop):Nat→Array Bool→Act→(Nat→World→Prop)→Prop
 | 0,listed,a,F=>fM C F→K listed a F
 | fuel+1,listed,a,F=>fM C F→(Region.ready md ops listed≠[] ∧
  ∀i∈Region.ready md ops listed,i<n∧∀o,ops[i]?=some o→ck P ops C G md S i o (kL P md ops C G S n K fuel (listed.setIfInBounds i true)) a F)
theorem kW(hS:∀i s,S i=some s→∀x w w',G w w'→s.Φ x w→s.Φ x w'){Q':Exit→Act→World→Prop}(hK:∀listed a F w,K listed a F→C w→(∀j,F j w)→wpAny P md ops Q' g listed a w) :
  ∀(fuel:Nat) (listed:Array Bool) (a:Act) (F:Nat→World→Prop) (w:World),C w→(∀j,F j w)→Lasts G F→kL P md ops C G S n K fuel listed a F→wpAny P md ops Q' (fuel+g) listed a w
 | 0,_,a,F,w,hC,hF,_,h=>by rw[Nat.zero_add];exact hK _ _ _ _ (h ⟨w,hC,hF⟩) hC hF
 | fuel+1,listed,a,F,w,hC,hF,hL,h=>by
  rw[show fuel+1+g=(fuel+g)+1 by omega];have h:=h ⟨w,hC,hF⟩;refine⟨fun h0=>absurd h0 h.1,fun i hi=>?_⟩;unfold wpOp;obtain⟨_,o,ho,_⟩:=mem_ready.1 hi;simp only[ho];have hs:=(h.2 i hi).2 o ho;unfold ck at hs
  split
  ·rename_i hw;rw[if_pos hw]at hs;left
   split at hs
   ·rename_i hSi;obtain⟨c,h1,h2⟩:=hs;rcases h1 w hC (fun e _ _=>hF e.on)with hr|⟨hr,rfl⟩
    ·unfold Oper.wp;rw[hr];exact kW hS hK fuel _ _ F w hC hF hL h2
    unfold Oper.wp;rw[hr];exact kW hS hK fuel _ _ F w hC hF hL h2
   rename_i s hSi;refine kV ?_ (hs.1 w hC (fun e _ _=>hF e.on));rintro v w' hg ⟨hC',x,rfl,hx⟩;refine kW hS hK fuel _ _ _ w' hC' ?_ (hL.upd i (hS i s hSi x)) (hs.2 x);intro j;unfold upd
   split
   ·exact⟨hL j _ _ hg (hF j),hx⟩
   exact hL j _ _ hg (hF j)
  rename_i hw;rw[if_neg hw]at hs;exact kW hS hK fuel _ _ F w hC hF hL hs
theorem Ar(hS:∀i s,S i=some s→∀x w w',G w w'→s.Φ x w→s.Φ x w'){i:Nat}{oi:Oper}(hi:ops[i]?=some oi)(hsel:∀(j:Nat) (o:Oper) cs b,ops[j]?=some o→o.op≠.select cs b)
  (hs:Region.sinkB md ops n=true) (hc:Region.chainB md ops n=true) (hn:n<ops.size) (hin:i<n) (hdone:∀listed a F,K listed a F→∀j∈Region.ready md ops listed,n≤j)
  {V:Type} {f:V→Value} {p:V→Option (World→Prop)} :
  ∀(fuel:Nat) (listed:Array Bool) (a:Act) (F:Nat→World→Prop),HeadInv md ops n listed→Lasts G F →
   (∀j oj,ops[j]?=some oj→j≠i→listed.getD j true=false→(∀e∈oj.after,Region.binds md e=true→e.on≠i)→oi.apart ops oj=true) →
   i∈Region.ready md ops listed→Head P ops C G md S i oi a F V f p →
   (∀x,kL P md ops C G S n K fuel (listed.setIfInBounds i true) (a.put oi.dst (f x)) (bJ F i (p x)))→kL P md ops C G S n K (fuel+1) listed a F:=by
 intro fuel
 induction fuel with
 | zero=>
  intro listed a F inv hL _ hr hy H hsat;have hun:=(mem_ready.1 hr).1;refine⟨fun h=>(by rw[h]at hr;cases hr),fun j hj=>?_⟩
  have hjn:j<n:=by
   rcases Nat.lt_or_ge j n with h|h
   ·exact h
   exact absurd hj (tail_waits hs hc hn inv _ i rfl hin hun j h)
  refine⟨hjn,fun oj hoj=>?_⟩;by_cases hji:j=i
  ·subst hji;rw[hi]at hoj;injection hoj with hoj;subst hoj;exact hy.step H
  obtain⟨x,hx⟩:=hy.sat hL hsat;have:=hdone _ _ _ (H x hx) j (ready_mono hj hji);omega
 | succ fuel ih=>
  intro listed a F inv hL hfree hr hy H hsat;have hun0:=(mem_ready.1 hr).1;refine⟨fun h=>(by rw[h]at hr;cases hr),fun j hj=>?_⟩
  have hjn:j<n:=by
   rcases Nat.lt_or_ge j n with h|h
   ·exact h
   exact absurd hj (tail_waits hs hc hn inv _ i rfl hin hun0 j h)
  refine⟨hjn,fun oj hoj=>?_⟩;by_cases hji:j=i
  ·subst hji;rw[hi]at hoj;injection hoj with hoj;subst hoj;exact hy.step H
  obtain⟨hjun,oj',hoj',hall⟩:=mem_ready.1 hj;rw[hoj]at hoj';injection hoj' with hoj';subst hoj'
  have hnot:∀e∈oj.after,Region.binds md e=true→e.on≠i:=fun e he hb heq=>by
   have h1:=hall e he hb;have h0:=(mem_ready.1 hr).1;rw[heq]at h1;rcases Nat.lt_or_ge i listed.size with h'|h'
   ·simp[h']at h0 h1;rw[h0]at h1;cases h1
   simp[Array.getElem?_eq_none h']at h1
  have hnot2:∀e∈oi.after,Region.binds md e=true→e.on≠j:=fun e he hb heq=>by
   obtain⟨h0,o2,ho2,hall2⟩:=mem_ready.1 hr;rw[hi]at ho2;injection ho2 with ho2;subst ho2;have h1:=hall2 e he hb;rw[heq]at h1;rcases Nat.lt_or_ge j listed.size with h'|h'
   ·simp[h']at hjun h1;rw[hjun]at h1;cases h1
   simp[Array.getElem?_eq_none h']at h1
  have hap:=hfree j oj hoj hji hjun hnot;obtain⟨a1,a2,a3⟩:=Oper.apart_spec hap;have hsi:∀cs b,oi.op≠.select cs b:=fun cs b=>hsel i oi cs b hi
  have hsj:∀cs b,oj.op≠.select cs b:=fun cs b=>hsel j oj cs b hoj
  obtain⟨x0,hx0⟩:=hy.sat hL hsat;obtain⟨Vj,fj,pj,hj0,_⟩:=fo (((H x0 hx0).2 j (ready_mono hj hji)).2 oj hoj)
  have hjH:∀x,Head P ops C G md S j oj (a.put oi.dst (f x)) (bJ F i (p x)) Vj fj pj:=fun x=>
   hj0.same ((execOp_put oj hsj a oi.dst _ a1).trans (execOp_put oj hsj a oi.dst _ a1).symm) ((wanted_put oj a oi.dst _ a1).trans (wanted_put oj a oi.dst _ a1).symm) (fun w=>(gJ hnot w).trans (gJ hnot w).symm)
  have hja:Head P ops C G md S j oj a F Vj fj pj:=hj0.same (execOp_put oj hsj a oi.dst _ a1).symm (wanted_put oj a oi.dst _ a1).symm (fun w=>(gJ hnot w).symm);refine hja.step fun y=>?_
  refine ih (listed.setIfInBounds j true) (a.put oj.dst (fj y)) (bJ F j (pj y)) (inv.set hj hjn) (hja.lasts hS hL y) ?_ (ready_mono hr (Ne.symm hji)) ?_ ?_
  ·intro k ok hk hki hun hno;refine hfree k ok hk hki ?_ hno;by_cases hjk:j=k
   ·subst hjk;exact hjun
   rw[getD_set_ne true hjk]at hun;exact hun
  ·exact hy.same (execOp_put oi hsi a oj.dst _ a3) (wanted_put oi a oj.dst _ a3) (fun w=>gJ hnot2 w)
  intro x;rw[←uL (Ne.symm hji),←Act.put_comm a (f x) (fj y) a2,Array.setIfInBounds_comm _ _ hji]
  have hb:fM C (bJ F i (p x))→kL P md ops C G S n K fuel ((listed.setIfInBounds i true).setIfInBounds j true) ((a.put oi.dst (f x)).put oj.dst (fj y)) (bJ (bJ F i (p x)) j (pj y)):=by
   intro hsx;obtain⟨V',f',p',h',hk'⟩:=fo (((H x hsx).2 j (ready_mono hj hji)).2 oj hoj);obtain⟨y',e1,e2⟩:=(hjH x).one h' hsx y;rw[←e1,←e2];exact hk' y'
  cases fuel with
  | zero=>exact fun hs=>hb (mJ hs) hs
  | succ fuel=>exact fun hs=>hb (mJ hs) hs
theorem uM(hS:∀i s,S i=some s→∀x w w',G w w'→s.Φ x w→s.Φ x w')(hsel:Region.noSelect ops=true)(hs:Region.sinkB md ops n=true)(hc:Region.chainB md ops n=true)(hn:n<ops.size) :
  ∀(l:List Oper) (k:Nat) (listed:Array Bool) (a:Act) (F:Nat→World→Prop),HeadInv md ops n listed→Lasts G F→(∀j,j<l.length→l[j]?=ops[k+j]?)→k+l.length=n →
  Region.lexHead md ops g l.length k listed=true→kH P ops C G md S Q l k a F →
  kL P md ops C G S n (fun listed' a' F'=>Region.seqB md ops g n listed'=true∧nV C Q a' F') l.length listed a F
 | [],k,listed,a,F,_,_,_,hk,hB,h=>fun _=>by
  have:k=n:=by simpa using hk
  subst this;exact⟨by simpa[Region.lexHead]using hB,h⟩
 | o::l,k,listed,a,F,inv,hL,hl,hk,hB,h=>by
  have h0:ops[k]?=some o:=by simpa using(hl 0 jz).symm
  simp only[List.length_cons,Region.lexHead,Bool.and_eq_true]at hB;obtain⟨⟨hr,hf⟩,hB'⟩:=hB;have hkn:k<n:=by simp only[List.length_cons]at hk;omega
  have hr':k∈Region.ready md ops listed:=by simpa using hr
  obtain⟨V,f,p,hh,hk'⟩:=fo (show ck P ops C G md S k o (kH P ops C G md S Q l (k+1)) a F from h)
  exact Ar hS h0 (Region.noSelect_spec hsel) hs hc hn hkn (fun listed' a' F' hL=>seqB_ready hL.1) l.length listed a F inv hL (Region.free_spec h0 hf) hr' hh
   (fun x=>uM hS hsel hs hc hn l (k+1) _ _ _ (inv.set hr' hkn) (hh.lasts hS hL x) (fun j hj=>by have:=hl (j+1) jm;simpa[Nat.add_assoc,Nat.add_comm 1 j]using this) (by simp only[List.length_cons]at hk;omega) hB' (hk' x))
theorem dm{id:Nat}{Q':Exit→Act→World→Prop}{a:Act}{w:World}{l:List Oper}(n:Nat)(S:Nat→Option RSpec)(C:World→Prop)(G:World→World→Prop)
  (hm:P.follows .mixedOrders=true) (hB:Region.lexTailB .any l.toArray n=true) (hS:∀i s,S i=some s→∀x w w',G w w'→s.Φ x w→s.Φ x w') (hC:C { w with drawn:=w.drawn+1 })
  (h:GrowAt P l.toArray C G .any S (fun a w=>wpList P l.toArray Q' (l.drop n) a w) (l.take n) 0 a (fun _ _=>True)):(Code.region id l.toArray true).wp P Q' a w:=by
 simp only[Region.lexTailB,Bool.and_eq_true,decide_eq_true_eq]at hB;obtain⟨⟨⟨⟨hsel,hn⟩,hs⟩,hc⟩,hlex⟩:=hB;have hn':n<l.length:=by simpa using hn
 have htl:(l.take n).length=n:=jm;have hdl:(l.drop n).length=l.toArray.size-n:=jz
 have inv0:HeadInv .any l.toArray n (Array.replicate l.toArray.size false):=
  ⟨jz,fun j oj _ hl=>(by rw[getD_replicate_false]at hl;cases hl),fun t _ ht=>getD_in (by simpa using ht) (getD_replicate_false _ _)⟩
 have H:=uM (C:=C) (G:=G) (md:=.any) (g:=l.toArray.size-n) hS hsel hs hc hn (l.take n) 0 _ a (fun _ _=>True) inv0 (fun _ _ _ _ _=>trivial) (fun j hj=>by
  have hj':j<n:=by rw[htl]at hj;exact hj
  simp[hj']) (by simpa using htl) (by rw[htl];exact hlex) h.out
 refine wp_region_any hm ?_
 have:=kW (Q':=Q') (g:=l.toArray.size-n) hS (fun listed a' F' w' hL hC' hF'=>by
  have:=wpAny_of_seq (md:=.any) (Q':=Q') (l.drop n) n listed a' w' (fun j=>by simp[List.getElem?_drop]) (by rw[hdl];exact hL.1) (hL.2 w' hC' hF')
  rwa[hdl]at this) _ _ _ _ _ hC (fun _=>trivial) (fun _ _ _ _ _=>trivial) H
 rw[htl,show n+(l.toArray.size-n)=l.toArray.size by omega]at this;exact this
theorem fQ{o:Oper}{a:Act}{w:World}{R:Value→World→Prop}{u:Value}{w':World}(hr:(execOp a.eval o).run P w=.ok (.value u) w')(hg:G w w')(h:R u w'):bM P G w R ((execOp a.eval o).run P w):=by
 rw[hr];exact⟨hg,h⟩
end
end

namespace Qy
open Go.RowKit Ut
def eC(T:List (List UInt8))(ws:List ByteArray)(i:Nat):Bool:=((T.drop i).take ws.length)==ws.map (fun s=>s.data.toList)
def bn(T:List (List UInt8))(ws:List ByteArray)(k:Nat):List Nat:=(List.range k).filter (eC T ws)
def phr(T:List (List UInt8))(ws:List ByteArray):List Nat:=if ws=[]then[]else bn T ws T.length
theorem lj(T:List (List UInt8))(ws:List ByteArray)(k:Nat):bn T ws (k+1)=bn T ws k++if eC T ws k then[k]else[]:=by
 unfold bn;rw[List.range_succ,List.filter_append];by_cases h:eC T ws k<;>simp[h]
theorem uO(T:List (List UInt8))(ws:List ByteArray)(k:Nat):(bn T ws k).length≤k:=by
 have:=List.length_filter_le (eC T ws) (List.range k)
 rwa[List.length_range]at this
theorem rX(T:List (List UInt8))(ws:List ByteArray)(i:Nat)(h:T.length-i<ws.length):eC T ws i=false:=by
 unfold eC;rw[zM];intro e;have:=congrArg List.length e;simp at this;omega
theorem Av(T:List (List UInt8))(ws:List ByteArray)(k:Nat)(h:T.length-k<ws.length):∀j,k≤j→bn T ws j=bn T ws k:=by
 intro j hj
 induction j with
 | zero=>
  obtain rfl:k=0:=jo;rfl
 | succ j ih=>
  by_cases e:k=j+1
  ·rw[e]
  rw[lj,rX T ws j jo,zH jd,List.append_nil];exact ih jo
def dR(T:List (List UInt8))(ws:List ByteArray)(i k:Nat):Bool:=((T.drop i).take k)==(ws.take k).map (fun s=>s.data.toList)
theorem rR(T:List (List UInt8))(ws:List ByteArray)(i:Nat):dR T ws i 0=true:=by simp[dR]
theorem rY(T:List (List UInt8))(ws:List ByteArray)(i:Nat):dR T ws i ws.length=eC T ws i:=by unfold dR eC;rw[List.take_length]
theorem rS(T:List (List UInt8))(ws:List ByteArray)(i k:Nat)(h1:i+k<T.length)(h2:k<ws.length):dR T ws i (k+1)=(dR T ws i k&&(T[i+k]==ws[k].data.toList)):=by
 unfold dR
 have e1:(T.drop i).take (k+1)=(T.drop i).take k ++ [T[i+k]]:=by
  rw[zL jm];simp
 have e2:(ws.take (k+1)).map (fun s=>s.data.toList)=(ws.take k).map (fun s=>s.data.toList) ++ [ws[k].data.toList]:=by
  rw[zL h2,List.map_append];rfl
 have hl:((T.drop i).take k).length=((ws.take k).map (fun s=>s.data.toList)).length:=jm;rw[e1,e2,Bool.eq_iff_iff];simp only[beq_iff_eq,zo];constructor
 ·intro e;have:=List.append_inj e hl;exact⟨this.1,by simpa using this.2⟩
 rintro⟨a,b⟩;rw[a,b]
theorem sG(T:List (List UInt8))(ws:List ByteArray)(i k:Nat)(hk:k≤ws.length)(h:dR T ws i k=false):eC T ws i=false:=by
 unfold dR eC at *;rw[zM]at *;intro e;apply h;have:=congrArg (List.take k) e;rw[List.take_take,Nat.min_eq_left hk]at this;rw[this,List.map_take]
def bS(t:List UInt8)(p:ByteArray):Bool:=p.data.toList.isPrefixOf t
def bH(k:Int)(ws:List ByteArray)(T:List (List UInt8)):Bool:=
 if k=3 then(match ws with | [p]=>T.any (bS · p)|_=>false)
 else if k=2 then decide (ws.length=1)&&decide (0<(phr T ws).length)
 else decide (0<(phr T ws).length)
def eY(k:Int)(nm:ByteArray)(ws:List ByteArray)(fs:List (ByteArray × ByteArray)):Bool:=fs.any fun f=>f.1.data.toList==nm.data.toList&&bH k ws (Tk.words f.2.data.toList)
mutual
def aC(fs:List (ByteArray × ByteArray)):Q→Bool
 | .mk k nm ws l=>if k=1 then true else if k=2∨k=3∨k=4 then eY k nm ws fs else if k=5 then kx fs l else if k=6 then ko fs l else if k=7 then fA fs l else false
def kx(fs:List (ByteArray × ByteArray)):List Q→Bool
 | []=>true
 | q::l=>aC fs q&&kx fs l
def ko(fs:List (ByteArray × ByteArray)):List Q→Bool
 | []=>false
 | q::l=>aC fs q || ko fs l
def fA(fs:List (ByteArray × ByteArray)):List Q→Bool
 | [q]=>!aC fs q
 | _=>false
end
theorem sH(fs:List (ByteArray × ByteArray)):∀l,kx fs l=l.all (aC fs)
 | []=>by simp[kx]
 | q::l=>by simp[kx,sH fs l]
theorem rZ(fs:List (ByteArray × ByteArray)):∀l,ko fs l=l.any (aC fs)
 | []=>by simp[ko]
 | q::l=>by simp[ko,rZ fs l]
theorem fB(fs:List (ByteArray × ByteArray))(k:Int)(nm:ByteArray)(ws:List ByteArray)(l:List Q) :
  aC fs (.mk k nm ws l)=if k=1 then true else if k=2∨k=3∨k=4 then eY k nm ws fs else if k=5 then l.all (aC fs)else if k=6 then l.any (aC fs)else if k=7 then fA fs l else false:=by
 rw[aC,sH,rZ]
end Qy

namespace Hi
open Go.RowKit
theorem Af(base g cap vb:Nat)(l:List Bk)(k x:Int)(w:World)(hown:OwnB w base (.slice (some ⟨g,0,none⟩) l.length cap) l)(hl:l.length≤1000000)
  (hv:Blk w vb 91 #[.int .i64 k,.int .i64 x]) (hbase:base≤w.heap.size) :
  Calls prog 134 #[.slice (some ⟨g,0,none⟩) l.length cap,.int .i64 (l.length:Int),.slice (some ⟨vb,0,none⟩) 1 1] w
   (lK w base (.slice (some ⟨g,0,none⟩) l.length cap) (l ++ [(k,x)])):=by
 obtain⟨inf,hi0,hz0,hz1,hz2⟩:=info_parts fw;obtain⟨N,hN⟩:∃N,N=l.length:=⟨_,rfl⟩;unfold OwnB at hown;rw[←hN]at hown hl ⊢
 have Post:Hid (∀w' v',w'.ownsRow base 91 2 v' (N+1) (bkC l ++ [Value.int .i64 k,Value.int .i64 x])→OwnB w' base v' (l ++ [(k,x)])):=zh (fun w' v' h=>by
  unfold OwnB;rw[zJ,mX,←hN]
  exact h)
 obtain⟨X,hX⟩:∃X,X=[Value.int .i64 k,Value.int .i64 x]:=⟨_,rfl⟩
 have hXn:∀j u,X[j]?=some u→w.cell? ((⟨vb,0,none⟩:Addr).add j)=some u:=fun j u hj=>by
  rw[add_lit,zf,cell_of_row w vb j _ _ _ hv,←hj,hX];simp
 have hX1:∀u∈X,u.oneCell'=true:=by rw[hX];intro u hu;simp at hu;rcases hu with rfl|rfl<;>rfl
 have hXl:X.length=1*2:=by rw[hX];rfl
 rw[←hX]at Post;obtain⟨cs,hcs⟩:∃cs,cs=bkC l:=⟨_,rfl⟩;rw[←hcs]at Post hown
 have hN0:N≤cap:=by
  rcases hown.2 with⟨h,_⟩|⟨g',cap',cur,h,hb,hg,hnc,hcm,hcs,ht⟩
  ·cases h
  injection h with h1 h2 h3;omega
 clear hX hcs hN hv;by_cases hc:cap=N
 ·subst hc;go_enter func134,ntmps134;go_wp2_with (at_builtin;refine vH _ rfl _ _ 40 rfl base 91 inf _ 2 16 underlying40 hi0 hz0 hz1 hz2 rfl jd (.slice (some ⟨g,0,none⟩) cap cap) cap cs rfl hown ⟨vb,0,none⟩ 1 1 X rfl hXl hXn hX1 ?d3 ?d4 hbase ?_)
  case d3=>unfold maxLen;omega
  case d4=>omega
  intro v' w5 hown5 hg5 _;have F:=zh (Post.out _ _ hown5);have G:=zh hg5;clear hown5 hg5 hown;go_wp2;go_ret;exact⟨_,rfl,F.out,G.out⟩
 go_enter func134,ntmps134;go_wp2_with (at_builtin;refine vH _ rfl _ _ 40 rfl base 91 inf _ 2 16 underlying40 hi0 hz0 hz1 hz2 rfl jd (.slice (some ⟨g,0,none⟩) N cap) N cs rfl hown ⟨vb,0,none⟩ 1 1 X rfl hXl hXn hX1 ?d3 ?d4 hbase ?_)
 case d3=>unfold maxLen;omega
 case d4=>omega
 intro v' w5 hown5 hg5 _;have F:=zh (Post.out _ _ hown5);have G:=zh hg5;clear hown5 hg5 hown;go_wp2;go_ret;exact⟨_,rfl,F.out,G.out⟩
theorem BG(base vb:Nat)(k x:Int)(w:World)
  (hv:Blk w vb 91 #[.int .i64 k,.int .i64 x]) (hbase:base≤w.heap.size) :
  Calls prog 134 #[.slice none 0 0,.int .i64 0,.slice (some ⟨vb,0,none⟩) 1 1] w
   (lK w base (.slice none 0 0) [(k,x)]):=by
 obtain⟨inf,hi0,hz0,hz1,hz2⟩:=info_parts fw;have hown:=vM w base 91 2;have Post:Hid (∀w' v',w'.ownsRow base 91 2 v' (0+1) ([] ++ [Value.int .i64 k,Value.int .i64 x])→OwnB w' base v' [(k,x)]):=zh (fun w' v' h=>h);obtain⟨X,hX⟩:∃X,X=[Value.int .i64 k,Value.int .i64 x]:=⟨_,rfl⟩
 have hXn:∀j u,X[j]?=some u→w.cell? ((⟨vb,0,none⟩:Addr).add j)=some u:=fun j u hj=>by
  rw[add_lit,zf,cell_of_row w vb j _ _ _ hv,←hj,hX];simp
 have hX1:∀u∈X,u.oneCell'=true:=by rw[hX];intro u hu;simp at hu;rcases hu with rfl|rfl<;>rfl
 have hXl:X.length=1*2:=by rw[hX];rfl
 rw[←hX]at Post;clear hX hv;go_enter func134,ntmps134;go_wp2_with (at_builtin;refine vH _ rfl _ _ 40 rfl base 91 inf _ 2 16 underlying40 hi0 hz0 hz1 hz2 rfl jd (.slice none 0 0) 0 [] rfl hown ⟨vb,0,none⟩ 1 1 X rfl hXl hXn hX1 ?d3 ?d4 hbase ?_)
 case d3=>decide
 case d4=>omega
 intro v' w5 hown5 hg5 _;have F:=zh (Post.out _ _ hown5);have G:=zh hg5;clear hown5 hg5 hown;go_wp2;go_ret;exact⟨_,rfl,F.out,G.out⟩
theorem Ii(base i vb:Nat)(v:Value)(l:List Bk)(k x:Int)(w:World)(hown:OwnB w base v l)(hi:i≤l.length)(hl:l.length≤1000000)
  (hv:Blk w vb 91 #[.int .i64 k,.int .i64 x]) (hne:v.ownBlock≠some vb) (hbase:base≤w.heap.size) :
  Calls prog 134 #[v,.int .i64 (i:Int),.slice (some ⟨vb,0,none⟩) 1 1] w
   (lK w base v (l.take i++(k,x)::l.drop i)):=by
 rcases hown.2 with⟨rfl,h0⟩|⟨g,cap,cur,rfl,hb,hg,hnc,hcm,hcs,ht⟩
 ·have:l=[]:=List.eq_nil_of_length_eq_zero h0;subst this;obtain rfl:i=0:=by simpa using hi
  exact BG base vb k x w hv hbase
 have hne':vb≠g:=fun e=>hne (by rw[e];rfl)
 by_cases he:i=l.length
 ·subst he;rw[List.take_length,List.drop_length];exact Af base g cap vb l k x w hown hl hv hbase
 by_cases hr:l.length+1≤cap
 ·exact Fv base g cap i vb l k x w hown jo hr hl hv hne'
 exact Fw base g cap i vb l k x w hown jo jo hl hv hbase
end Hi

namespace Hi
open Go.RowKit
structure Row (B:Nat) (w wr:World) (v:Value) (l:List Bk):Prop where
 own:OwnB wr B v l
 bel:Below B w wr
theorem OwnB.below{w w':World}{base:Nat}{v:Value}{l:List Bk}(h:OwnB w base v l)(hb:zWW w w'):OwnB w' base v l:=
 World.ownsRow.kept h (aJ hb none) (by cases v.ownBlock<;>simp)
theorem oH{w w':World}{base:Nat}{v:Value}{l:List Bk}(h:OwnB w base v l)(hg:w.grownBy w' v.ownBlock)(hb:base≤w.heap.size):Below base w w':=
 ⟨hg.os,hg.tape,hg.output,hg.size,fun i hi=>hg.block i jo fun e=>by have:=(World.ownsRow.lt h i e.symm).1;omega⟩
theorem Row.start(w wr:World)(B:Nat)(hb:Below B w wr):Row B w wr (.slice none 0 0) []:=⟨vM _ _ _ _,hb⟩
theorem Row.below{B:Nat}{w wr w':World}{v:Value}{l:List Bk}(h:Row B w wr v l)(hB:B≤wr.heap.size)(hb:zWW wr w'):Row B w w' v l:=⟨h.own.below hb,h.bel.trans (hb.mono hB)⟩
def dV(B:Nat)(w:World)(l:List Bk)(k n:Int)(e:Ending)(w':World):Prop:=
 ∃v',e=.returned (.tuple #[v',.bool (bG l k n).2])∧Row B w w' v' (bG l k n).1
theorem qG(B:Nat)(v:Value)(l:List Bk)(k n:Int)(w:World)(hown:OwnB w B v l)(hB:B≤w.heap.size)(hl:l.length≤1000000)(hup:Up l)(h1:∀b∈l,1≤b.2)(hn:1≤n)(hn2:n≤9223372036854775807) :
  Calls prog 106 #[v,.int .i64 k,.int .i64 n] w (dV B w l k n):=by
 obtain⟨A,c,rfl,hR⟩:=aU hown;have c0:=Jt w;have HR:=zh hR;have Hown:=zh hown;have Hup:=zh hup;have H1:=zh h1;clear hR hown hup h1;unfold kF at c0;go_enter func106,ntmps106;go_wp2_with fail;refine c0.mono ?_;rintro e w1 ⟨rfl,hb1,hp⟩;have c1:=oU A c w.heap.size w.heap.size l k w1 (HR.out.below hb1) hb1.size hp Hup.out jo;have Hb1:=zh hb1;clear hb1 c0 hp;unfold lX at *;go_wp2_with fail;refine c1.mono ?_;rintro e w2 ⟨rfl,hb2⟩;have Hb2:=zt Hb1 hb2;clear hb2 c1;have hs2:=Hb2.out.size;have Hown2:=zh (Hown.out.below Hb2.out);have hpl:=gA l k;by_cases hf:iz l k=true
 ·have hff:pos l k<l.length∧(l.getD (pos l k) (0,0)).1=k:=by unfold iz at hf;simpa using hf
  obtain⟨hlt,hkk⟩:=hff;have hgd:l.getD (pos l k) (0,0)=l[pos l k]:=by rw[List.getD_eq_getElem?_getD,zU hlt];rfl
  rw[hgd]at hkk
  obtain⟨g,cap,hv⟩:∃g cap,Value.slice A l.length c=.slice (some ⟨g,0,none⟩) l.length cap:=by
   rcases Hown2.out.2 with⟨h,h0⟩|⟨g,cap,cur,h,_⟩
   ·omega
   exact⟨g,cap,h⟩
  injection hv with hA _ hc;subst hA hc;have hge:=qW l (pos l k) hlt;have hcl:=Hown2.out.cellAt (pos l k*2+1) jo;rw[hge.2]at hcl;have hfr:=Hown2.out.frozenAt (pos l k*2+1);have hone:=H1.out l[pos l k] (za hlt);by_cases hbig:bA<n∨bA-n<l[pos l k].2
  ·have F:Hid (bG l k n=([],false)):=zh (by unfold bG;rw[zI ⟨hlt,by rw[hgd];exact hkk⟩,hgd,zI hbig]);unfold bA at hbig;generalize l[pos l k].2=y at *;generalize pos l k=i at *;clear hge hkk hgd;go_wp2;all_goals go_ret2
   all_goals exact⟨.slice none 0 0,by rw[F.out];rfl,by rw[F.out];exact Row.start _ _ _ (Hb2.out.mono hB)⟩
  have hs:(bkC l).set (pos l k*2+1) (.int .i64 (l[pos l k].2+n))=bkC (l.set (pos l k) (k,l[pos l k].2+n)):=Ic l (pos l k) k _ hlt hkk;have F:Hid (bG l k n=(l.set (pos l k) (k,l[pos l k].2+n),true)):=zh (by unfold bG;rw[zI ⟨hlt,by rw[hgd];exact hkk⟩,hgd,zH hbig]);have Hst:=zh (Hown2.out.stored (pos l k*2+1) (.int .i64 (l[pos l k].2+n)));rw[hs]at Hst
  have RW:Hid (Row B w (w2.setCell ⟨g,pos l k*2+1,none⟩ (.int .i64 (l[pos l k].2+n))) (.slice (some ⟨g,0,none⟩) l.length c) (l.set (pos l k) (k,l[pos l k].2+n))):=zh ⟨by
   have:=Hst.out.1;unfold OwnB;rw[List.length_set]
   exact this,(Hb2.out.mono hB).trans (oH Hown2.out Hst.out.2 jo)⟩
  unfold bA at hbig;clear Hst hs;generalize l[pos l k].2=y at *;generalize hi:pos l k=i at *;clear hge hkk hgd;have hw:IntKind.i64.wrap (1099511627776-n)=1099511627776-n:=IntWalk.i64_in _ jo;have hw2:IntKind.i64.wrap (y+n)=y+n:=IntWalk.i64_in _ jo;have hb1':¬1099511627776<n:=jo;have hb2':¬1099511627776-n<y:=jo;go_wp2;go_ret2;exact⟨.slice (some ⟨g,0,none⟩) l.length c,by rw[F.out];rfl,by rw[F.out];exact RW.out⟩
 have hff:¬(pos l k<l.length∧(l.getD (pos l k) (0,0)).1=k):=fun h=>hf (by unfold iz;simpa using h)
 have F:Hid (bG l k n=(l.take (pos l k)++(k,n)::l.drop (pos l k),decide (n≤bA))):=zh (by unfold bG;rw[zH hff]);have hf':iz l k=false:=by simpa using hf
 have ci:=Ii B (pos l k) w2.heap.size (.slice A l.length c) l k n (w2.alloc (.cells #[.int .i64 k,.int .i64 n] 91)) (World.ownsRow.alloc Hown2.out _) hpl hl (Blk.new _ _ _) (fun e=>by have:=(World.ownsRow.lt Hown2.out _ e).2;omega) (by rw[vK];omega);clear hff hf;rw[hf'];generalize pos l k=i at *;go_wp2_with fail;refine ci.mono ?_;rintro e w3 ⟨v',rfl,hown3,hg3⟩;have R3:Hid (Row B w w3 v' (l.take i++(k,n)::l.drop i)):=zh ⟨hown3,(Hb2.out.mono hB).trans (((zw _ _).alloc jo _).trans (oH (World.ownsRow.alloc Hown2.out _) hg3 (by rw[vK];omega)))⟩;clear hown3 hg3 ci;by_cases hm:n≤1099511627776
 ·go_wp2;go_ret2;exact⟨v',by rw[F.out];unfold bA;rw[zO hm];rfl,by rw[F.out];exact R3.out⟩
 go_wp2;go_ret2;exact⟨v',by rw[F.out];unfold bA;rw[zN jo];rfl,by rw[F.out];exact R3.out⟩
end Hi
end Go.Proofs.YtmomjpolkkbhnaaGreat
