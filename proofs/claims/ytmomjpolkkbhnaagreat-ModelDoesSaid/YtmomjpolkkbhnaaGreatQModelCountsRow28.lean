/- Regions that draw their order, hold calls that WRITE (each waits for the one before it), and end in a forced tail: one walk of the lexical order, what is known of the world replaced at each such call. -/
import Derived.Test.YtmomjpolkkbhnaaGreatQModelCountsRow4
set_option maxHeartbeats 100000000
set_option linter.unusedSimpArgs false
namespace Go.Proofs.YtmomjpolkkbhnaaGreat
namespace Ph
open Go Go.RowKit
def Tr(_ _:World):Prop:=True
section
variable {P:Program} {ops:Array Oper} {md:Region.Mode} {C:World→Prop} {Q:Act→World→Prop} {S:Nat→Option RSpec} {n g:Nat} {K:Array Bool→Act→(World→Prop)→Prop}
def cF(I:World→Prop):Option (World→Prop)→World→Prop
 | none=>I
 | some p=>p
def ik(P:Program)(C:World→Prop)(o:Oper)(a:Act)(c:Value):Prop:=
 ∀w,C w→(execOp a.eval o).run P w=.ok (.value c) w∨((execOp a.eval o).run P w=.ok .skip w∧c=undef)
def il(P:Program)(C:World→Prop)(I:World→Prop)(o:Oper)(a:Act)(s:RSpec):Prop:=
 ∀w,C w→I w→bM P Tr w (fun v w'=>C w'∧∃x,v=s.f x∧s.Φ x w') ((execOp a.eval o).run P w)
def eP(P:Program)(ops:Array Oper)(C:World→Prop)(S:Nat→Option RSpec)(i:Nat)(o:Oper)(K:Act→(World→Prop)→Prop)(a:Act)(I:World→Prop):Prop:=
 if Region.wanted o (yielded ops a.tmps)=true then
  match S i with
  | none=>∃c,ik P C o a c∧K (a.put o.dst c) I
  | some s=>il P C I o a s∧∀x,K (a.put o.dst (s.f x)) (s.Φ x)
 else K (a.put o.dst undef) I
def gy(C:World→Prop)(I:World→Prop):Prop:=∃w,C w∧I w
def yj(C:World→Prop)(Q:Act→World→Prop)(a:Act)(I:World→Prop):Prop:=∀w,C w→I w→Q a w
def kO(P:Program)(md:Region.Mode)(ops:Array Oper)(C:World→Prop)(S:Nat→Option RSpec)(n:Nat)(K:Array Bool→Act→(World→Prop)→Prop):Nat→Array Bool→Act→(World→Prop)→Prop
 | 0,listed,a,I=>gy C I→K listed a I
 | fuel+1,listed,a,I=>gy C I→(Region.ready md ops listed≠[] ∧
  ∀i∈Region.ready md ops listed,i<n∧∀o,ops[i]?=some o→eP P ops C S i o (kO P md ops C S n K fuel (listed.setIfInBounds i true)) a I)
def nZ(P:Program)(ops:Array Oper)(C:World→Prop)(S:Nat→Option RSpec)(Q:Act→World→Prop):List Oper→Nat→Act→(World→Prop)→Prop
 | [],_,a,I=>yj C Q a I
 | o::rest,k,a,I=>eP P ops C S k o (nZ P ops C S Q rest (k+1)) a I
theorem kg{Q':Exit→Act→World→Prop}(hK:∀listed a I w,K listed a I→C w→I w→wpAny P md ops Q' g listed a w) :
  ∀(fuel:Nat) (listed:Array Bool) (a:Act) (I:World→Prop) (w:World),C w→I w→kO P md ops C S n K fuel listed a I→wpAny P md ops Q' (fuel+g) listed a w
 | 0,_,a,I,w,hC,hI,h=>by rw[Nat.zero_add];exact hK _ _ _ _ (h ⟨w,hC,hI⟩) hC hI
 | fuel+1,listed,a,I,w,hC,hI,h=>by
  rw[show fuel+1+g=(fuel+g)+1 by omega];have h:=h ⟨w,hC,hI⟩;refine⟨fun h0=>absurd h0 h.1,fun i hi=>?_⟩;unfold wpOp;obtain⟨_,o,ho,_⟩:=mem_ready.1 hi;simp only[ho];have hs:=(h.2 i hi).2 o ho;unfold eP at hs
  split
  ·rename_i hw;rw[if_pos hw]at hs;left
   split at hs
   ·rename_i hSi;obtain⟨c,h1,h2⟩:=hs;rcases h1 w hC with hr|⟨hr,rfl⟩
    ·unfold Oper.wp;rw[hr];exact kg hK fuel _ _ I w hC hI h2
    unfold Oper.wp;rw[hr];exact kg hK fuel _ _ I w hC hI h2
   rename_i s hSi;refine kV ?_ (hs.1 w hC hI);rintro v w' _ ⟨hC',x,rfl,hx⟩;exact kg hK fuel _ _ _ w' hC' hx (hs.2 x)
  rename_i hw;rw[if_neg hw]at hs;exact kg hK fuel _ _ I w hC hI hs
inductive Head (P:Program) (ops:Array Oper) (C:World→Prop) (S:Nat→Option RSpec) (i:Nat) (o:Oper) (a:Act) (I:World→Prop):(V:Type)→(V→Value)→(V→Option (World→Prop))→Prop
 | skip (h:Region.wanted o (yielded ops a.tmps)=false):Head P ops C S i o a I Unit (fun _=>undef) (fun _=>none)
 | fixed (h:Region.wanted o (yielded ops a.tmps)=true) (hs:S i=none) (c:Value) (hf:ik P C o a c):Head P ops C S i o a I Unit (fun _=>c) (fun _=>none)
 | gives (h:Region.wanted o (yielded ops a.tmps)=true) (s:RSpec) (hs:S i=some s) (hg:il P C I o a s):Head P ops C S i o a I s.α s.f (fun x=>some (s.Φ x))
section
variable {i:Nat} {o:Oper} {a a':Act} {I I':World→Prop} {V V':Type} {f:V→Value} {p:V→Option (World→Prop)} {f':V'→Value} {p':V'→Option (World→Prop)}
theorem Head.step(h:Head P ops C S i o a I V f p){K:Act→(World→Prop)→Prop}(hk:∀x,K (a.put o.dst (f x)) (cF I (p x))):eP P ops C S i o K a I:=by
 cases h with
 | skip h=>unfold eP;rw[if_neg (by rw[h];decide)];exact hk ()
 | fixed h hs c hf=>unfold eP;rw[if_pos h];simp only[hs];exact⟨c,hf,hk ()⟩
 | gives h s hs hg=>unfold eP;rw[if_pos h];simp only[hs];exact⟨hg,hk⟩
theorem fo{K:Act→(World→Prop)→Prop}(h:eP P ops C S i o K a I) :
  ∃(V:Type) (f:V→Value) (p:V→Option (World→Prop)),Head P ops C S i o a I V f p∧∀x,K (a.put o.dst (f x)) (cF I (p x)):=by
 unfold eP at h;by_cases hw:Region.wanted o (yielded ops a.tmps)=true
 ·rw[if_pos hw]at h
  split at h
  ·rename_i hs;obtain⟨c,h1,h2⟩:=h;exact⟨_,_,_,.fixed hw hs c h1,fun _=>h2⟩
  rename_i s hs;exact⟨_,_,_,.gives hw s hs h.1,h.2⟩
 rw[if_neg hw]at h;exact⟨_,_,_,.skip (by simpa using hw),fun _=>h⟩
theorem Head.same(h:Head P ops C S i o a I V f p)(he:execOp a'.eval o=execOp a.eval o)(hw:Region.wanted o (yielded ops a'.tmps)=Region.wanted o (yielded ops a.tmps))(hI:S i=none∨I'=I):Head P ops C S i o a' I' V f p:=by
 cases h with
 | skip h=>exact .skip (by rw[hw];exact h)
 | fixed h hs c hf=>exact .fixed (by rw[hw];exact h) hs c (fun w hC=>by rw[he];exact hf w hC)
 | gives h s hs hg=>
  rcases hI with hI|rfl
  ·rw[hI]at hs;cases hs
  exact .gives (by rw[hw];exact h) s hs (fun w hC hI=>by rw[he];exact hg w hC hI)
theorem Head.quiet(h:Head P ops C S i o a I V f p)(hs:S i=none)(x:V):p x=none:=by
 cases h with
 | skip h=>rfl
 | fixed h hs c hf=>rfl
 | gives h s hs' hg=>rw[hs]at hs';cases hs'
theorem Head.one(h:Head P ops C S i o a I V f p)(h':Head P ops C S i o a I V' f' p')(hs:gy C I)(x:V):∃x',f' x'=f x∧p' x'=p x:=by
 obtain⟨w,hC,hI⟩:=hs
 cases h with
 | skip h=>
  cases h' with
  | skip h'=>exact⟨(),rfl,rfl⟩
  | fixed h' _ _ _=>rw[h]at h';cases h'
  | gives h' _ _ _=>rw[h]at h';cases h'
 | fixed h hs c hf=>
  cases h' with
  | skip h'=>rw[h]at h';cases h'
  | fixed h' hs' c' hf'=>
   refine⟨(),?_,rfl⟩;show c'=c;rcases hf w hC with h1|⟨h1,rfl⟩<;>rcases hf' w hC with h2|⟨h2,rfl⟩
   ·rw[h1]at h2;injection h2 with h2;injection h2 with h2;exact h2.symm
   ·rw[h1]at h2;injection h2 with h2;cases h2
   ·rw[h1]at h2;injection h2 with h2;cases h2
   rfl
  | gives h' s hs' hg'=>rw[hs]at hs';cases hs'
 | gives h s hs hg=>
  cases h' with
  | skip h'=>rw[h]at h';cases h'
  | fixed h' hs' c' hf'=>rw[hs]at hs';cases hs'
  | gives h' s' hs' hg'=>
   rw[hs]at hs';injection hs' with hs';subst hs';exact⟨x,rfl,rfl⟩
theorem Head.sat(h:Head P ops C S i o a I V f p)(hs:gy C I):∃x,gy C (cF I (p x)):=by
 cases h with
 | skip h=>exact⟨(),hs⟩
 | fixed h _ c hf=>exact⟨(),hs⟩
 | gives h s hsi hg=>
  obtain⟨w,hC,hI⟩:=hs;have h1:=hg w hC hI
  have key:∀(v:Value) (w':World),(C w'∧∃x,v=s.f x∧s.Φ x w')→∃x,gy C (cF I (some (s.Φ x))):=by
   rintro v w' ⟨hC',x,_,hx⟩;exact⟨x,w',hC',hx⟩
  generalize (execOp a.eval o).run P w=r at h1
  cases r with
  | ok n w'=>
   cases n<;>simp only[bM]at h1
   case value u=>exact key _ _ h1.2
   case skip=>exact key _ _ h1.2
   case enter f args=>
    obtain⟨e,w'',_,⟨v,_,_,hr⟩,_⟩:=h1 [];exact key v w'' hr
  | halt x w'=>simp only[bM]at h1
theorem EB{p q:Option (World→Prop)}(h:p=none∨q=none):cF (cF I p) q=cF (cF I q) p:=by
 rcases h with rfl|rfl
 ·cases q<;>rfl
 cases p<;>rfl
end
inductive Waits (md:Region.Mode) (ops:Array Oper):Nat→Nat→Prop
 | one {j:Nat} {oj:Oper} (hj:ops[j]?=some oj) (e:Edge) (he:e∈oj.after) (hb:Region.binds md e=true):Waits md ops j e.on
 | more {j i:Nat} {oj:Oper} (hj:ops[j]?=some oj) (e:Edge) (he:e∈oj.after) (hb:Region.binds md e=true) (h:Waits md ops e.on i):Waits md ops j i
theorem Waits.listed{j i:Nat}{listed:Array Bool}(h:Waits md ops j i)(inv:HeadInv md ops n listed):listed.getD j false=true→listed.getD i false=true:=by
 induction h with
 | one hj e he hb=>exact fun hl=>inv.closed _ _ hj hl e he hb
 | more hj e he hb _ ih=>exact fun hl=>ih (inv.closed _ _ hj hl e he hb)
theorem Waits.ready{j i:Nat}{listed:Array Bool}(h:Waits md ops j i)(inv:HeadInv md ops n listed)(hr:j∈Region.ready md ops listed):listed.getD i false=true:=by
 obtain⟨_,o,ho,hall⟩:=mem_ready.1 hr
 cases h with
 | one hj e he hb=>
  rw[ho]at hj;injection hj with hj;subst hj;exact hall e he hb
 | more hj e he hb h=>
  rw[ho]at hj;injection hj with hj;subst hj;exact h.listed inv (hall e he hb)
theorem Waits.not{j i:Nat}{listed:Array Bool}(h:Waits md ops j i)(inv:HeadInv md ops n listed)(hr:j∈Region.ready md ops listed)(hi:i∈Region.ready md ops listed):False:=by
 have h1:=h.ready inv hr;have h0:=(mem_ready.1 hi).1;rcases Nat.lt_or_ge i listed.size with h'|h'
 ·simp[h']at h0 h1;rw[h0]at h1;cases h1
 simp[Array.getElem?_eq_none h']at h1
def nQ(md:Region.Mode)(ops:Array Oper)(S:Nat→Option RSpec):Prop:=∀(i j:Nat) (oi oj:Oper),ops[i]?=some oi→ops[j]?=some oj→i≠j→S i=none∨S j=none∨Waits md ops j i∨Waits md ops i j
theorem BC{i:Nat}{oi:Oper}(hi:ops[i]?=some oi)(hsel:∀(j:Nat) (o:Oper) cs b,ops[j]?=some o→o.op≠.select cs b)(hT:nQ md ops S)
  (hs:Region.sinkB md ops n=true) (hc:Region.chainB md ops n=true) (hn:n<ops.size) (hin:i<n) (hdone:∀listed a I,K listed a I→∀j∈Region.ready md ops listed,n≤j)
  {V:Type} {f:V→Value} {p:V→Option (World→Prop)} :
  ∀(fuel:Nat) (listed:Array Bool) (a:Act) (I:World→Prop),HeadInv md ops n listed →
   (∀j oj,ops[j]?=some oj→j≠i→listed.getD j true=false→(∀e∈oj.after,Region.binds md e=true→e.on≠i)→oi.apart ops oj=true) →
   i∈Region.ready md ops listed→Head P ops C S i oi a I V f p →
   (∀x,kO P md ops C S n K fuel (listed.setIfInBounds i true) (a.put oi.dst (f x)) (cF I (p x)))→kO P md ops C S n K (fuel+1) listed a I:=by
 intro fuel
 induction fuel with
 | zero=>
  intro listed a I inv _ hr hy H hsat;have hun:=(mem_ready.1 hr).1;refine⟨fun h=>(by rw[h]at hr;cases hr),fun j hj=>?_⟩
  have hjn:j<n:=by
   rcases Nat.lt_or_ge j n with h|h
   ·exact h
   exact absurd hj (tail_waits hs hc hn inv _ i rfl hin hun j h)
  refine⟨hjn,fun oj hoj=>?_⟩;by_cases hji:j=i
  ·subst hji;rw[hi]at hoj;injection hoj with hoj;subst hoj;exact hy.step H
  obtain⟨x,hx⟩:=hy.sat hsat;have:=hdone _ _ _ (H x hx) j (ready_mono hj hji);omega
 | succ fuel ih=>
  intro listed a I inv hfree hr hy H hsat;have hun0:=(mem_ready.1 hr).1;refine⟨fun h=>(by rw[h]at hr;cases hr),fun j hj=>?_⟩
  have hjn:j<n:=by
   rcases Nat.lt_or_ge j n with h|h
   ·exact h
   exact absurd hj (tail_waits hs hc hn inv _ i rfl hin hun0 j h)
  refine⟨hjn,fun oj hoj=>?_⟩;by_cases hji:j=i
  ·subst hji;rw[hi]at hoj;injection hoj with hoj;subst hoj;exact hy.step H
  obtain⟨hjun,oj',hoj',hall⟩:=mem_ready.1 hj;rw[hoj]at hoj';injection hoj' with hoj';subst hoj'
  have hnot:∀e∈oj.after,Region.binds md e=true→e.on≠i:=fun e he hb heq=>by
   have h1:=hall e he hb;have h0:=(mem_ready.1 hr).1;rw[heq]at h1;rcases Nat.lt_or_ge i listed.size with h'|h'
   ·simp[h']at h0 h1;rw[h0]at h1;cases h1
   simp[Array.getElem?_eq_none h']at h1
  have hnot2:∀e∈oi.after,Region.binds md e=true→e.on≠j:=fun e he hb heq=>by
   obtain⟨h0,o2,ho2,hall2⟩:=mem_ready.1 hr;rw[hi]at ho2;injection ho2 with ho2;subst ho2;have h1:=hall2 e he hb;rw[heq]at h1;rcases Nat.lt_or_ge j listed.size with h'|h'
   ·simp[h']at hjun h1;rw[hjun]at h1;cases h1
   simp[Array.getElem?_eq_none h']at h1
  have hturn:S i=none∨S j=none:=by
   rcases hT i j oi oj hi hoj (Ne.symm hji)with h|h|h|h
   ·exact .inl h
   ·exact .inr h
   ·exact(h.not inv hj hr).elim
   exact(h.not inv hr hj).elim
  have hap:=hfree j oj hoj hji hjun hnot;obtain⟨a1,a2,a3⟩:=Oper.apart_spec hap;have hsi:∀cs b,oi.op≠.select cs b:=fun cs b=>hsel i oi cs b hi
  have hsj:∀cs b,oj.op≠.select cs b:=fun cs b=>hsel j oj cs b hoj
  obtain⟨x0,hx0⟩:=hy.sat hsat
  have hix:∀x,S j=none∨cF I (p x)=I:=fun x=>by
   rcases hturn with h|h
   ·rw[hy.quiet h x];exact .inr rfl
   exact .inl h
  obtain⟨Vj,fj,pj,hj0,_⟩:=fo (((H x0 hx0).2 j (ready_mono hj hji)).2 oj hoj);have hja:Head P ops C S j oj a I Vj fj pj:=hj0.same (execOp_put oj hsj a oi.dst _ a1).symm (wanted_put oj a oi.dst _ a1).symm ((hix x0).imp id Eq.symm)
  have hjH:∀x,Head P ops C S j oj (a.put oi.dst (f x)) (cF I (p x)) Vj fj pj:=fun x=>
   hja.same (execOp_put oj hsj a oi.dst _ a1) (wanted_put oj a oi.dst _ a1) (hix x)
  have hjy:∀y,S i=none∨cF I (pj y)=I:=fun y=>by
   rcases hturn with h|h
   ·exact .inl h
   rw[hja.quiet h y];exact .inr rfl
  have hcomm:∀x y,cF (cF I (p x)) (pj y)=cF (cF I (pj y)) (p x):=fun x y=>by
   refine EB ?_;rcases hturn with h|h
   ·exact .inl (hy.quiet h x)
   exact .inr (hja.quiet h y)
  refine hja.step fun y=>?_
  refine ih (listed.setIfInBounds j true) (a.put oj.dst (fj y)) (cF I (pj y)) (inv.set hj hjn) ?_ (ready_mono hr (Ne.symm hji)) ?_ ?_
  ·intro k ok hk hki hun hno;refine hfree k ok hk hki ?_ hno;by_cases hjk:j=k
   ·subst hjk;exact hjun
   rw[getD_set_ne true hjk]at hun;exact hun
  ·exact hy.same (execOp_put oi hsi a oj.dst _ a3) (wanted_put oi a oj.dst _ a3) (hjy y)
  intro x;rw[←hcomm x y,←Act.put_comm a (f x) (fj y) a2,Array.setIfInBounds_comm _ _ hji]
  have hb:gy C (cF I (p x))→kO P md ops C S n K fuel ((listed.setIfInBounds i true).setIfInBounds j true) ((a.put oi.dst (f x)).put oj.dst (fj y)) (cF (cF I (p x)) (pj y)):=by
   intro hsx;obtain⟨V',f',p',h',hk'⟩:=fo (((H x hsx).2 j (ready_mono hj hji)).2 oj hoj);obtain⟨y',e1,e2⟩:=(hjH x).one h' hsx y;rw[←e1,←e2];exact hk' y'
  have hback:gy C (cF (cF I (p x)) (pj y))→gy C (cF I (p x)):=fun hs=>by
   rcases hturn with h|h
   ·rw[hy.quiet h x];exact hsat
   rw[hja.quiet h y]at hs;exact hs
  cases fuel with
  | zero=>exact fun hs=>hb (hback hs) hs
  | succ fuel=>exact fun hs=>hb (hback hs) hs
theorem uX(hsel:Region.noSelect ops=true)(hT:nQ md ops S)(hs:Region.sinkB md ops n=true)(hc:Region.chainB md ops n=true)(hn:n<ops.size) :
  ∀(l:List Oper) (k:Nat) (listed:Array Bool) (a:Act) (I:World→Prop),HeadInv md ops n listed→(∀j,j<l.length→l[j]?=ops[k+j]?)→k+l.length=n →
  Region.lexHead md ops g l.length k listed=true→nZ P ops C S Q l k a I →
  kO P md ops C S n (fun listed' a' I'=>Region.seqB md ops g n listed'=true∧yj C Q a' I') l.length listed a I
 | [],k,listed,a,I,_,_,hk,hB,h=>fun _=>by
  have:k=n:=by simpa using hk
  subst this;exact⟨by simpa[Region.lexHead]using hB,h⟩
 | o::l,k,listed,a,I,inv,hl,hk,hB,h=>by
  have h0:ops[k]?=some o:=by simpa using(hl 0 jz).symm
  simp only[List.length_cons,Region.lexHead,Bool.and_eq_true]at hB;obtain⟨⟨hr,hf⟩,hB'⟩:=hB;have hkn:k<n:=by simp only[List.length_cons]at hk;omega
  have hr':k∈Region.ready md ops listed:=by simpa using hr
  obtain⟨V,f,p,hh,hk'⟩:=fo (show eP P ops C S k o (nZ P ops C S Q l (k+1)) a I from h)
  exact BC h0 (Region.noSelect_spec hsel) hT hs hc hn hkn (fun listed' a' I' hL=>seqB_ready hL.1) l.length listed a I inv (Region.free_spec h0 hf) hr' hh
   (fun x=>uX hsel hT hs hc hn l (k+1) _ _ _ (inv.set hr' hkn) (fun j hj=>by have:=hl (j+1) jm;simpa[Nat.add_assoc,Nat.add_comm 1 j]using this) (by simp only[List.length_cons]at hk;omega) hB' (hk' x))
structure PhAt (P:Program) (ops:Array Oper) (C:World→Prop) (S:Nat→Option RSpec) (Q:Act→World→Prop) (l:List Oper) (k:Nat) (a:Act) (I:World→Prop):Prop where
 out:nZ P ops C S Q l k a I
theorem dN{id:Nat}{Q':Exit→Act→World→Prop}{a:Act}{w:World}{l:List Oper}(n:Nat)(S:Nat→Option RSpec)(C:World→Prop)(I:World→Prop)
  (hm:P.follows .mixedOrders=true) (hB:Region.lexTailB .any l.toArray n=true) (hT:nQ .any l.toArray S) (hC:C { w with drawn:=w.drawn+1 }) (hI:I { w with drawn:=w.drawn+1 })
  (h:PhAt P l.toArray C S (fun a w=>wpList P l.toArray Q' (l.drop n) a w) (l.take n) 0 a I):(Code.region id l.toArray true).wp P Q' a w:=by
 simp only[Region.lexTailB,Bool.and_eq_true,decide_eq_true_eq]at hB;obtain⟨⟨⟨⟨hsel,hn⟩,hs⟩,hc⟩,hlex⟩:=hB;have hn':n<l.length:=by simpa using hn
 have htl:(l.take n).length=n:=jm;have hdl:(l.drop n).length=l.toArray.size-n:=jz
 have inv0:HeadInv .any l.toArray n (Array.replicate l.toArray.size false):=
  ⟨jz,fun j oj _ hl=>(by rw[getD_replicate_false]at hl;cases hl),fun t _ ht=>getD_in (by simpa using ht) (getD_replicate_false _ _)⟩
 have H:=uX (C:=C) (md:=.any) (g:=l.toArray.size-n) hsel hT hs hc hn (l.take n) 0 _ a I inv0 (fun j hj=>by
  have hj':j<n:=by rw[htl]at hj;exact hj
  simp[hj']) (by simpa using htl) (by rw[htl];exact hlex) h.out
 refine wp_region_any hm ?_
 have:=kg (Q':=Q') (g:=l.toArray.size-n) (fun listed a' I' w' hL hC' hI'=>by
  have:=wpAny_of_seq (md:=.any) (Q':=Q') (l.drop n) n listed a' w' (fun j=>by simp[List.getElem?_drop]) (by rw[hdl];exact hL.1) (hL.2 w' hC' hI')
  rwa[hdl]at this) _ _ _ _ _ hC hI H
 rw[htl,show n+(l.toArray.size-n)=l.toArray.size by omega]at this;exact this
section
variable {o:Oper} {rest:List Oper} {k j:Nat} {a:Act} {I:World→Prop}
theorem aD(k':Nat)(c:Value)(hk:k+1=k')(hs:S k=none)(hw:Region.wanted o (yielded ops a.tmps)=true)
  (hf:∀w,C w→(execOp a.eval o).run P w=.ok (.value c) w) (h:PhAt P ops C S Q rest k' (a.put o.dst c) I):PhAt P ops C S Q (o::rest) k a I:=by
 subst hk;refine⟨?_⟩;show eP P ops C S k o _ a I;unfold eP;rw[if_pos hw];simp only[hs];exact⟨c,fun w hC=>.inl (hf w hC),h.out⟩
theorem dz(k':Nat)(s:RSpec)(hk:k+1=k')(hs:S k=some s)(hw:Region.wanted o (yielded ops a.tmps)=true)
  (hg:∀w,C w→I w→bM P Tr w (fun v w'=>C w'∧∃x,v=s.f x∧s.Φ x w') ((execOp a.eval o).run P w)) (h:∀x,PhAt P ops C S Q rest k' (a.put o.dst (s.f x)) (s.Φ x)):PhAt P ops C S Q (o::rest) k a I:=by
 subst hk;refine⟨?_⟩;show eP P ops C S k o _ a I;unfold eP;rw[if_pos hw];simp only[hs];exact⟨hg,fun x=>(h x).out⟩
theorem dZ(h:∀w,C w→I w→Q a w):PhAt P ops C S Q [] k a I:=⟨h⟩
end
def iJ(md:Region.Mode)(ops:Array Oper):Nat→Nat→Nat→Bool
 | 0,_,_=>false
 | fuel+1,j,i=>match ops[j]? with
  | some oj=>oj.after.any fun e=>Region.binds md e&&(e.on==i || iJ md ops fuel e.on i)
  | none=>false
theorem lG{fuel j i:Nat}(h:iJ md ops fuel j i=true):Waits md ops j i:=by
 induction fuel generalizing j with
 | zero=>cases h
 | succ fuel ih=>
  unfold iJ at h
  split at h
  ·rename_i oj hj;obtain⟨e,he,hb⟩:=Array.any_eq_true'.1 h;simp only[Bool.and_eq_true,Bool.or_eq_true,beq_iff_eq]at hb;obtain⟨h1,h2|h2⟩:=hb
   ·subst h2;exact .one hj e he h1
   exact .more hj e he h1 (ih h2)
  cases h
def Jq(md:Region.Mode)(ops:Array Oper)(l:List Nat):Bool:=
 l.all fun i=>l.all fun j=>i==j || iJ md ops 8 j i || iJ md ops 8 i j
theorem dS{l:List (Nat × RSpec)}(h:Jq md ops (l.map (·.1))=true):nQ md ops (aI l):=by
 have hin:∀i,aI l i≠none→i∈l.map (·.1):=by
  intro i;clear h
  induction l with
  | nil=>intro h;exact absurd rfl h
  | cons x l ih=>
   intro h;obtain⟨k,s⟩:=x;unfold aI at h
   split at h
   ·rename_i e;subst e;simp
   exact List.mem_cons_of_mem _ (ih h)
 intro i j oi oj hi hj hij;by_cases h1:aI l i=none
 ·exact .inl h1
 by_cases h2:aI l j=none
 ·exact .inr (.inl h2)
 have h3:=List.all_eq_true.1 (List.all_eq_true.1 h i (hin i h1)) j (hin j h2);simp only[Bool.or_eq_true,beq_iff_eq]at h3;rcases h3 with(h3|h3)|h3
 ·exact absurd h3 hij
 ·exact .inr (.inr (.inl (lG h3)))
 exact .inr (.inr (.inr (lG h3)))
end
end Ph

namespace Gx
open Go Go.RowKit
open Ph (Tr Waits iJ lG)
section
variable {P:Program} {ops:Array Oper} {md:Region.Mode} {C:World→Prop} {G:World→World→Prop} {Q:Act→World→Prop} {S:Nat→Option RSpec} {ch:Nat→Bool} {n g:Nat} {K:Array Bool→Act→(Nat→World→Prop)→(World→Prop)→Prop}
inductive Up where
 | no
 | fr (p:World→Prop)
 | wr (p:World→Prop)
def upF(F:Nat→World→Prop)(i:Nat):Up→Nat→World→Prop
 | .no=>F
 | .fr p=>upd F i p
 | .wr _=>fun _ _=>True
def upI(I:World→Prop):Up→World→Prop
 | .wr p=>p
 | _=>I
def yQ(P:Program)(C:World→Prop)(md:Region.Mode)(F:Nat→World→Prop)(I:World→Prop)(o:Oper)(a:Act)(s:RSpec):Prop:=
 ∀w,C w→I w→cB md o F w→bM P Tr w (fun v w'=>C w'∧∃x,v=s.f x∧s.Φ x w') ((execOp a.eval o).run P w)
def dI(P:Program)(ops:Array Oper)(C:World→Prop)(G:World→World→Prop)(md:Region.Mode)(S:Nat→Option RSpec)(ch:Nat→Bool)(i:Nat)(o:Oper)(K:Act→(Nat→World→Prop)→(World→Prop)→Prop)(a:Act)(F:Nat→World→Prop)(I:World→Prop):Prop:=
 if Region.wanted o (yielded ops a.tmps)=true then
  match S i with
  | none=>∃c,ik P C md F o a c∧K (a.put o.dst c) F I
  | some s=>if ch i=true then yQ P C md F I o a s∧∀x,K (a.put o.dst (s.f x)) (fun _ _=>True) (s.Φ x)else il P C G md F o a s∧∀x,K (a.put o.dst (s.f x)) (upd F i (s.Φ x)) I
 else K (a.put o.dst undef) F I
def gG(C:World→Prop)(F:Nat→World→Prop)(I:World→Prop):Prop:=∃w,C w∧(∀j,F j w)∧I w
def yw(C:World→Prop)(Q:Act→World→Prop)(a:Act)(F:Nat→World→Prop)(I:World→Prop):Prop:=∀w,C w→(∀j,F j w)→I w→Q a w
def kQ(P:Program)(md:Region.Mode)(ops:Array Oper)(C:World→Prop)(G:World→World→Prop)(S:Nat→Option RSpec)(ch:Nat→Bool)(n:Nat)(K:Array Bool→Act→(Nat→World→Prop)→(World→Prop)→Prop):Nat→Array Bool→Act→(Nat→World→Prop)→(World→Prop)→Prop
 | 0,listed,a,F,I=>gG C F I→K listed a F I
 | fuel+1,listed,a,F,I=>gG C F I→(Region.ready md ops listed≠[] ∧
  ∀i∈Region.ready md ops listed,i<n∧∀o,ops[i]?=some o→dI P ops C G md S ch i o (kQ P md ops C G S ch n K fuel (listed.setIfInBounds i true)) a F I)
def wpX(P:Program)(ops:Array Oper)(C:World→Prop)(G:World→World→Prop)(md:Region.Mode)(S:Nat→Option RSpec)(ch:Nat→Bool)(Q:Act→World→Prop):List Oper→Nat→Act→(Nat→World→Prop)→(World→Prop)→Prop
 | [],_,a,F,I=>yw C Q a F I
 | o::rest,k,a,F,I=>dI P ops C G md S ch k o (wpX P ops C G md S ch Q rest (k+1)) a F I
def kR(G:World→World→Prop)(F:Nat→World→Prop)(I:World→Prop):Prop:=Lasts G F∧∀w w',G w w'→I w→I w'
theorem jE(hS:∀i s,S i=some s→∀x w w',G w w'→s.Φ x w→s.Φ x w'){Q':Exit→Act→World→Prop}(hK:∀listed a F I w,K listed a F I→C w→(∀j,F j w)→I w→wpAny P md ops Q' g listed a w) :
  ∀(fuel:Nat) (listed:Array Bool) (a:Act) (F:Nat→World→Prop) (I:World→Prop) (w:World),C w→(∀j,F j w)→I w→kR G F I→kQ P md ops C G S ch n K fuel listed a F I→wpAny P md ops Q' (fuel+g) listed a w
 | 0,_,a,F,I,w,hC,hF,hI,_,h=>by rw[Nat.zero_add];exact hK _ _ _ _ _ (h ⟨w,hC,hF,hI⟩) hC hF hI
 | fuel+1,listed,a,F,I,w,hC,hF,hI,hL,h=>by
  rw[show fuel+1+g=(fuel+g)+1 by omega];have h:=h ⟨w,hC,hF,hI⟩;refine⟨fun h0=>absurd h0 h.1,fun i hi=>?_⟩;unfold wpOp;obtain⟨_,o,ho,_⟩:=mem_ready.1 hi;simp only[ho];have hs:=(h.2 i hi).2 o ho;unfold dI at hs
  split
  ·rename_i hw;rw[if_pos hw]at hs;left
   split at hs
   ·rename_i hSi;obtain⟨c,h1,h2⟩:=hs;rcases h1 w hC (fun e _ _=>hF e.on)with hr|⟨hr,rfl⟩
    ·unfold Oper.wp;rw[hr];exact jE hS hK fuel _ _ F I w hC hF hI hL h2
    unfold Oper.wp;rw[hr];exact jE hS hK fuel _ _ F I w hC hF hI hL h2
   rename_i s hSi
   split at hs
   ·refine kV ?_ (hs.1 w hC hI (fun e _ _=>hF e.on));rintro v w' _ ⟨hC',x,rfl,hx⟩;exact jE hS hK fuel _ _ _ _ w' hC' (fun _=>trivial) hx ⟨fun _ _ _ _ _=>trivial,hS i s hSi x⟩ (hs.2 x)
   refine kV ?_ (hs.1 w hC (fun e _ _=>hF e.on));rintro v w' hg ⟨hC',x,rfl,hx⟩;refine jE hS hK fuel _ _ _ _ w' hC' ?_ (hL.2 _ _ hg hI) ⟨hL.1.upd i (hS i s hSi x),hL.2⟩ (hs.2 x);intro j;unfold upd
   split
   ·exact⟨hL.1 j _ _ hg (hF j),hx⟩
   exact hL.1 j _ _ hg (hF j)
  rename_i hw;rw[if_neg hw]at hs;exact jE hS hK fuel _ _ F I w hC hF hI hL hs
inductive HeadX (P:Program) (ops:Array Oper) (C:World→Prop) (G:World→World→Prop) (md:Region.Mode) (S:Nat→Option RSpec) (ch:Nat→Bool) (i:Nat) (o:Oper) (a:Act) (F:Nat→World→Prop) (I:World→Prop):(V:Type)→(V→Value)→(V→Up)→Prop
 | skip (h:Region.wanted o (yielded ops a.tmps)=false):HeadX P ops C G md S ch i o a F I Unit (fun _=>undef) (fun _=>.no)
 | fixed (h:Region.wanted o (yielded ops a.tmps)=true) (hs:S i=none) (c:Value) (hf:ik P C md F o a c):HeadX P ops C G md S ch i o a F I Unit (fun _=>c) (fun _=>.no)
 | free (h:Region.wanted o (yielded ops a.tmps)=true) (s:RSpec) (hs:S i=some s) (hc:ch i=false) (hg:il P C G md F o a s):HeadX P ops C G md S ch i o a F I s.α s.f (fun x=>.fr (s.Φ x))
 | write (h:Region.wanted o (yielded ops a.tmps)=true) (s:RSpec) (hs:S i=some s) (hc:ch i=true) (hg:yQ P C md F I o a s):HeadX P ops C G md S ch i o a F I s.α s.f (fun x=>.wr (s.Φ x))
section
variable {i:Nat} {o:Oper} {a a':Act} {F F':Nat→World→Prop} {I I':World→Prop} {V V':Type} {f:V→Value} {p:V→Up} {f':V'→Value} {p':V'→Up}
theorem HeadX.step(h:HeadX P ops C G md S ch i o a F I V f p){K:Act→(Nat→World→Prop)→(World→Prop)→Prop}(hk:∀x,K (a.put o.dst (f x)) (upF F i (p x)) (upI I (p x))):dI P ops C G md S ch i o K a F I:=by
 cases h with
 | skip h=>unfold dI;rw[if_neg (by rw[h];decide)];exact hk ()
 | fixed h hs c hf=>unfold dI;rw[if_pos h];simp only[hs];exact⟨c,hf,hk ()⟩
 | free h s hs hc hg=>unfold dI;rw[if_pos h];simp only[hs];rw[if_neg (by rw[hc];decide)];exact⟨hg,hk⟩
 | write h s hs hc hg=>unfold dI;rw[if_pos h];simp only[hs];rw[if_pos hc];exact⟨hg,hk⟩
theorem nz{K:Act→(Nat→World→Prop)→(World→Prop)→Prop}(h:dI P ops C G md S ch i o K a F I) :
  ∃(V:Type) (f:V→Value) (p:V→Up),HeadX P ops C G md S ch i o a F I V f p∧∀x,K (a.put o.dst (f x)) (upF F i (p x)) (upI I (p x)):=by
 unfold dI at h;by_cases hw:Region.wanted o (yielded ops a.tmps)=true
 ·rw[if_pos hw]at h
  split at h
  ·rename_i hs;obtain⟨c,h1,h2⟩:=h;exact⟨_,_,_,.fixed hw hs c h1,fun _=>h2⟩
  rename_i s hs;by_cases hc:ch i=true
  ·rw[if_pos hc]at h;exact⟨_,_,_,.write hw s hs hc h.1,h.2⟩
  rw[if_neg hc]at h;exact⟨_,_,_,.free hw s hs (by simpa using hc) h.1,h.2⟩
 rw[if_neg hw]at h;exact⟨_,_,_,.skip (by simpa using hw),fun _=>h⟩
theorem HeadX.same(h:HeadX P ops C G md S ch i o a F I V f p)(he:execOp a'.eval o=execOp a.eval o)(hw:Region.wanted o (yielded ops a'.tmps)=Region.wanted o (yielded ops a.tmps))(hd:∀w,cB md o F' w→cB md o F w)(hI:S i=none∨ch i=false∨I'=I):HeadX P ops C G md S ch i o a' F' I' V f p:=by
 cases h with
 | skip h=>exact .skip (by rw[hw];exact h)
 | fixed h hs c hf=>exact .fixed (by rw[hw];exact h) hs c (fun w hC hD=>by rw[he];exact hf w hC (hd w hD))
 | free h s hs hc hg=>exact .free (by rw[hw];exact h) s hs hc (fun w hC hD=>by rw[he];exact hg w hC (hd w hD))
 | write h s hs hc hg=>
  rcases hI with hI|hI|rfl
  ·rw[hI]at hs;cases hs
  ·rw[hI]at hc;cases hc
  exact .write (by rw[hw];exact h) s hs hc (fun w hC hI hD=>by rw[he];exact hg w hC hI (hd w hD))
theorem HeadX.quiet(h:HeadX P ops C G md S ch i o a F I V f p)(hs:S i=none)(x:V):p x=.no:=by
 cases h with
 | skip h=>rfl
 | fixed h hs c hf=>rfl
 | free h s hs' _ hg=>rw[hs]at hs';cases hs'
 | write h s hs' _ hg=>rw[hs]at hs';cases hs'
theorem HeadX.freed(h:HeadX P ops C G md S ch i o a F I V f p)(hc:ch i=false)(x:V):p x=.no∨∃q,p x=.fr q:=by
 cases h with
 | skip h=>exact .inl rfl
 | fixed h hs c hf=>exact .inl rfl
 | free h s hs' _ hg=>exact .inr ⟨_,rfl⟩
 | write h s hs' hc' hg=>rw[hc]at hc';cases hc'
theorem HeadX.kind(h:HeadX P ops C G md S ch i o a F I V f p):(∀x,p x=.no∨∃q,p x=.fr q)∨(S i≠none∧ch i=true∧∀x,∃q,p x=.wr q):=by
 cases h with
 | skip h=>exact .inl fun _=>.inl rfl
 | fixed h hs c hf=>exact .inl fun _=>.inl rfl
 | free h s hs' _ hg=>exact .inl fun _=>.inr ⟨_,rfl⟩
 | write h s hs' hc' hg=>exact .inr ⟨(by rw[hs'];exact fun h=>nomatch h),hc',fun _=>⟨_,rfl⟩⟩
theorem HeadX.one(h:HeadX P ops C G md S ch i o a F I V f p)(h':HeadX P ops C G md S ch i o a F I V' f' p')(hs:gG C F I)(x:V):∃x',f' x'=f x∧p' x'=p x:=by
 obtain⟨w,hC,hF,_⟩:=hs;have hD:cB md o F w:=fun e _ _=>hF e.on
 cases h with
 | skip h=>
  cases h' with
  | skip h'=>exact⟨(),rfl,rfl⟩
  | fixed h' _ _ _=>rw[h]at h';cases h'
  | free h' _ _ _ _=>rw[h]at h';cases h'
  | write h' _ _ _ _=>rw[h]at h';cases h'
 | fixed h hs c hf=>
  cases h' with
  | skip h'=>rw[h]at h';cases h'
  | fixed h' hs' c' hf'=>
   refine⟨(),?_,rfl⟩;show c'=c;rcases hf w hC hD with h1|⟨h1,rfl⟩<;>rcases hf' w hC hD with h2|⟨h2,rfl⟩
   ·rw[h1]at h2;injection h2 with h2;injection h2 with h2;exact h2.symm
   ·rw[h1]at h2;injection h2 with h2;cases h2
   ·rw[h1]at h2;injection h2 with h2;cases h2
   rfl
  | free h' s hs' _ _=>rw[hs]at hs';cases hs'
  | write h' s hs' _ _=>rw[hs]at hs';cases hs'
 | free h s hs hc hg=>
  cases h' with
  | skip h'=>rw[h]at h';cases h'
  | fixed h' hs' c' hf'=>rw[hs]at hs';cases hs'
  | free h' s' hs' _ _=>
   rw[hs]at hs';injection hs' with hs';subst hs';exact⟨x,rfl,rfl⟩
  | write h' s' hs' hc' _=>rw[hc]at hc';cases hc'
 | write h s hs hc hg=>
  cases h' with
  | skip h'=>rw[h]at h';cases h'
  | fixed h' hs' c' hf'=>rw[hs]at hs';cases hs'
  | free h' s' hs' hc' _=>rw[hc]at hc';cases hc'
  | write h' s' hs' _ _=>
   rw[hs]at hs';injection hs' with hs';subst hs';exact⟨x,rfl,rfl⟩
theorem HeadX.sat(h:HeadX P ops C G md S ch i o a F I V f p)(hL:kR G F I)(hs:gG C F I):∃x,gG C (upF F i (p x)) (upI I (p x)):=by
 cases h with
 | skip h=>exact⟨(),hs⟩
 | fixed h _ c hf=>exact⟨(),hs⟩
 | free h s hsi hc hg=>
  obtain⟨w,hC,hF,hI⟩:=hs;have h1:=hg w hC (fun e _ _=>hF e.on)
  have key:∀v w',G w w'→(C w'∧∃x,v=s.f x∧s.Φ x w')→∃x,gG C (upF F i (.fr (s.Φ x))) (upI I (.fr (s.Φ x))):=by
   rintro v w' hg ⟨hC',x,_,hx⟩;refine⟨x,w',hC',fun j=>?_,hL.2 _ _ hg hI⟩;simp only[upF,upd]
   split
   ·exact⟨hL.1 j _ _ hg (hF j),hx⟩
   exact hL.1 j _ _ hg (hF j)
  generalize (execOp a.eval o).run P w=r at h1
  cases r with
  | ok n w'=>
   cases n<;>simp only[bM]at h1
   case value u=>exact key _ _ h1.1 h1.2
   case skip=>exact key _ _ h1.1 h1.2
   case enter f args=>
    obtain⟨e,w'',_,⟨v,_,hg',hr⟩,_⟩:=h1 [];exact key v w'' hg' hr
  | halt x w'=>simp only[bM]at h1
 | write h s hsi hc hg=>
  obtain⟨w,hC,hF,hI⟩:=hs;have h1:=hg w hC hI (fun e _ _=>hF e.on)
  have key:∀(v:Value) (w':World),(C w'∧∃x,v=s.f x∧s.Φ x w')→∃x,gG C (upF F i (.wr (s.Φ x))) (upI I (.wr (s.Φ x))):=by
   rintro v w' ⟨hC',x,_,hx⟩;exact⟨x,w',hC',fun _=>trivial,hx⟩
  generalize (execOp a.eval o).run P w=r at h1
  cases r with
  | ok n w'=>
   cases n<;>simp only[bM]at h1
   case value u=>exact key _ _ h1.2
   case skip=>exact key _ _ h1.2
   case enter f args=>
    obtain⟨e,w'',_,⟨v,_,_,hr⟩,_⟩:=h1 [];exact key v w'' hr
  | halt x w'=>simp only[bM]at h1
theorem HeadX.lasts(hS:∀i s,S i=some s→∀x w w',G w w'→s.Φ x w→s.Φ x w')(h:HeadX P ops C G md S ch i o a F I V f p)(hL:kR G F I)(x:V):kR G (upF F i (p x)) (upI I (p x)):=by
 cases h with
 | skip h=>exact hL
 | fixed h _ c hf=>exact hL
 | free h s hs hc hg=>exact⟨hL.1.upd i (hS i s hs x),hL.2⟩
 | write h s hs hc hg=>exact⟨fun _ _ _ _ _=>trivial,hS i s hs x⟩
theorem nS{oj:Oper}{u:Up}(hn:∀e∈oj.after,Region.binds md e=true→e.on≠i)(hu:u=.no∨∃q,u=.fr q)(w:World):cB md oj (upF F i u) w↔cB md oj F w:=by
 rcases hu with rfl|⟨q,rfl⟩
 ·exact Iff.rfl
 exact gJ (p:=some q) hn w
end
structure TurnsX (md:Region.Mode) (ops:Array Oper) (S:Nat→Option RSpec) (ch:Nat→Bool):Prop where
 low:∀j,S j≠none→ch j=true→∀i,i<j→Waits md ops j i
 high:∀i,S i≠none→ch i=true→∀j,i<j→S j≠none→Waits md ops j i
theorem BH(hS:∀i s,S i=some s→∀x w w',G w w'→s.Φ x w→s.Φ x w'){i:Nat}{oi:Oper}(hi:ops[i]?=some oi)(hsel:∀(j:Nat) (o:Oper) cs b,ops[j]?=some o→o.op≠.select cs b)(hT:TurnsX md ops S ch)
  (hs:Region.sinkB md ops n=true) (hc:Region.chainB md ops n=true) (hn:n<ops.size) (hin:i<n) (hdone:∀listed a F I,K listed a F I→∀j∈Region.ready md ops listed,n≤j)
  {V:Type} {f:V→Value} {p:V→Up} :
  ∀(fuel:Nat) (listed:Array Bool) (a:Act) (F:Nat→World→Prop) (I:World→Prop),HeadInv md ops n listed→kR G F I →
   (∀k,k<i→listed.getD k false=true)→(∀j oj,ops[j]?=some oj→j≠i→listed.getD j true=false→(∀e∈oj.after,Region.binds md e=true→e.on≠i)→oi.apart ops oj=true) →
   i∈Region.ready md ops listed→HeadX P ops C G md S ch i oi a F I V f p →
   (∀x,kQ P md ops C G S ch n K fuel (listed.setIfInBounds i true) (a.put oi.dst (f x)) (upF F i (p x)) (upI I (p x)))→kQ P md ops C G S ch n K (fuel+1) listed a F I:=by
 intro fuel
 induction fuel with
 | zero=>
  intro listed a F I inv hL _ _ hr hy H hsat;have hun:=(mem_ready.1 hr).1;refine⟨fun h=>(by rw[h]at hr;cases hr),fun j hj=>?_⟩
  have hjn:j<n:=by
   rcases Nat.lt_or_ge j n with h|h
   ·exact h
   exact absurd hj (tail_waits hs hc hn inv _ i rfl hin hun j h)
  refine⟨hjn,fun oj hoj=>?_⟩;by_cases hji:j=i
  ·subst hji;rw[hi]at hoj;injection hoj with hoj;subst hoj;exact hy.step H
  obtain⟨x,hx⟩:=hy.sat hL hsat;have:=hdone _ _ _ _ (H x hx) j (ready_mono hj hji);omega
 | succ fuel ih=>
  intro listed a F I inv hL hlow hfree hr hy H hsat;have hun0:=(mem_ready.1 hr).1;refine⟨fun h=>(by rw[h]at hr;cases hr),fun j hj=>?_⟩
  have hjn:j<n:=by
   rcases Nat.lt_or_ge j n with h|h
   ·exact h
   exact absurd hj (tail_waits hs hc hn inv _ i rfl hin hun0 j h)
  refine⟨hjn,fun oj hoj=>?_⟩;by_cases hji:j=i
  ·subst hji;rw[hi]at hoj;injection hoj with hoj;subst hoj;exact hy.step H
  obtain⟨hjun,oj',hoj',hall⟩:=mem_ready.1 hj;rw[hoj]at hoj';injection hoj' with hoj';subst hoj'
  have hnot:∀e∈oj.after,Region.binds md e=true→e.on≠i:=fun e he hb heq=>by
   have h1:=hall e he hb;have h0:=(mem_ready.1 hr).1;rw[heq]at h1;rcases Nat.lt_or_ge i listed.size with h'|h'
   ·simp[h']at h0 h1;rw[h0]at h1;cases h1
   simp[Array.getElem?_eq_none h']at h1
  have hnot2:∀e∈oi.after,Region.binds md e=true→e.on≠j:=fun e he hb heq=>by
   obtain⟨h0,o2,ho2,hall2⟩:=mem_ready.1 hr;rw[hi]at ho2;injection ho2 with ho2;subst ho2;have h1:=hall2 e he hb;rw[heq]at h1;rcases Nat.lt_or_ge j listed.size with h'|h'
   ·simp[h']at hjun h1;rw[hjun]at h1;cases h1
   simp[Array.getElem?_eq_none h']at h1
  have hij:i<j:=by
   rcases Nat.lt_or_ge i j with h|h
   ·exact h
   have hl:=hlow j jo;rcases Nat.lt_or_ge j listed.size with h'|h'
   ·simp[h']at hjun hl;rw[hjun]at hl;cases hl
   simp[Array.getElem?_eq_none h']at hl
  have hjf:S j=none∨ch j=false:=by
   by_cases h1:S j=none
   ·exact .inl h1
   cases h2:ch j with
   | false=>exact .inr rfl
   | true=>exact((hT.low j h1 h2 i hij).not inv hj hr).elim
  have hif:S i=none∨ch i=false∨S j=none:=by
   by_cases h1:S i=none
   ·exact .inl h1
   cases h2:ch i with
   | false=>exact .inr (.inl rfl)
   | true=>
    by_cases h3:S j=none
    ·exact .inr (.inr h3)
    exact((hT.high i h1 h2 j hij h3).not inv hj hr).elim
  have hap:=hfree j oj hoj hji hjun hnot;obtain⟨a1,a2,a3⟩:=Oper.apart_spec hap;have hsi:∀cs b,oi.op≠.select cs b:=fun cs b=>hsel i oi cs b hi
  have hsj:∀cs b,oj.op≠.select cs b:=fun cs b=>hsel j oj cs b hoj
  obtain⟨x0,hx0⟩:=hy.sat hL hsat;obtain⟨Vj,fj,pj,hj0,_⟩:=nz (((H x0 hx0).2 j (ready_mono hj hji)).2 oj hoj)
  have hdx:∀x w,cB md oj F w→cB md oj (upF F i (p x)) w:=fun x w hD=>by
   cases hpx:p x with
   | no=>exact hD
   | fr q=>exact(nS hnot (.inr ⟨q,rfl⟩) w).2 hD
   | wr q=>exact fun _ _ _=>trivial
  have hdxx:∀x w,cB md oj (upF F i (p x)) w→cB md oj (upF F i (p x0)) w:=fun x w hD=>by
   rcases hy.kind with h|⟨_,_,h⟩
   ·exact(nS hnot (h x0) w).2 ((nS hnot (h x) w).1 hD)
   obtain⟨q,e⟩:=h x0;rw[e];exact fun _ _ _=>trivial
  have hjI:∀I1 I2:World→Prop,S j=none∨ch j=false∨I1=I2:=fun _ _=>hjf.imp id .inl
  have hja:HeadX P ops C G md S ch j oj a F I Vj fj pj:=hj0.same (execOp_put oj hsj a oi.dst _ a1).symm (wanted_put oj a oi.dst _ a1).symm (hdx x0) (hjI _ _)
  have hjH:∀x,HeadX P ops C G md S ch j oj (a.put oi.dst (f x)) (upF F i (p x)) (upI I (p x)) Vj fj pj:=fun x=>
   hj0.same ((execOp_put oj hsj a oi.dst _ a1).trans (execOp_put oj hsj a oi.dst _ a1).symm) ((wanted_put oj a oi.dst _ a1).trans (wanted_put oj a oi.dst _ a1).symm) (hdxx x) (hjI _ _)
  have hpj:∀y,pj y=.no∨∃q,pj y=.fr q:=fun y=>by
   rcases hjf with h|h
   ·exact .inl (hja.quiet h y)
   exact hja.freed h y
  have hpi:∀x y,(p x=.no∨∃q,p x=.fr q)∨pj y=.no:=fun x y=>by
   rcases hif with h|h|h
   ·exact .inl (.inl (hy.quiet h x))
   ·exact .inl (hy.freed h x)
   exact .inr (hja.quiet h y)
  have hII:∀y,upI I (pj y)=I:=fun y=>by rcases hpj y with h|⟨q,h⟩<;>rw[h]<;>rfl
  have hcI:∀x y,upI (upI I (p x)) (pj y)=upI (upI I (pj y)) (p x):=fun x y=>by
   rw[hII y];rcases hpj y with h|⟨q,h⟩<;>rw[h]<;>rfl
  have hcF:∀x y,upF (upF F i (p x)) j (pj y)=upF (upF F j (pj y)) i (p x):=fun x y=>by
   rcases hpi x y with(h|⟨q,h⟩)|h
   ·rw[h];rfl
   ·rw[h];rcases hpj y with h'|⟨q',h'⟩
    ·rw[h'];rfl
    rw[h'];exact vW (Ne.symm hji) q q'
   rw[h];rfl
  refine hja.step fun y=>?_
  refine ih (listed.setIfInBounds j true) (a.put oj.dst (fj y)) (upF F j (pj y)) (upI I (pj y)) (inv.set hj hjn) (hja.lasts hS hL y) ?_ ?_ (ready_mono hr (Ne.symm hji)) ?_ ?_
  ·intro k hk;rw[getD_set_ne false (show j≠k by omega)];exact hlow k hk
  ·intro k ok hk hki hun hno;refine hfree k ok hk hki ?_ hno;by_cases hjk:j=k
   ·subst hjk;exact hjun
   rw[getD_set_ne true hjk]at hun;exact hun
  ·exact hy.same (execOp_put oi hsi a oj.dst _ a3) (wanted_put oi a oj.dst _ a3) (fun w hD=>(nS hnot2 (hpj y) w).1 hD) (.inr (.inr (hII y)))
  intro x;rw[←hcF x y,←hcI x y,←Act.put_comm a (f x) (fj y) a2,Array.setIfInBounds_comm _ _ hji]
  have hb:gG C (upF F i (p x)) (upI I (p x))→kQ P md ops C G S ch n K fuel ((listed.setIfInBounds i true).setIfInBounds j true) ((a.put oi.dst (f x)).put oj.dst (fj y)) (upF (upF F i (p x)) j (pj y)) (upI (upI I (p x)) (pj y)):=by
   intro hsx;obtain⟨V',f',p',h',hk'⟩:=nz (((H x hsx).2 j (ready_mono hj hji)).2 oj hoj);obtain⟨y',e1,e2⟩:=(hjH x).one h' hsx y;rw[←e1,←e2];exact hk' y'
  have hback:gG C (upF (upF F i (p x)) j (pj y)) (upI (upI I (p x)) (pj y))→gG C (upF F i (p x)) (upI I (p x)):=fun hs=>by
   rcases hpj y with h|⟨q,h⟩
   ·rw[h]at hs;exact hs
   rw[h]at hs;obtain⟨w,h1,h2,h3⟩:=hs;exact⟨w,h1,fun k=>pU (p:=some q) (h2 k),h3⟩
  cases fuel with
  | zero=>exact fun hs=>hb (hback hs) hs
  | succ fuel=>exact fun hs=>hb (hback hs) hs
theorem uf(hS:∀i s,S i=some s→∀x w w',G w w'→s.Φ x w→s.Φ x w')(hsel:Region.noSelect ops=true)(hT:TurnsX md ops S ch)(hs:Region.sinkB md ops n=true)(hc:Region.chainB md ops n=true)(hn:n<ops.size) :
  ∀(l:List Oper) (k:Nat) (listed:Array Bool) (a:Act) (F:Nat→World→Prop) (I:World→Prop),HeadInv md ops n listed→kR G F I→(∀j,j<k→listed.getD j false=true)→k≤listed.size→(∀j,j<l.length→l[j]?=ops[k+j]?)→k+l.length=n →
  Region.lexHead md ops g l.length k listed=true→wpX P ops C G md S ch Q l k a F I →
  kQ P md ops C G S ch n (fun listed' a' F' I'=>Region.seqB md ops g n listed'=true∧yw C Q a' F' I') l.length listed a F I
 | [],k,listed,a,F,I,_,_,_,_,_,hk,hB,h=>fun _=>by
  have:k=n:=by simpa using hk
  subst this;exact⟨by simpa[Region.lexHead]using hB,h⟩
 | o::l,k,listed,a,F,I,inv,hL,hlow,hsz,hl,hk,hB,h=>by
  have h0:ops[k]?=some o:=by simpa using(hl 0 jz).symm
  simp only[List.length_cons,Region.lexHead,Bool.and_eq_true]at hB;obtain⟨⟨hr,hf⟩,hB'⟩:=hB;have hkn:k<n:=by simp only[List.length_cons]at hk;omega
  have hr':k∈Region.ready md ops listed:=by simpa using hr
  have hks:k<listed.size:=by
   have h0:=(mem_ready.1 hr').1;rcases Nat.lt_or_ge k listed.size with h'|h'
   ·exact h'
   simp[Array.getElem?_eq_none h']at h0
  obtain⟨V,f,p,hh,hk'⟩:=nz (show dI P ops C G md S ch k o (wpX P ops C G md S ch Q l (k+1)) a F I from h)
  exact BH hS h0 (Region.noSelect_spec hsel) hT hs hc hn hkn (fun listed' a' F' I' hL=>seqB_ready hL.1) l.length listed a F I inv hL hlow (Region.free_spec h0 hf) hr' hh
   (fun x=>uf hS hsel hT hs hc hn l (k+1) _ _ _ _ (inv.set hr' hkn) (hh.lasts hS hL x) (fun j hj=>by
     by_cases hjk:j=k
     ·subst hjk;simp[hks]
     rw[getD_set_ne false (show k≠j by omega)];exact hlow j jo) jm (fun j hj=>by have:=hl (j+1) jm;simpa[Nat.add_assoc,Nat.add_comm 1 j]using this) (by simp only[List.length_cons]at hk;omega) hB' (hk' x))
structure XAt (P:Program) (ops:Array Oper) (C:World→Prop) (G:World→World→Prop) (md:Region.Mode) (S:Nat→Option RSpec) (ch:Nat→Bool) (Q:Act→World→Prop) (l:List Oper) (k:Nat) (a:Act) (F:Nat→World→Prop) (I:World→Prop):Prop where
 out:wpX P ops C G md S ch Q l k a F I
theorem rL{id:Nat}{Q':Exit→Act→World→Prop}{a:Act}{w:World}{l:List Oper}(n:Nat)(S:Nat→Option RSpec)(ch:Nat→Bool)(C:World→Prop)(G:World→World→Prop)
  (hm:P.follows .mixedOrders=true) (hB:Region.lexTailB .any l.toArray n=true) (hT:TurnsX .any l.toArray S ch) (hS:∀i s,S i=some s→∀x w w',G w w'→s.Φ x w→s.Φ x w') (hC:C { w with drawn:=w.drawn+1 })
  (h:XAt P l.toArray C G .any S ch (fun a w=>wpList P l.toArray Q' (l.drop n) a w) (l.take n) 0 a (fun _ _=>True) (fun _=>True)):(Code.region id l.toArray true).wp P Q' a w:=by
 simp only[Region.lexTailB,Bool.and_eq_true,decide_eq_true_eq]at hB;obtain⟨⟨⟨⟨hsel,hn⟩,hs⟩,hc⟩,hlex⟩:=hB;have hn':n<l.length:=by simpa using hn
 have htl:(l.take n).length=n:=jm;have hdl:(l.drop n).length=l.toArray.size-n:=jz
 have inv0:HeadInv .any l.toArray n (Array.replicate l.toArray.size false):=
  ⟨jz,fun j oj _ hl=>(by rw[getD_replicate_false]at hl;cases hl),fun t _ ht=>getD_in (by simpa using ht) (getD_replicate_false _ _)⟩
 have H:=uf (C:=C) (G:=G) (md:=.any) (g:=l.toArray.size-n) hS hsel hT hs hc hn (l.take n) 0 _ a (fun _ _=>True) (fun _=>True) inv0 ⟨fun _ _ _ _ _=>trivial,fun _ _ _ _=>trivial⟩ (fun j hj=>absurd hj jo) jo (fun j hj=>by
  have hj':j<n:=by rw[htl]at hj;exact hj
  simp[hj']) (by simpa using htl) (by rw[htl];exact hlex) h.out
 refine wp_region_any hm ?_
 have:=jE (Q':=Q') (g:=l.toArray.size-n) hS (fun listed a' F' I' w' hL hC' hF' hI'=>by
  have:=wpAny_of_seq (md:=.any) (Q':=Q') (l.drop n) n listed a' w' (fun j=>by simp[List.getElem?_drop]) (by rw[hdl];exact hL.1) (hL.2 w' hC' hF' hI')
  rwa[hdl]at this) _ _ _ _ _ _ hC (fun _=>trivial) trivial ⟨fun _ _ _ _ _=>trivial,fun _ _ _ _=>trivial⟩ H
 rw[htl,show n+(l.toArray.size-n)=l.toArray.size by omega]at this;exact this
section
variable {o:Oper} {rest:List Oper} {k j:Nat} {a:Act} {F:Nat→World→Prop} {I:World→Prop}
theorem eZ(k':Nat)(c:Value)(hk:k+1=k')(hs:S k=none)(hw:Region.wanted o (yielded ops a.tmps)=true)
  (hf:∀w,C w→cB md o F w→(execOp a.eval o).run P w=.ok (.value c) w) (h:XAt P ops C G md S ch Q rest k' (a.put o.dst c) F I):XAt P ops C G md S ch Q (o::rest) k a F I:=by
 subst hk;refine⟨?_⟩;show dI P ops C G md S ch k o _ a F I;unfold dI;rw[if_pos hw];simp only[hs];exact⟨c,fun w hC hD=>.inl (hf w hC hD),h.out⟩
theorem kK(k':Nat)(s:RSpec)(hk:k+1=k')(hs:S k=some s)(hc:ch k=false)(hw:Region.wanted o (yielded ops a.tmps)=true)
  (hg:∀w,C w→cB md o F w→bM P G w (fun v w'=>C w'∧∃x,v=s.f x∧s.Φ x w') ((execOp a.eval o).run P w)) (h:∀x,XAt P ops C G md S ch Q rest k' (a.put o.dst (s.f x)) (upd F k (s.Φ x)) I):XAt P ops C G md S ch Q (o::rest) k a F I:=by
 subst hk;refine⟨?_⟩;show dI P ops C G md S ch k o _ a F I;unfold dI;rw[if_pos hw];simp only[hs];rw[if_neg (by rw[hc];decide)];exact⟨hg,fun x=>(h x).out⟩
theorem qa(k':Nat)(s:RSpec)(hk:k+1=k')(hs:S k=some s)(hc:ch k=true)(hw:Region.wanted o (yielded ops a.tmps)=true)
  (hg:∀w,C w→I w→cB md o F w→bM P Tr w (fun v w'=>C w'∧∃x,v=s.f x∧s.Φ x w') ((execOp a.eval o).run P w)) (h:∀x,XAt P ops C G md S ch Q rest k' (a.put o.dst (s.f x)) (fun _ _=>True) (s.Φ x)):XAt P ops C G md S ch Q (o::rest) k a F I:=by
 subst hk;refine⟨?_⟩;show dI P ops C G md S ch k o _ a F I;unfold dI;rw[if_pos hw];simp only[hs];rw[if_pos hc];exact⟨hg,fun x=>(h x).out⟩
theorem yd(h:∀w,C w→(∀j,F j w)→I w→Q a w):XAt P ops C G md S ch Q [] k a F I:=⟨h⟩
end
def Iz(md:Region.Mode)(ops:Array Oper)(l:List Nat)(ch:Nat→Bool):Bool:=
 l.all fun j=>!ch j || ((List.range j).all fun i=>iJ md ops 8 j i)&&l.all fun k=>decide (k≤j) || iJ md ops 8 k j
theorem ug{l:List (Nat × RSpec)}(h:Iz md ops (l.map (·.1)) ch=true):TurnsX md ops (aI l) ch:=by
 have hin:∀i,aI l i≠none→i∈l.map (·.1):=by
  intro i;clear h
  induction l with
  | nil=>intro h;exact absurd rfl h
  | cons x l ih=>
   intro h;obtain⟨k,s⟩:=x;unfold aI at h
   split at h
   ·rename_i e;subst e;simp
   exact List.mem_cons_of_mem _ (ih h)
 have key:∀j,aI l j≠none→ch j=true→(∀i,i<j→Waits md ops j i)∧∀k,j<k→aI l k≠none→Waits md ops k j:=fun j hj hc=>by
  have h3:=List.all_eq_true.1 h j (hin j hj);simp only[hc,Bool.not_true,Bool.false_or,Bool.and_eq_true,List.all_eq_true,Bool.or_eq_true,decide_eq_true_eq]at h3;refine⟨fun i hi=>lG (h3.1 i (List.mem_range.2 hi)),fun k hk hsk=>?_⟩;rcases h3.2 k (hin k hsk)with h4|h4
  ·omega
  exact lG h4
 exact⟨fun j hj hc=>(key j hj hc).1,fun i hi hc j hij hj=>(key i hi hc).2 j hij hj⟩
end
end Gx
end Go.Proofs.YtmomjpolkkbhnaaGreat
