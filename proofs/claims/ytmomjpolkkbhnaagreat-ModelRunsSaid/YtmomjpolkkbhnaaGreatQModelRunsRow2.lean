/- Plain facts on words of texts. No program. -/
import Derived.Maps.AppendAt
import Derived.Test.YtmomjpolkkbhnaaGreatQModelRunsRow1
set_option maxRecDepth 20000
set_option maxHeartbeats 100000000
set_option linter.unusedSimpArgs false
namespace Go.Proofs.YtmomjpolkkbhnaaGreat
namespace Tk
open Go.RowKit Ut
def kD(a:List UInt8):List Nat→List UInt8
 | []=>a
 | r::t=>if 32<a.length+(enc (lower (r:Int))).length then a else kD (a++enc (lower (r:Int))) t
def fu(l:List Nat):List UInt8:=kD [] l
theorem nD(a:List UInt8)(r:Nat)(t:List Nat):kD a (r::t)=if 32<a.length+(enc (lower (r:Int))).length then a else kD (a++enc (lower (r:Int))) t:=rfl
theorem yG:∀(l:List Nat) (a:List UInt8),a.length≤32→(kD a l).length≤32
 | [],a,h=>h
 | r::t,a,h=>by
  rw[nD]
  split
  ·exact h
  exact yG t _ (by rw[zJ];omega)
theorem Ig(l:List Nat):(fu l).length≤32:=yG l [] (by simp)
def last(c:List Nat):List (List Nat):=if c=[]then[]else[c]
def iC(c:List Nat):List Nat→List (List Nat)
 | []=>last c
 | r::t=>if gA (r:Int)then iC (c ++ [r]) t else last c++iC [] t
theorem mN(c:List Nat):iC c []=last c:=rfl
theorem lD(c:List Nat)(r:Nat)(t:List Nat):iC c (r::t)=if gA (r:Int)then iC (c ++ [r]) t else last c++iC [] t:=rfl
theorem uN:∀(l c:List Nat) (b:Nat),gA (b:Int)=false→iC c (l ++ [b])=iC c l
 | [],c,b,h=>by
  rw[List.nil_append,lD,h,zH jd,mN,mN];simp[last]
 | r::t,c,b,h=>by
  rw[List.cons_append,lD,lD,uN t _ b h,uN t _ b h]
def words(s:List UInt8):List (List UInt8):=(iC [] (gq s)).map fu
end Tk

namespace Tk
open Go.RowKit Ut
def low(r:Nat):Nat:=(lower (r:Int)).toNat
theorem Al(r:Nat)(h:Ut.iB r):((low r:Nat):Int)=lower (r:Int):=Int.toNat_of_nonneg (tK r h).1
theorem Ii(r:Nat)(h:Ut.iB r):Ut.iB (low r):=(tK r h).2
theorem Ij(r:Nat)(h:Ut.iB r):gA (low r:Nat)=gA (r:Int):=by rw[Al r h,FD]
theorem KR(r:Nat)(h:Ut.iB r):lower ((low r:Nat):Int)=lower (r:Int):=by rw[Al r h,Eb]
def nN(a:List UInt8):List Nat→Nat
 | []=>0
 | r::t=>if 32<a.length+(enc (lower (r:Int))).length then 0 else nN (a++enc (lower (r:Int))) t+1
theorem tL(a:List UInt8)(r:Nat)(t:List Nat):nN a (r::t)=if 32<a.length+(enc (lower (r:Int))).length then 0 else nN (a++enc (lower (r:Int))) t+1:=rfl
theorem xa:∀(l:List Nat) (a:List UInt8),kD a (l.take (nN a l))=kD a l
 | [],a=>rfl
 | r::t,a=>by
  rw[tL,nD]
  split
  ·rename_i h;simp only[List.take_zero];rfl
  rename_i h;rw[zX,nD,zH h,xa]
theorem yH:∀(l:List Nat) (a:List UInt8),kD a l=a++gh ((oM (l.take (nN a l))).map lower)
 | [],a=>by simp[kD,oM,gh]
 | r::t,a=>by
  rw[tL,nD]
  split
  ·simp[oM,gh]
  rw[zX,yH t];simp[oM,gh]
theorem GA(r:Nat)(t:List Nat):1≤nN [] (r::t):=by
 rw[tL,zH (by have:=(nI (lower (r:Int))).2;simp;omega)];omega
theorem yI:∀(l:List Nat) (a:List UInt8),(∀r∈l,Ut.iB r)→kD a (l.map low)=kD a l
 | [],a,_=>rfl
 | r::t,a,h=>by
  rw[List.map_cons,nD,nD,KR r (h r jz),yI t _ (fun x b=>h x (by simp[b]))]
theorem Ik(l:List Nat)(h:∀r∈l,Ut.iB r):fu (l.map low)=fu l:=yI l [] h
def told(l:List Nat):List Nat:=(l.take (nN [] l)).map low
theorem GD(l:List Nat)(h:∀r∈l,Ut.iB r):fu (told l)=fu l:=by
 unfold told;rw[Ik _ (fun r a=>h r (List.mem_of_mem_take a))];exact xa l []
theorem FG(l:List Nat)(h:∀r∈l,Ut.iB r)(t:List UInt8):gq (fu l++t)=told l++gq t:=by
 have e:fu l=gh ((oM (l.take (nN [] l))).map lower):=by
  have:=yH l [];rw[List.nil_append]at this;exact this
 rw[e,EK,F9 _ (fun r a=>h r (List.mem_of_mem_take a))];rfl
theorem KS(l:List Nat)(h:l≠[]):told l≠[]:=by
 obtain⟨r,t,rfl⟩:∃r t,l=r::t:=by cases l with|nil=>exact absurd rfl h|cons r t=>exact⟨r,t,rfl⟩
 intro e;have b:=GA r t;have a:=congrArg List.length e;unfold told at a;rw[List.length_map,zK,zV,List.length_nil]at a;omega
def Run(l:List Nat):Prop:=l≠[]∧(∀r∈l,Ut.iB r)∧∀r∈l,gA (r:Int)=true
theorem Il(l:List Nat)(h:Run l):Run (told l):=by
 refine⟨KS l h.1,?_,?_⟩
 ·intro r a;unfold told at a;obtain⟨x,b,rfl⟩:=List.mem_map.1 a;exact Ii x (h.2.1 x (List.mem_of_mem_take b))
 intro r a;unfold told at a;obtain⟨x,b,rfl⟩:=List.mem_map.1 a;rw[Ij x (h.2.1 x (List.mem_of_mem_take b))];exact h.2.2 x (List.mem_of_mem_take b)
theorem uO:∀(m c x:List Nat),(∀r∈m,gA (r:Int)=true)→iC c (m++x)=iC (c++m) x
 | [],c,x,_=>by simp
 | r::m,c,x,h=>by
  rw[List.cons_append,lD,h r jz,zI rfl,uO m (c ++ [r]) x (fun y a=>h y (by simp[a]))];simp
theorem Im(m:List Nat)(h:Run m):iC [] m=[m]:=by
 have:=uO m [] [] h.2.2;rw[List.append_nil]at this;rw[this,List.nil_append,mN];rw[last,zH h.1]
theorem uP:∀(l c:List Nat),(∀r∈l,Ut.iB r)→(∀r∈c,Ut.iB r∧gA (r:Int)=true)→∀m∈iC c l,Run m
 | [],c,_,hc,m,hm=>by
  rw[mN]at hm;unfold last at hm
  split at hm
  ·cases hm
  simp only[List.mem_singleton]at hm;subst hm;exact⟨by assumption,fun r a=>(hc r a).1,fun r a=>(hc r a).2⟩
 | r::t,c,hl,hc,m,hm=>by
  rw[lD]at hm
  split at hm
  ·rename_i hw;refine uP t (c ++ [r]) (fun x hx=>hl x (by simp[hx])) (fun x hx=>?_) m hm;rcases List.mem_append.1 hx with hx|hx
   ·exact hc x hx
   simp only[List.mem_singleton]at hx;subst hx;exact⟨hl x jz,hw⟩
  rcases List.mem_append.1 hm with hm|hm
  ·unfold last at hm
   split at hm
   ·cases hm
   simp only[List.mem_singleton]at hm;subst hm;exact⟨by assumption,fun r a=>(hc r a).1,fun r a=>(hc r a).2⟩
  exact uP t [] (fun x hx=>hl x (by simp[hx])) (fun x hx=>by cases hx) m hm
theorem GF(s:List UInt8):∀m∈iC [] (gq s),Run m:=uP _ _ (FC s) (fun x a=>by cases a)
theorem Io:gA ((32:Nat):Int)=false:=by decide
theorem FH(s:List UInt8):∀w∈words s,words w=[w]∧w.length≤32:=by
 intro w b;unfold words at b;obtain⟨m,c,rfl⟩:=List.mem_map.1 b;have a:=GF s m c;refine⟨?_,Ig m⟩;have e:=FG m a.2.1 [];rw[List.append_nil,tz,List.append_nil]at e;unfold words;rw[e,Im _ (Il m a)];show [fu (told m)]=[fu m];rw[GD m a.2.1]
def kU(c:UInt8):Bool:=c.toNat==95 || (decide (48≤c.toNat)&&decide (c.toNat≤57)) || (decide (97≤c.toNat)&&decide (c.toNat≤122))
def isN(s:List UInt8):Bool:=decide (1≤s.length)&&decide (s.length≤32)&&s.all kU
end Tk

namespace Qy
open Go.RowKit Ut
def kR(T:List (List UInt8))(ws:List ByteArray)(i:Nat):Bool:=((T.drop i).take ws.length)==ws.map (fun s=>s.data.toList)
def iI(T:List (List UInt8))(ws:List ByteArray)(k:Nat):List Nat:=(List.range k).filter (kR T ws)
def phr(T:List (List UInt8))(ws:List ByteArray):List Nat:=if ws=[]then[]else iI T ws T.length
theorem qf(T:List (List UInt8))(ws:List ByteArray)(k:Nat):iI T ws (k+1)=iI T ws k++if kR T ws k then[k]else[]:=by
 unfold iI;rw[List.range_succ,List.filter_append];by_cases h:kR T ws k<;>simp[h]
theorem AP(T:List (List UInt8))(ws:List ByteArray)(k:Nat):(iI T ws k).length≤k:=by
 have:=List.length_filter_le (kR T ws) (List.range k)
 rwa[List.length_range]at this
theorem xX(T:List (List UInt8))(ws:List ByteArray)(i:Nat)(h:T.length-i<ws.length):kR T ws i=false:=by
 unfold kR;rw[zM];intro e;have:=congrArg List.length e;simp at this;omega
theorem Eh(T:List (List UInt8))(ws:List ByteArray)(k:Nat)(h:T.length-k<ws.length):∀j,k≤j→iI T ws j=iI T ws k:=by
 intro j a
 induction j with
 | zero=>
  obtain rfl:k=0:=jo;rfl
 | succ j ih=>
  by_cases e:k=j+1
  ·rw[e]
  rw[qf,xX T ws j jo,zH jd,List.append_nil];exact ih jo
def jh(T:List (List UInt8))(ws:List ByteArray)(i k:Nat):Bool:=((T.drop i).take k)==(ws.take k).map (fun s=>s.data.toList)
theorem xQ(T:List (List UInt8))(ws:List ByteArray)(i:Nat):jh T ws i 0=true:=by simp[jh]
theorem xY(T:List (List UInt8))(ws:List ByteArray)(i:Nat):jh T ws i ws.length=kR T ws i:=by unfold jh kR;rw[List.take_length]
theorem xR(T:List (List UInt8))(ws:List ByteArray)(i k:Nat)(h1:i+k<T.length)(h2:k<ws.length):jh T ws i (k+1)=(jh T ws i k&&(T[i+k]==ws[k].data.toList)):=by
 unfold jh
 have d:(T.drop i).take (k+1)=(T.drop i).take k ++ [T[i+k]]:=by
  rw[zL jm];simp
 have c:(ws.take (k+1)).map (fun s=>s.data.toList)=(ws.take k).map (fun s=>s.data.toList) ++ [ws[k].data.toList]:=by
  rw[zL h2,List.map_append];rfl
 have f:((T.drop i).take k).length=((ws.take k).map (fun s=>s.data.toList)).length:=jm;rw[d,c,Bool.eq_iff_iff];simp only[beq_iff_eq,zr];constructor
 ·intro e;have:=List.append_inj e f;exact⟨this.1,by simpa using this.2⟩
 rintro⟨a,b⟩;rw[a,b]
theorem xk(T:List (List UInt8))(ws:List ByteArray)(i k:Nat)(hk:k≤ws.length)(h:jh T ws i k=false):kR T ws i=false:=by
 unfold jh kR at *;rw[zM]at *;intro e;apply h;have:=congrArg (List.take k) e;rw[List.take_take,Nat.min_eq_left hk]at this;rw[this,List.map_take]
def gp(t:List UInt8)(p:ByteArray):Bool:=p.data.toList.isPrefixOf t
def gP(k:Int)(ws:List ByteArray)(T:List (List UInt8)):Bool:=
 if k=3 then(match ws with | [p]=>T.any (gp · p)|_=>false)
 else if k=2 then decide (ws.length=1)&&decide (0<(phr T ws).length)
 else decide (0<(phr T ws).length)
def kx(k:Int)(nm:ByteArray)(ws:List ByteArray)(fs:List (ByteArray × ByteArray)):Bool:=fs.any fun f=>f.1.data.toList==nm.data.toList&&gP k ws (Tk.words f.2.data.toList)
mutual
def fC(fs:List (ByteArray × ByteArray)):Q→Bool
 | .mk k nm ws l=>if k=1 then true else if k=2∨k=3∨k=4 then kx k nm ws fs else if k=5 then p5 fs l else if k=6 then pY fs l else if k=7 then lF fs l else false
def p5(fs:List (ByteArray × ByteArray)):List Q→Bool
 | []=>true
 | q::l=>fC fs q&&p5 fs l
def pY(fs:List (ByteArray × ByteArray)):List Q→Bool
 | []=>false
 | q::l=>fC fs q || pY fs l
def lF(fs:List (ByteArray × ByteArray)):List Q→Bool
 | [q]=>!fC fs q
 | _=>false
end
theorem xm(fs:List (ByteArray × ByteArray)):∀l,p5 fs l=l.all (fC fs)
 | []=>by simp[p5]
 | q::l=>by simp[p5,xm fs l]
theorem xZ(fs:List (ByteArray × ByteArray)):∀l,pY fs l=l.any (fC fs)
 | []=>by simp[pY]
 | q::l=>by simp[pY,xZ fs l]
theorem lG(fs:List (ByteArray × ByteArray))(k:Int)(nm:ByteArray)(ws:List ByteArray)(l:List Q) :
  fC fs (.mk k nm ws l)=if k=1 then true else if k=2∨k=3∨k=4 then kx k nm ws fs else if k=5 then l.all (fC fs)else if k=6 then l.any (fC fs)else if k=7 then lF fs l else false:=by
 rw[fC,xm,xZ]
end Qy

namespace Ph
open Go Go.RowKit
def Tr(_ _:World):Prop:=True
section
variable {P:Program} {ops:Array Oper} {md:Region.Mode} {C:World→Prop} {Q:Act→World→Prop} {S:Nat→Option RSpec} {n g:Nat} {K:Array Bool→Act→(World→Prop)→Prop}
def iK(I:World→Prop):Option (World→Prop)→World→Prop
 | none=>I
 | some p=>p
def oG(P:Program)(C:World→Prop)(o:Oper)(a:Act)(c:Value):Prop:=
 ∀w,C w→(execOp a.eval o).run P w=.ok (.value c) w∨((execOp a.eval o).run P w=.ok .skip w∧c=undef)
def oH(P:Program)(C:World→Prop)(I:World→Prop)(o:Oper)(a:Act)(s:RSpec):Prop:=
 ∀w,C w→I w→gT P Tr w (fun v w'=>C w'∧∃x,v=s.f x∧s.Φ x w') ((execOp a.eval o).run P w)
def kX(P:Program)(ops:Array Oper)(C:World→Prop)(S:Nat→Option RSpec)(i:Nat)(o:Oper)(K:Act→(World→Prop)→Prop)(a:Act)(I:World→Prop):Prop:=
 if Region.wanted o (yielded ops a.tmps)=true then
  match S i with
  | none=>∃c,oG P C o a c∧K (a.put o.dst c) I
  | some s=>oH P C I o a s∧∀x,K (a.put o.dst (s.f x)) (s.Φ x)
 else K (a.put o.dst undef) I
def mr(C:World→Prop)(I:World→Prop):Prop:=∃w,C w∧I w
def Dn(C:World→Prop)(Q:Act→World→Prop)(a:Act)(I:World→Prop):Prop:=∀w,C w→I w→Q a w
def pG(P:Program)(md:Region.Mode)(ops:Array Oper)(C:World→Prop)(S:Nat→Option RSpec)(n:Nat)(K:Array Bool→Act→(World→Prop)→Prop):Nat→Array Bool→Act→(World→Prop)→Prop
 | 0,listed,a,I=>mr C I→K listed a I
 | fuel+1,listed,a,I=>mr C I→(Region.ready md ops listed≠[] ∧
  ∀i∈Region.ready md ops listed,i<n∧∀o,ops[i]?=some o→kX P ops C S i o (pG P md ops C S n K fuel (listed.setIfInBounds i true)) a I)
def sV(P:Program)(ops:Array Oper)(C:World→Prop)(S:Nat→Option RSpec)(Q:Act→World→Prop):List Oper→Nat→Act→(World→Prop)→Prop
 | [],_,a,I=>Dn C Q a I
 | o::rest,k,a,I=>kX P ops C S k o (sV P ops C S Q rest (k+1)) a I
theorem pX{Q':Exit→Act→World→Prop}(hK:∀listed a I w,K listed a I→C w→I w→wpAny P md ops Q' g listed a w) :
  ∀(fuel:Nat) (listed:Array Bool) (a:Act) (I:World→Prop) (w:World),C w→I w→pG P md ops C S n K fuel listed a I→wpAny P md ops Q' (fuel+g) listed a w
 | 0,_,a,I,w,hC,hI,h=>by rw[Nat.zero_add];exact hK _ _ _ _ (h ⟨w,hC,hI⟩) hC hI
 | fuel+1,listed,a,I,w,hC,hI,h=>by
  rw[show fuel+1+g=(fuel+g)+1 by omega];have h:=h ⟨w,hC,hI⟩;refine⟨fun y=>absurd y h.1,fun i q=>?_⟩;unfold wpOp;obtain⟨_,o,m,_⟩:=mem_ready.1 q;simp only[m];have b:=(h.2 i q).2 o m;unfold kX at b
  split
  ·rename_i hw;rw[if_pos hw]at b;left
   split at b
   ·rename_i hSi;obtain⟨c,t,l⟩:=b;rcases t w hC with e|⟨e,rfl⟩
    ·unfold Oper.wp;rw[e];exact pX hK fuel _ _ I w hC hI l
    unfold Oper.wp;rw[e];exact pX hK fuel _ _ I w hC hI l
   rename_i s hSi;refine pO ?_ (b.1 w hC hI);rintro v u _ ⟨d,x,rfl,r⟩;exact pX hK fuel _ _ _ u d r (b.2 x)
  rename_i hw;rw[if_neg hw]at b;exact pX hK fuel _ _ I w hC hI b
inductive Head (P:Program) (ops:Array Oper) (C:World→Prop) (S:Nat→Option RSpec) (i:Nat) (o:Oper) (a:Act) (I:World→Prop):(V:Type)→(V→Value)→(V→Option (World→Prop))→Prop
 | skip (h:Region.wanted o (yielded ops a.tmps)=false):Head P ops C S i o a I Unit (fun _=>undef) (fun _=>none)
 | fixed (h:Region.wanted o (yielded ops a.tmps)=true) (hs:S i=none) (c:Value) (hf:oG P C o a c):Head P ops C S i o a I Unit (fun _=>c) (fun _=>none)
 | gives (h:Region.wanted o (yielded ops a.tmps)=true) (s:RSpec) (hs:S i=some s) (hg:oH P C I o a s):Head P ops C S i o a I s.α s.f (fun x=>some (s.Φ x))
section
variable {i:Nat} {o:Oper} {a a':Act} {I I':World→Prop} {V V':Type} {f:V→Value} {p:V→Option (World→Prop)} {f':V'→Value} {p':V'→Option (World→Prop)}
theorem Head.step(h:Head P ops C S i o a I V f p){K:Act→(World→Prop)→Prop}(hk:∀x,K (a.put o.dst (f x)) (iK I (p x))):kX P ops C S i o K a I:=by
 cases h with
 | skip h=>unfold kX;rw[if_neg (by rw[h];decide)];exact hk ()
 | fixed h hs c hf=>unfold kX;rw[if_pos h];simp only[hs];exact⟨c,hf,hk ()⟩
 | gives h s hs hg=>unfold kX;rw[if_pos h];simp only[hs];exact⟨hg,hk⟩
theorem li{K:Act→(World→Prop)→Prop}(h:kX P ops C S i o K a I) :
  ∃(V:Type) (f:V→Value) (p:V→Option (World→Prop)),Head P ops C S i o a I V f p∧∀x,K (a.put o.dst (f x)) (iK I (p x)):=by
 unfold kX at h;by_cases b:Region.wanted o (yielded ops a.tmps)=true
 ·rw[if_pos b]at h
  split at h
  ·rename_i hs;obtain⟨c,d,e⟩:=h;exact⟨_,_,_,.fixed b hs c d,fun _=>e⟩
  rename_i s hs;exact⟨_,_,_,.gives b s hs h.1,h.2⟩
 rw[if_neg b]at h;exact⟨_,_,_,.skip (by simpa using b),fun _=>h⟩
theorem Head.same(h:Head P ops C S i o a I V f p)(he:execOp a'.eval o=execOp a.eval o)(hw:Region.wanted o (yielded ops a'.tmps)=Region.wanted o (yielded ops a.tmps))(hI:S i=none∨I'=I):Head P ops C S i o a' I' V f p:=by
 cases h with
 | skip h=>exact .skip (by rw[hw];exact h)
 | fixed h hs c hf=>exact .fixed (by rw[hw];exact h) hs c (fun w b=>by rw[he];exact hf w b)
 | gives h s hs hg=>
  rcases hI with hI|rfl
  ·rw[hI]at hs;cases hs
  exact .gives (by rw[hw];exact h) s hs (fun w b hI=>by rw[he];exact hg w b hI)
theorem Head.quiet(h:Head P ops C S i o a I V f p)(hs:S i=none)(x:V):p x=none:=by
 cases h with
 | skip h=>rfl
 | fixed h hs c hf=>rfl
 | gives h s hs' hg=>rw[hs]at hs';cases hs'
theorem Head.one(h:Head P ops C S i o a I V f p)(h':Head P ops C S i o a I V' f' p')(hs:mr C I)(x:V):∃x',f' x'=f x∧p' x'=p x:=by
 obtain⟨w,e,l⟩:=hs
 cases h with
 | skip h=>
  cases h' with
  | skip h'=>exact⟨(),rfl,rfl⟩
  | fixed h' _ _ _=>rw[h]at h';cases h'
  | gives h' _ _ _=>rw[h]at h';cases h'
 | fixed h hs c hf=>
  cases h' with
  | skip h'=>rw[h]at h';cases h'
  | fixed h' hs' c' hf'=>
   refine⟨(),?_,rfl⟩;show c'=c;rcases hf w e with d|⟨d,rfl⟩<;>rcases hf' w e with b|⟨b,rfl⟩
   ·rw[d]at b;injection b with b;injection b with b;exact b.symm
   ·rw[d]at b;injection b with b;cases b
   ·rw[d]at b;injection b with b;cases b
   rfl
  | gives h' s hs' hg'=>rw[hs]at hs';cases hs'
 | gives h s hs hg=>
  cases h' with
  | skip h'=>rw[h]at h';cases h'
  | fixed h' hs' c' hf'=>rw[hs]at hs';cases hs'
  | gives h' s' hs' hg'=>
   rw[hs]at hs';injection hs' with hs';subst hs';exact⟨x,rfl,rfl⟩
theorem Head.sat(h:Head P ops C S i o a I V f p)(hs:mr C I):∃x,mr C (iK I (p x)):=by
 cases h with
 | skip h=>exact⟨(),hs⟩
 | fixed h _ c hf=>exact⟨(),hs⟩
 | gives h s hsi hg=>
  obtain⟨w,z,y⟩:=hs;have d:=hg w z y
  have b:∀(v:Value) (l:World),(C l∧∃x,v=s.f x∧s.Φ x l)→∃x,mr C (iK I (some (s.Φ x))):=by
   rintro v l ⟨q,x,_,t⟩;exact⟨x,l,q,t⟩
  generalize (execOp a.eval o).run P w=r at d
  cases r with
  | ok n l=>
   cases n<;>simp only[gT]at d
   case value u=>exact b _ _ d.2
   case skip=>exact b _ _ d.2
   case enter f args=>
    obtain⟨e,m,_,⟨v,_,_,A⟩,_⟩:=d [];exact b v m A
  | halt x l=>simp only[gT]at d
theorem Hv{p q:Option (World→Prop)}(h:p=none∨q=none):iK (iK I p) q=iK (iK I q) p:=by
 rcases h with rfl|rfl
 ·cases q<;>rfl
 cases p<;>rfl
end
inductive Waits (md:Region.Mode) (ops:Array Oper):Nat→Nat→Prop
 | one {j:Nat} {oj:Oper} (hj:ops[j]?=some oj) (e:Edge) (he:e∈oj.after) (hb:Region.binds md e=true):Waits md ops j e.on
 | more {j i:Nat} {oj:Oper} (hj:ops[j]?=some oj) (e:Edge) (he:e∈oj.after) (hb:Region.binds md e=true) (h:Waits md ops e.on i):Waits md ops j i
theorem Waits.listed{j i:Nat}{listed:Array Bool}(h:Waits md ops j i)(inv:HeadInv md ops n listed):listed.getD j false=true→listed.getD i false=true:=by
 induction h with
 | one hj e he hb=>exact fun b=>inv.closed _ _ hj b e he hb
 | more hj e he hb _ ih=>exact fun b=>ih (inv.closed _ _ hj b e he hb)
theorem Waits.ready{j i:Nat}{listed:Array Bool}(h:Waits md ops j i)(inv:HeadInv md ops n listed)(hr:j∈Region.ready md ops listed):listed.getD i false=true:=by
 obtain⟨_,o,c,b⟩:=mem_ready.1 hr
 cases h with
 | one hj e he hb=>
  rw[c]at hj;injection hj with hj;subst hj;exact b e he hb
 | more hj e he hb h=>
  rw[c]at hj;injection hj with hj;subst hj;exact h.listed inv (b e he hb)
theorem Waits.not{j i:Nat}{listed:Array Bool}(h:Waits md ops j i)(inv:HeadInv md ops n listed)(hr:j∈Region.ready md ops listed)(hi:i∈Region.ready md ops listed):False:=by
 have b:=h.ready inv hr;have c:=(mem_ready.1 hi).1;rcases Nat.lt_or_ge i listed.size with h'|h'
 ·simp[h']at c b;rw[c]at b;cases b
 simp[Array.getElem?_eq_none h']at b
def sI(md:Region.Mode)(ops:Array Oper)(S:Nat→Option RSpec):Prop:=∀(i j:Nat) (oi oj:Oper),ops[i]?=some oi→ops[j]?=some oj→i≠j→S i=none∨S j=none∨Waits md ops j i∨Waits md ops i j
theorem Eo{i:Nat}{oi:Oper}(hi:ops[i]?=some oi)(hsel:∀(j:Nat) (o:Oper) cs b,ops[j]?=some o→o.op≠.select cs b)(hT:sI md ops S)
  (hs:Region.sinkB md ops n=true) (hc:Region.chainB md ops n=true) (hn:n<ops.size) (hin:i<n) (hdone:∀listed a I,K listed a I→∀j∈Region.ready md ops listed,n≤j)
  {V:Type} {f:V→Value} {p:V→Option (World→Prop)} :
  ∀(fuel:Nat) (listed:Array Bool) (a:Act) (I:World→Prop),HeadInv md ops n listed →
   (∀j oj,ops[j]?=some oj→j≠i→listed.getD j true=false→(∀e∈oj.after,Region.binds md e=true→e.on≠i)→oi.apart ops oj=true) →
   i∈Region.ready md ops listed→Head P ops C S i oi a I V f p →
   (∀x,pG P md ops C S n K fuel (listed.setIfInBounds i true) (a.put oi.dst (f x)) (iK I (p x)))→pG P md ops C S n K (fuel+1) listed a I:=by
 intro fuel
 induction fuel with
 | zero=>
  intro listed a I s _ t D H q;have E:=(mem_ready.1 t).1;refine⟨fun h=>(by rw[h]at t;cases t),fun j A=>?_⟩
  have B:j<n:=by
   rcases Nat.lt_or_ge j n with h|h
   ·exact h
   exact absurd A (tail_waits hs hc hn s _ i rfl hin E j h)
  refine⟨B,fun oj c=>?_⟩;by_cases d:j=i
  ·subst d;rw[hi]at c;injection c with c;subst c;exact D.step H
  obtain⟨x,hx⟩:=D.sat q;have:=hdone _ _ _ (H x hx) j (ready_mono A d);omega
 | succ fuel ih=>
  intro listed a I s v t D H q;have W:=(mem_ready.1 t).1;refine⟨fun h=>(by rw[h]at t;cases t),fun j A=>?_⟩
  have B:j<n:=by
   rcases Nat.lt_or_ge j n with h|h
   ·exact h
   exact absurd A (tail_waits hs hc hn s _ i rfl hin W j h)
  refine⟨B,fun oj c=>?_⟩;by_cases d:j=i
  ·subst d;rw[hi]at c;injection c with c;subst c;exact D.step H
  obtain⟨r,ak,m,U⟩:=mem_ready.1 A;rw[c]at m;injection m with m;subst m
  have R:∀e∈oj.after,Region.binds md e=true→e.on≠i:=fun e he N J=>by
   have w:=U e he N;have h0:=(mem_ready.1 t).1;rw[J]at w;rcases Nat.lt_or_ge i listed.size with h'|h'
   ·simp[h']at h0 w;rw[h0]at w;cases w
   simp[Array.getElem?_eq_none h']at w
  have af:∀e∈oi.after,Region.binds md e=true→e.on≠j:=fun e he N J=>by
   obtain⟨h0,o2,F,L⟩:=mem_ready.1 t;rw[hi]at F;injection F with F;subst F;have w:=L e he N;rw[J]at w;rcases Nat.lt_or_ge j listed.size with h'|h'
   ·simp[h']at r w;rw[r]at w;cases w
   simp[Array.getElem?_eq_none h']at w
  have l:S i=none∨S j=none:=by
   rcases hT i j oi oj hi c (Ne.symm d)with h|h|h|h
   ·exact .inl h
   ·exact .inr h
   ·exact(h.not s A t).elim
   exact(h.not s t A).elim
  have ae:=v j oj c d r R;obtain⟨a1,a2,a3⟩:=Oper.apart_spec ae;have aj:∀cs b,oi.op≠.select cs b:=fun cs b=>hsel i oi cs b hi
  have Y:∀cs b,oj.op≠.select cs b:=fun cs b=>hsel j oj cs b c
  obtain⟨x0,ac⟩:=D.sat q
  have Z:∀x,S j=none∨iK I (p x)=I:=fun x=>by
   rcases l with h|h
   ·rw[D.quiet h x];exact .inr rfl
   exact .inl h
  obtain⟨Vj,T,G,aa,_⟩:=li (((H x0 ac).2 j (ready_mono A d)).2 oj c);have z:Head P ops C S j oj a I Vj T G:=aa.same (execOp_put oj Y a oi.dst _ a1).symm (wanted_put oj a oi.dst _ a1).symm ((Z x0).imp id Eq.symm)
  have ag:∀x,Head P ops C S j oj (a.put oi.dst (f x)) (iK I (p x)) Vj T G:=fun x=>
   z.same (execOp_put oj Y a oi.dst _ a1) (wanted_put oj a oi.dst _ a1) (Z x)
  have ai:∀y,S i=none∨iK I (G y)=I:=fun y=>by
   rcases l with h|h
   ·exact .inl h
   rw[z.quiet h y];exact .inr rfl
  have M:∀x y,iK (iK I (p x)) (G y)=iK (iK I (G y)) (p x):=fun x y=>by
   refine Hv ?_;rcases l with h|h
   ·exact .inl (D.quiet h x)
   exact .inr (z.quiet h y)
  refine z.step fun y=>?_
  refine ih (listed.setIfInBounds j true) (a.put oj.dst (T y)) (iK I (G y)) (s.set A B) ?_ (ready_mono t (Ne.symm d)) ?_ ?_
  ·intro k ok hk ad E ah;refine v k ok hk ad ?_ ah;by_cases O:j=k
   ·subst O;exact r
   rw[getD_set_ne true O]at E;exact E
  ·exact D.same (execOp_put oi aj a oj.dst _ a3) (wanted_put oi a oj.dst _ a3) (ai y)
  intro x;rw[←M x y,←Act.put_comm a (f x) (T y) a2,Array.setIfInBounds_comm _ _ d]
  have N:mr C (iK I (p x))→pG P md ops C S n K fuel ((listed.setIfInBounds i true).setIfInBounds j true) ((a.put oi.dst (f x)).put oj.dst (T y)) (iK (iK I (p x)) (G y)):=by
   intro X;obtain⟨V',f',p',h',ab⟩:=li (((H x X).2 j (ready_mono A d)).2 oj c);obtain⟨y',e1,e2⟩:=(ag x).one h' X y;rw[←e1,←e2];exact ab y'
  have u:mr C (iK (iK I (p x)) (G y))→mr C (iK I (p x)):=fun hs=>by
   rcases l with h|h
   ·rw[D.quiet h x];exact q
   rw[z.quiet h y]at hs;exact hs
  cases fuel with
  | zero=>exact fun hs=>N (u hs) hs
  | succ fuel=>exact fun hs=>N (u hs) hs
theorem Ab(hsel:Region.noSelect ops=true)(hT:sI md ops S)(hs:Region.sinkB md ops n=true)(hc:Region.chainB md ops n=true)(hn:n<ops.size) :
  ∀(l:List Oper) (k:Nat) (listed:Array Bool) (a:Act) (I:World→Prop),HeadInv md ops n listed→(∀j,j<l.length→l[j]?=ops[k+j]?)→k+l.length=n →
  Region.lexHead md ops g l.length k listed=true→sV P ops C S Q l k a I →
  pG P md ops C S n (fun listed' a' I'=>Region.seqB md ops g n listed'=true∧Dn C Q a' I') l.length listed a I
 | [],k,listed,a,I,_,_,hk,hB,h=>fun _=>by
  have:k=n:=by simpa using hk
  subst this;exact⟨by simpa[Region.lexHead]using hB,h⟩
 | o::l,k,listed,a,I,inv,hl,hk,hB,h=>by
  have m:ops[k]?=some o:=by simpa using(hl 0 jz).symm
  simp only[List.length_cons,Region.lexHead,Bool.and_eq_true]at hB;obtain⟨⟨t,q⟩,e⟩:=hB;have b:k<n:=by simp only[List.length_cons]at hk;omega
  have c:k∈Region.ready md ops listed:=by simpa using t
  obtain⟨V,f,p,s,d⟩:=li (show kX P ops C S k o (sV P ops C S Q l (k+1)) a I from h)
  exact Eo m (Region.noSelect_spec hsel) hT hs hc hn b (fun listed' a' I' r=>seqB_ready r.1) l.length listed a I inv (Region.free_spec m q) c s
   (fun x=>Ab hsel hT hs hc hn l (k+1) _ _ _ (inv.set c b) (fun j u=>by have:=hl (j+1) jm;simpa[Nat.add_assoc,Nat.add_comm 1 j]using this) (by simp only[List.length_cons]at hk;omega) e (d x))
structure PhAt (P:Program) (ops:Array Oper) (C:World→Prop) (S:Nat→Option RSpec) (Q:Act→World→Prop) (l:List Oper) (k:Nat) (a:Act) (I:World→Prop):Prop where
 out:sV P ops C S Q l k a I
theorem kK{id:Nat}{Q':Exit→Act→World→Prop}{a:Act}{w:World}{l:List Oper}(n:Nat)(S:Nat→Option RSpec)(C:World→Prop)(I:World→Prop)
  (hm:P.follows .mixedOrders=true) (hB:Region.lexTailB .any l.toArray n=true) (hT:sI .any l.toArray S) (hC:C { w with drawn:=w.drawn+1 }) (hI:I { w with drawn:=w.drawn+1 })
  (h:PhAt P l.toArray C S (fun a w=>wpList P l.toArray Q' (l.drop n) a w) (l.take n) 0 a I):(Code.region id l.toArray true).wp P Q' a w:=by
 simp only[Region.lexTailB,Bool.and_eq_true,decide_eq_true_eq]at hB;obtain⟨⟨⟨⟨d,A⟩,E⟩,D⟩,m⟩:=hB;have B:n<l.length:=by simpa using A
 have b:(l.take n).length=n:=jm;have q:(l.drop n).length=l.toArray.size-n:=jz
 have e:HeadInv .any l.toArray n (Array.replicate l.toArray.size false):=
  ⟨jz,fun j G _ x=>(by rw[getD_replicate_false]at x;cases x),fun t _ F=>getD_in (by simpa using F) (getD_replicate_false _ _)⟩
 have H:=Ab (C:=C) (md:=.any) (g:=l.toArray.size-n) d hT E D A (l.take n) 0 _ a I e (fun j v=>by
  have s:j<n:=by rw[b]at v;exact v
  simp[s]) (by simpa using b) (by rw[b];exact m) h.out
 refine wp_region_any hm ?_
 have:=pX (Q':=Q') (g:=l.toArray.size-n) (fun c a' I' z y u r=>by
  have:=wpAny_of_seq (md:=.any) (Q':=Q') (l.drop n) n c a' z (fun j=>by simp[List.getElem?_drop]) (by rw[q];exact y.1) (y.2 z u r)
  rwa[q]at this) _ _ _ _ _ hC hI H
 rw[b,show n+(l.toArray.size-n)=l.toArray.size by omega]at this;exact this
section
variable {o:Oper} {rest:List Oper} {k j:Nat} {a:Act} {I:World→Prop}
theorem ik(k':Nat)(c:Value)(hk:k+1=k')(hs:S k=none)(hw:Region.wanted o (yielded ops a.tmps)=true)
  (hf:∀w,C w→(execOp a.eval o).run P w=.ok (.value c) w) (h:PhAt P ops C S Q rest k' (a.put o.dst c) I):PhAt P ops C S Q (o::rest) k a I:=by
 subst hk;refine⟨?_⟩;show kX P ops C S k o _ a I;unfold kX;rw[if_pos hw];simp only[hs];exact⟨c,fun w b=>.inl (hf w b),h.out⟩
theorem kw(k':Nat)(s:RSpec)(hk:k+1=k')(hs:S k=some s)(hw:Region.wanted o (yielded ops a.tmps)=true)
  (hg:∀w,C w→I w→gT P Tr w (fun v w'=>C w'∧∃x,v=s.f x∧s.Φ x w') ((execOp a.eval o).run P w)) (h:∀x,PhAt P ops C S Q rest k' (a.put o.dst (s.f x)) (s.Φ x)):PhAt P ops C S Q (o::rest) k a I:=by
 subst hk;refine⟨?_⟩;show kX P ops C S k o _ a I;unfold kX;rw[if_pos hw];simp only[hs];exact⟨hg,fun x=>(h x).out⟩
theorem kT(h:∀w,C w→I w→Q a w):PhAt P ops C S Q [] k a I:=⟨h⟩
end
def nL(md:Region.Mode)(ops:Array Oper):Nat→Nat→Nat→Bool
 | 0,_,_=>false
 | fuel+1,j,i=>match ops[j]? with
  | some oj=>oj.after.any fun e=>Region.binds md e&&(e.on==i || nL md ops fuel e.on i)
  | none=>false
theorem qE{fuel j i:Nat}(h:nL md ops fuel j i=true):Waits md ops j i:=by
 induction fuel generalizing j with
 | zero=>cases h
 | succ fuel ih=>
  unfold nL at h
  split at h
  ·rename_i oj hj;obtain⟨e,b,d⟩:=Array.any_eq_true'.1 h;simp only[Bool.and_eq_true,Bool.or_eq_true,beq_iff_eq]at d;obtain⟨c,h2|h2⟩:=d
   ·subst h2;exact .one hj e b c
   exact .more hj e b c (ih h2)
  cases h
def M5(md:Region.Mode)(ops:Array Oper)(l:List Nat):Bool:=
 l.all fun i=>l.all fun j=>i==j || nL md ops 8 j i || nL md ops 8 i j
theorem kN{l:List (Nat × RSpec)}(h:M5 md ops (l.map (·.1))=true):sI md ops (fF l):=by
 have b:∀i,fF l i≠none→i∈l.map (·.1):=by
  intro i;clear h
  induction l with
  | nil=>intro h;exact absurd rfl h
  | cons x l ih=>
   intro h;obtain⟨k,s⟩:=x;unfold fF at h
   split at h
   ·rename_i e;subst e;simp
   exact List.mem_cons_of_mem _ (ih h)
 intro i j q u r t c;by_cases m:fF l i=none
 ·exact .inl m
 by_cases d:fF l j=none
 ·exact .inr (.inl d)
 have h3:=List.all_eq_true.1 (List.all_eq_true.1 h i (b i m)) j (b j d);simp only[Bool.or_eq_true,beq_iff_eq]at h3;rcases h3 with(h3|h3)|h3
 ·exact absurd h3 c
 ·exact .inr (.inr (.inl (qE h3)))
 exact .inr (.inr (.inr (qE h3)))
end
end Ph

namespace Hi
open Go.RowKit
theorem jW{w:World}{B size n:Nat}{b o:Nat}{xs:List Value}(h:Reads w B size (some ⟨b,o,none⟩) n xs):∀j u,xs[j]?=some u→b<B∧w.cell? ⟨b,o+j,none⟩=some u:=by
 intro j u c;rcases Nat.eq_zero_or_pos n with rfl|hn
 ·have a:=h.1;rw[Nat.zero_mul]at a;have:=List.eq_nil_of_length_eq_zero a;subst this;simp at c
 obtain⟨i,g,e,f,d⟩:=h.2 hn
 cases e;exact⟨f,d j u c⟩
theorem Row.app{B:Nat}{w wr w5:World}{v v5:Value}{l X:List Bk}{m:Nat}(h:Row B w wr v l)(hB:B≤wr.heap.size)(hX:X.length=m)(ho:w5.ownsRow B 91 2 v5 (l.length+m) (bkC l++bkC X))(hg:wr.grownBy w5 v.ownBlock):Row B w w5 v5 (l++X):=by
 subst hX;refine⟨?_,h.bel.trans (tG h.own hg hB)⟩;unfold OwnB;rw[zJ,rK];exact ho
theorem Row.more{B:Nat}{w wr:World}{v:Value}{l:List Bk}(h:Row B w wr v l)(hB:B≤wr.heap.size)(o:Obj):Row B w (wr.alloc o) v l:=h.below hB (zRR _)
theorem Row.empty(w:World):Row w.heap.size w (w.alloc (.cells #[] 91)) (.slice (some ⟨w.heap.size,0,none⟩) 0 0) []:=
 ⟨World.ownsRow_lit (base:=w.heap.size) (e:=91) (size:=2) w #[] 0 jz jx rfl,zRR _⟩
end Hi

namespace Ph
open Go.RowKit
section
variable {P:Program} {o:Oper} {a:Act} {w:World} {R:Value→World→Prop}
theorem IV{G:World→World→Prop}{w':World}(h:(execOp a.eval o).run P w=.ok .skip w')(hG:G w w')(hR:R undef w'):gT P G w R ((execOp a.eval o).run P w):=by rw[h];exact⟨hG,hR⟩
end
end Ph
end Go.Proofs.YtmomjpolkkbhnaaGreat
