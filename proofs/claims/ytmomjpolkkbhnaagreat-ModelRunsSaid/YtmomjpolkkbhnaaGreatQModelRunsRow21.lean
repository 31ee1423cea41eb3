/- qparse: part: the walk (printed by gen_qph.py). -/
import Derived.RegionDies
import Derived.Test.YtmomjpolkkbhnaaGreatQModelRunsRow20
set_option linter.unusedSimpArgs false
set_option maxRecDepth 20000
set_option maxHeartbeats 100000000
open Go.Proofs.Tryz
namespace Go.Proofs.YtmomjpolkkbhnaaGreat
namespace Qp
open Go.RowKit Ut Tk Qy
def Ms(B:Nat)(w:World)(g:Nat)(o:Option (Q × List P))(e:Ending)(w':World):Prop:=
 match o with
 | some (q,r)=>∃a0 a1 a2 a3,e=.returned (.agg #[a0,a1,a2,a3])∧QF w' (fun b=>w.heap.size≤b∧b<w'.heap.size) q [a0,a1,a2,a3]∧Rd B w' g r∧w.grownBy w' (some g)
 | none=>e=lC∧w.grownBy w' (some g)
def o5(B:Nat)(w:World)(g:Nat)(m:Md)(l:List P)(e:Ending)(w':World):Prop:=∃o,R m l o∧Ms B w g o e w'
def pE(l:List P):Prop:=∀x∈l,Pc x∧x.length≤1048576
def kG(l:List P):Prop:=∀(B:Nat) (w:World) (g:Nat),Rd B w g l→Calls prog 152 #[.pointer (some ⟨g,0,none⟩)] w (o5 B w g .part l)
def oJ(l:List P):Prop:=∀(B:Nat) (w:World) (g:Nat),Rd B w g l→Calls prog 125 #[.pointer (some ⟨g,0,none⟩)] w (o5 B w g (.and []) l)
def xD(l:List P):Prop:=∀(B:Nat) (w:World) (g:Nat),Rd B w g l→Calls prog 97 #[.pointer (some ⟨g,0,none⟩)] w (o5 B w g (.or []) l)
theorem mJ(w:World)(g:Nat)(a b c d:Value):w.grownBy (set4 w g a b c d) (some g):=
 ⟨rfl,rfl,rfl,by rw[jb];exact zG _,fun k _ f=>kL w g k a b c d (fun e=>f (by rw[e]))⟩
theorem fD(s:P)(l:P):((str s).toList==l)=decide (s=l):=by
 rw[tl,gM,Bool.eq_iff_iff,beq_iff_eq,decide_eq_true_iff]
def W0(w:World):World:=w.alloc (.cells #[.int .i64 0,.string ByteArray.empty,.slice none 0 0,.slice none 0 0] 60)
theorem nJ(w:World):(W0 w).heap.size=w.heap.size+1:=by simp[W0]
theorem nK(w:World):Blk (W0 w) w.heap.size 60 #[.int .i64 0,.string ByteArray.empty,.slice none 0 0,.slice none 0 0]:=Blk.new w _ _
theorem ib(w:World):zWW w (W0 w):=zRR _
theorem _root_.Go.Proofs.YtmomjpolkkbhnaaGreat.Blk.keep4{w w':World}{b g:Nat}{t:TypeId}{cs:Array Value}(h:Blk w b t cs)(hg:w.grownBy w' (some g))(hne:b≠g):Blk w' b t cs:=h.grown hg (fun e=>hne (by injection e))
theorem rB:kG []:=by
 intro B w g b;have c:=BJ B (W0 w) g (b.below (ib w));have a:=zh (ib w);clear b;unfold W0 at c;go_enter func152,ntmps152
 go_wp2_with (first
  | (go_at_call 127;refine c.mono ?_;rintro e d ⟨rfl,rfl⟩)
  | (go_at_call 98;refine(lY g _).mono ?_;rintro e d ⟨rfl,rfl⟩))
 exact⟨rfl,none,.pnil,rfl,fH a.out _⟩
theorem G7(s:P)(t:List P)(hs:oI s=true)(hp:Pc s)(hl:s.length≤1048576):kG (s::t):=by
 intro B w g l;have Y:=l.lt;have S:=mM B (W0 w) g s t (l.below (ib w));have m:=zh (ib w);have j:=zh (nK w);have y:=nJ w;have he:=mU s (l.ne s jz);have I:((str s).toList == [78,79,84])=false:=by rw[fD];exact zN (fun e=>by rw[e]at hs;exact absurd hs jd)
 have W:((str s).toList == [40])=false:=by rw[fD];exact zN (fun e=>by rw[e]at hs;exact absurd hs jd)
 have Z:((str s).toList == [41])=false:=by rw[fD];exact zN (fun e=>by rw[e]at hs;exact absurd hs jd)
 have H:((str s).toList == [65,78,68])=false:=by rw[fD];exact zN (fun e=>by rw[e]at hs;exact absurd hs jd)
 have aa:((str s).toList == [79,82])=false:=by rw[fD];exact zN (fun e=>by rw[e]at hs;exact absurd hs jd)
 have L:=l.low;clear l;generalize z:W0 w=v0 at *;have HW:=zh z;unfold W0 at z;have N:=zh (R.pleaf (t:=t) hs);clear hs;subst z;have O:=fun wx=>Mr g s hp hl wx
 generalize fU s=oq at *;have M:=zh O;clear O hp hl;go_enter func152,ntmps152;go_wp2_with fail;refine S.mono ?_;rintro e E ⟨rfl,n,d⟩;have k:w.heap.size<E.heap.size:=by have:=d.size;rw[y]at this;omega
 have v:=zh (j.out.keep4 d jo);have f:w.grownBy E (some g):=fV (fH m.out _) d;have Hbw1:=zh f;have r:=zh n;clear d f n j m S;go_wp2_with fail;refine(M.out E).mono ?_;intro e V c;clear M
 cases oq with
 | none=>
  obtain⟨rfl,a⟩:=c;have o:=zh a;clear a;unfold lC;exact⟨rfl,none,N.out,rfl,fV Hbw1.out (fH o.out _)⟩
 | some q=>
  obtain⟨a0,a1,a2,a3,rfl,A,a⟩:=c;have h:=v.out.below a k;obtain⟨q0,q1,q2,q3,f0,f1,f2,f3⟩:=h.four;obtain⟨D,p,F,x,u,G,T⟩:=A.four;simp only[zQ,and_true]at T;obtain⟨rfl,rfl,rfl,rfl⟩:=T;have J:=h.set4 (.int .i64 q.kind) (.string q.name) (.slice D p F) (.slice x u G);have U:=zh (kW (w:=w) A k (zG _));have i:=mJ V w.heap.size (.int .i64 q.kind) (.string q.name) (.slice D p F) (.slice x u G);have C:=zh ((r.out.below a).other i (fun b e=>by injection e with e;omega));have Hg:=zh (lT (fV Hbw1.out (fH a _)) i (fun b e=>by injection e with e;omega));have X:=zh J;clear A a h J i;go_wp2_with fail;refine zw (fA rfl rfl (zv _ w.heap.size 60 60 #[.int .i64 q.kind,.string q.name,.slice D p F,.slice x u G] (0,0) _ X.out underlying60 rfl jk)) rfl ?_;exact⟨_,N.out,_,_,_,_,rfl,U.out,C.out,Hg.out⟩
theorem K9(t:List P):kG (RP::t):=by
 intro B w g c;have o:=c.lt;have r:=mM B (W0 w) g RP t (c.below (ib w));have i:=zh (ib w);have d:=zh (nK w);have f:=nJ w;have u:=mU RP (c.ne RP jz);have m:((str RP).toList == [78,79,84])=false:=by rw[fD];decide
 have n:((str RP).toList == [40])=false:=by rw[fD];decide
 have p:((str RP).toList == [41])=true:=by rw[fD];decide
 have l:((str RP).toList == [65,78,68])=false:=by rw[fD];decide
 have q:((str RP).toList == [79,82])=false:=by rw[fD];decide
 have a:=c.low;clear c;generalize h:W0 w=s at *;have y:=zh h;unfold W0 at h;subst h;clear f a d;go_enter func152,ntmps152
 go_wp2_with (first
  | (go_at_call 127;refine r.mono ?_;rintro e x ⟨rfl,j,b⟩;have k:=zh b;clear j b)
  | (go_at_call 98;refine(lY g _).mono ?_;rintro e v ⟨rfl,rfl⟩))
 exact⟨rfl,none,.pbad (.inl rfl),rfl,fV (fH i.out _) k.out⟩
theorem JW(t:List P):kG (AND::t):=by
 intro B w g c;have o:=c.lt;have r:=mM B (W0 w) g AND t (c.below (ib w));have i:=zh (ib w);have d:=zh (nK w);have f:=nJ w;have u:=mU AND (c.ne AND jz);have m:((str AND).toList == [78,79,84])=false:=by rw[fD];decide
 have n:((str AND).toList == [40])=false:=by rw[fD];decide
 have p:((str AND).toList == [41])=false:=by rw[fD];decide
 have l:((str AND).toList == [65,78,68])=true:=by rw[fD];decide
 have q:((str AND).toList == [79,82])=false:=by rw[fD];decide
 have a:=c.low;clear c;generalize h:W0 w=s at *;have y:=zh h;unfold W0 at h;subst h;clear f a d;go_enter func152,ntmps152
 go_wp2_with (first
  | (go_at_call 127;refine r.mono ?_;rintro e x ⟨rfl,j,b⟩;have k:=zh b;clear j b)
  | (go_at_call 98;refine(lY g _).mono ?_;rintro e v ⟨rfl,rfl⟩))
 exact⟨rfl,none,.pbad (.inr (.inl rfl)),rfl,fV (fH i.out _) k.out⟩
theorem LB(t:List P):kG (OR::t):=by
 intro B w g c;have o:=c.lt;have r:=mM B (W0 w) g OR t (c.below (ib w));have i:=zh (ib w);have d:=zh (nK w);have f:=nJ w;have u:=mU OR (c.ne OR jz);have m:((str OR).toList == [78,79,84])=false:=by rw[fD];decide
 have n:((str OR).toList == [40])=false:=by rw[fD];decide
 have p:((str OR).toList == [41])=false:=by rw[fD];decide
 have l:((str OR).toList == [65,78,68])=false:=by rw[fD];decide
 have q:((str OR).toList == [79,82])=true:=by rw[fD];decide
 have a:=c.low;clear c;generalize h:W0 w=s at *;have y:=zh h;unfold W0 at h;subst h;clear f a d;go_enter func152,ntmps152
 go_wp2_with (first
  | (go_at_call 127;refine r.mono ?_;rintro e x ⟨rfl,j,b⟩;have k:=zh b;clear j b)
  | (go_at_call 98;refine(lY g _).mono ?_;rintro e v ⟨rfl,rfl⟩))
 exact⟨rfl,none,.pbad (.inr (.inr rfl)),rfl,fV (fH i.out _) k.out⟩
theorem JX(t:List P)(ih:kG t):kG (NOT::t):=by
 intro B w g M;have aj:=M.lt;have c0:=mM B (W0 w) g NOT t (M.below (ib w));have N:=zh (ib w);have L:=zh (nK w);have V:=nJ w;have he:=mU NOT (M.ne NOT jz);have af:((str NOT).toList == [78,79,84])=true:=by rw[fD];decide
 have ai:((str NOT).toList == [40])=false:=by rw[fD];decide
 have ak:((str NOT).toList == [41])=false:=by rw[fD];decide
 have ad:((str NOT).toList == [65,78,68])=false:=by rw[fD];decide
 have al:((str NOT).toList == [79,82])=false:=by rw[fD];decide
 have ag:=M.low;clear M;generalize W:W0 w=v0 at *;have HW:=zh W;unfold W0 at W;subst W;go_enter func152,ntmps152;go_wp2_with fail;refine c0.mono ?_;rintro e w1 ⟨rfl,S,l⟩;have Z:w.heap.size<w1.heap.size:=by have:=l.size;rw[V]at this;omega
 have J:=zh (L.out.keep4 l jo);have Hbw1:=zh (fV (fH N.out _) l);have c1:=ih B w1 g S;clear l S L N c0;go_wp2_with fail;refine c1.mono ?_;rintro e c ⟨o,O,a⟩;have h:=zh O;clear c1 O
 match o,a,h with
 | none,a,h=>
  obtain⟨rfl,d⟩:=a;have ab:=zh d;clear d;unfold lC;exact⟨rfl,none,.pnot rfl h.out,rfl,fV Hbw1.out ab.out⟩
 | some (q,r),a,h=>
  obtain⟨a0,a1,a2,a3,rfl,X,I,d⟩:=a;have F:=J.out.keep4 d jo;have ae:w.heap.size<c.heap.size:=zT Z d.size;have ah:w.heap.size≠c.heap.size:=jo;obtain⟨q0,q1,q2,q3,f0,f1,f2,f3⟩:=F.four;obtain⟨y,s,z,x,v,A,e4⟩:=X.four;simp only[zQ,and_true]at e4;obtain⟨rfl,rfl,rfl,rfl⟩:=e4;have T:=F.set4 (.int .i64 7) (.string ⟨#[]⟩) (.slice none 0 0) (.slice (some ⟨c.heap.size,0,none⟩) 1 1);have n:=mJ c w.heap.size (.int .i64 7) (.string ⟨#[]⟩) (.slice none 0 0) (.slice (some ⟨c.heap.size,0,none⟩) 1 1);have f:=jb c w.heap.size (.int .i64 7) (.string ⟨#[]⟩) (.slice none 0 0) (.slice (some ⟨c.heap.size,0,none⟩) 1 1)
  have D:QF (set4 c w.heap.size (.int .i64 7) (.string ⟨#[]⟩) (.slice none 0 0) (.slice (some ⟨c.heap.size,0,none⟩) 1 1)) (fun b=>w.heap.size≤b∧b<c.heap.size) q [.int .i64 q.kind,.string q.name,.slice y s z,.slice x v A]:=
   (X.keep fun b _ m=>vP (w:=c) (kL c w.heap.size b _ _ _ _ (by have:=m.1;omega))).mono fun b m=>⟨by have:=m.1;omega,m.2⟩
  have C:=I.other n (fun b e=>by injection e with e;omega);have G:=lT (fV Hbw1.out d) n (fun b e=>by injection e with e;omega);generalize aa:set4 c w.heap.size (.int .i64 7) (.string ⟨#[]⟩) (.slice none 0 0) (.slice (some ⟨c.heap.size,0,none⟩) 1 1)=H at T n f D C G;have E:=Blk.new H 60 #[.int .i64 q.kind,.string q.name,.slice y s z,.slice x v A];have k:=(zy H.heap.size H).alloc (zG _) (.cells #[.int .i64 q.kind,.string q.name,.slice y s z,.slice x v A] 60);have ac:(H.alloc (.cells #[.int .i64 q.kind,.string q.name,.slice y s z,.slice x v A] 60)).heap.size=c.heap.size+1:=by rw[vM,f]
  rw[f]at E
  have HF:Hid (QF (H.alloc (.cells #[.int .i64 q.kind,.string q.name,.slice y s z,.slice x v A] 60)) (fun b=>w.heap.size≤b∧b<(H.alloc (.cells #[.int .i64 q.kind,.string q.name,.slice y s z,.slice x v A] 60)).heap.size) (sQ q) [.int .i64 7,.string ⟨#[]⟩,.slice none 0 0,.slice (some ⟨c.heap.size,0,none⟩) 1 1]):=zh (by
   refine QF.mk (nm:=⟨#[]⟩) [[.int .i64 q.kind,.string q.name,.slice y s z,.slice x v A]] rfl (by simpa using ReadsS.none_) rfl rfl jz ⟨rfl,fun _=>⟨c.heap.size,0,rfl,⟨jo,jo⟩,fun j u hu=>?_⟩⟩ (fun i hi am=>?_)
   ·rw[zi,E.cell]
    simpa using hu
   have:i=0:=by simp at hi;exact hi
   subst this
   exact(D.keep fun b o m=>k.cell (p:=⟨b,o,none⟩) (by rw[f];exact m.2)).mono fun b m=>⟨m.1,by have:=m.2;omega⟩)
  have HX:=zh (T.alloc (.cells #[.int .i64 q.kind,.string q.name,.slice y s z,.slice x v A] 60));have U:=zh (C.below k);have Y:=zh (fV G (fH k _));clear T n D C G E k ac X I d F Hbw1 J ih;subst aa;clear f;go_wp2_with fail;refine zw (fA rfl rfl (zv _ w.heap.size 60 60 #[.int .i64 7,.string ⟨#[]⟩,.slice none 0 0,.slice (some ⟨c.heap.size,0,none⟩) 1 1] (0,0) _ HX.out underlying60 rfl jk)) rfl ?_;exact⟨_,R.pnot rfl h.out,_,_,_,_,rfl,HF.out,U.out,Y.out⟩
end Qp

namespace Qp
open Go.RowKit Ut Tk Qy
theorem tC{w w1:World}{row:Option Nat}(h:w.grownBy w1 row):w.grownBy w1.drew row:=⟨h.os,h.tape,h.output,h.size,h.block⟩
theorem LC(t:List P)(ih:xD t):kG (LP::t):=by
 intro B w g O;have aD:=O.lt;have c0:=mM B (W0 w) g LP t (O.below (ib w));have ag:=zh (ib w);have V:=zh (nK w);have ao:=nJ w;have he:=mU LP (O.ne LP jz);have ax:((str LP).toList == [78,79,84])=false:=by rw[fD];decide
 have aC:((str LP).toList == [40])=true:=by rw[fD];decide
 have aB:((str LP).toList == [41])=false:=by rw[fD];decide
 have av:((str LP).toList == [65,78,68])=false:=by rw[fD];decide
 have aE:((str LP).toList == [79,82])=false:=by rw[fD];decide
 have ay:=O.low;clear O;generalize hW:W0 w=v0 at *;have HW:=zh hW;unfold W0 at hW;subst hW;go_enter func152,ntmps152;go_wp2_with fail;refine c0.mono ?_;rintro e w1 ⟨rfl,ai,A⟩;have N:w.heap.size<w1.heap.size:=by have:=A.size;rw[ao]at this;omega
 have U:=zh (V.out.keep4 A jo);have Hbw1:=zh (fV (fH ag.out _) A);have c1:=ih B w1 g ai;clear A ai V ag c0;go_wp2_with fail;refine c1.mono ?_;rintro e x ⟨o,J,c⟩;have a:=zh J;clear c1 J
 match o,c,a with
 | none,c,a=>
  obtain⟨rfl,k⟩:=c;have am:=zh k;clear k;unfold lC;exact⟨rfl,none,.plp rfl a.out,rfl,fV Hbw1.out am.out⟩
 | some (q,r),c,a=>
  obtain⟨a0,a1,a2,a3,rfl,hF,ac,k⟩:=c;have T:=U.out.keep4 k jo;have aw:w.heap.size<x.heap.size:=zT N k.size;have au:w.heap.size≠x.heap.size:=jo;have aj:=fV Hbw1.out k;obtain⟨C,p,n,m,u,y,e4⟩:=hF.four;simp only[zQ,and_true]at e4;obtain⟨rfl,rfl,rfl,rfl⟩:=e4;have D:=(zy x.heap.size x).alloc (zG _) (.cells #[.int .i64 q.kind,.string q.name,.slice C p n,.slice m u y] 60);have aA:(x.alloc (.cells #[.int .i64 q.kind,.string q.name,.slice C p n,.slice m u y] 60)).heap.size=x.heap.size+1:=jz;have aa:=Blk.new x 60 #[.int .i64 q.kind,.string q.name,.slice C p n,.slice m u y];have L:=ac.below D;have Y:=hF.grow D;have M:=T.alloc (.cells #[.int .i64 q.kind,.string q.name,.slice C p n,.slice m u y] 60);have I:=fV aj (fH D _);have Z:=zh Y;have ad:=zh M;have X:=zh aa;have HgB:=zh I;have f:=zh L;clear hF ac k T Hbw1 U ih aj D aa L Y M I;go_wp2_with fail;generalize al:x.alloc (.cells #[.int .i64 q.kind,.string q.name,.slice C p n,.slice m u y] 60)=w3 at *;clear al
  match r,a,f with
  | [],a,f=>
   have S:=BJ B w3.drew g (f.out.below ((zy _ _).drew))
   go_region_dies
   rename_i K hK;refine S.mono ?_;rintro e w' ⟨rfl,rfl⟩;refine hK _ _ ?_;clear hK K;refine wpAny_take (i:=7) (v:=.bool false) rfl jk jk jk (fun _ _ _ h=>h) (Or.inl ⟨jr,?_⟩) ?_
   ·intro w;go_simp
   refine wpAny_ready (rs:=[8]) jk jz ?_;refine AllReady.cons rfl (fun K hK=>?_) AllReady.nil;go_simp;refine(lY g _).mono ?_;rintro e w' ⟨rfl,rfl⟩;exact⟨rfl,none,R.plp rfl a.out,rfl,tC HgB.out⟩
  | s'::r',a,f=>
   have S:=mM B w3.drew g s' r' (f.out.below ((zy _ _).drew));have aq:=f.out.lt;have ah:w.heap.size≠g:=jo;by_cases j:s'=RP
   ·have ap:((str s').toList == [41])=true:=by rw[fD];exact zO j
    have HH:Hid (R .part (LP::t) (some (q,r'))):=zh (by
     have:=R.plp (s:=LP) rfl a.out;rw[show closed (some (q,s'::r'))=some (q,r')from zI j]at this
     exact this)
    have ar:=zh j;clear j a
    go_region_with (first
     | (go_at_call 127;refine S.mono ?_;rintro e H ⟨rfl,z,l⟩;have ae:=zh z;have d:=zh l;clear z l)
     | (go_at_call 98;refine(mO g _).mono ?_;rintro e w' ⟨rfl,rfl⟩))
    have ab:x.heap.size≠g:=jo;have az:w3.heap.size≤H.heap.size:=d.out.size;have E:=(X.out.drew).keep4 d.out ab;have F:=(ad.out.drew).keep4 d.out ah
    have af:QF H (fun b=>w1.heap.size≤b∧b<H.heap.size) q [.int .i64 q.kind,.string q.name,.slice C p n,.slice m u y]:=
     (Z.out.keep (w':=H) fun b o W=>vP (w:=w3) (d.out.block b W.2 (fun e=>by injection e with e;have:=W.1;omega))).mono fun b W=>⟨W.1,by have:=W.2;omega⟩
    obtain⟨q0,q1,q2,q3,f0,f1,f2,f3⟩:=F.four;obtain⟨x0,x1,x2,x3,_,_,_,_⟩:=E.four;have hX:=F.set4 (.int .i64 q.kind) (.string q.name) (.slice C p n) (.slice m u y);have G:=mJ H w.heap.size (.int .i64 q.kind) (.string q.name) (.slice C p n) (.slice m u y);have HF:=zh (kW (w:=w) af N (zG _));have an:=zh (ae.out.other G (fun b e=>by injection e with e;omega));have ak:=zh (lT (fV (tC HgB.out) d.out) G (fun b e=>by injection e with e;omega));have HX:=zh hX;clear hX G af E F X ad Z HgB d ae f S;go_wp2_with fail;refine zw (fA rfl rfl (zv _ w.heap.size 60 60 #[.int .i64 q.kind,.string q.name,.slice C p n,.slice m u y] (0,0) _ HX.out underlying60 rfl jk)) rfl ?_;exact⟨_,HH.out,_,_,_,_,rfl,HF.out,an.out,ak.out⟩
   have ap:((str s').toList == [41])=false:=by rw[fD];exact zN j
   have HH:Hid (R .part (LP::t) none):=zh (by
    have:=R.plp (s:=LP) rfl a.out;rw[show closed (some (q,s'::r'))=none from zH j]at this
    exact this)
   clear j a
   go_region_dies
   rename_i K hK;refine S.mono ?_;rintro e H ⟨rfl,z,l⟩;have d:=zh l;clear z l;refine hK _ _ ?_;clear hK K;refine wpAny_take (i:=7) (v:=.bool false) rfl jk jk jk (fun _ _ _ h=>h) (Or.inl ⟨jr,?_⟩) ?_
   ·intro w;go_simp
   refine wpAny_ready (rs:=[8]) jk jz ?_;refine AllReady.cons rfl (fun K hK=>?_) AllReady.nil;go_simp;refine(lY g _).mono ?_;rintro e w' ⟨rfl,rfl⟩;exact⟨rfl,none,HH.out,rfl,fV (tC HgB.out) d.out⟩
end Qp

namespace Qp
open Go.RowKit Ut Tk Qy
theorem rW:(prog.info? 60).map (fun i=>(i.zero,i.size,i.bytes))=some (some (.agg #[.int .i64 0,.string ByteArray.empty,.slice none 0 0,.slice none 0 0]),4,72):=by kernel_rfl
def lenOf:Value→Nat | .slice _ n _=>n|_=>0
theorem Qs.one{base:Nat}{w:World}{q:Q}{a0 a1 a2 a3:Value}(h:QF w (fun b=>base≤b∧b<w.heap.size) q [a0,a1,a2,a3])(hb:base≤w.heap.size) :
  Qs base (w.alloc (.cells #[a0,a1,a2,a3] 60)) (.slice (some ⟨w.heap.size,0,none⟩) 1 1) [q] [[a0,a1,a2,a3]]:=by
 have f:=Blk.new w 60 #[a0,a1,a2,a3];have c:=(zy w.heap.size w).alloc (zG _) (.cells #[a0,a1,a2,a3] 60);refine⟨rfl,⟨rfl,.inr ⟨w.heap.size,1,#[a0,a1,a2,a3],rfl,hb,f,zG _,jx,rfl,rfl⟩⟩,fun i d g=>?_⟩;have:i=0:=by simp at d;exact d
 subst this;refine(h.keep fun b o a=>c.cell (p:=⟨b,o,none⟩) a.2).mono fun b a=>⟨a.1,by rw[vM];have:=a.2;omega,fun e=>?_⟩
 have:=a.2;simp[Value.ownBlock]at e;omega
theorem Qs.len{base:Nat}{w:World}{v:Value}{l:List Q}{vss:List (List Value)}(h:Qs base w v l vss):lenOf v=l.length:=by
 obtain⟨A,c,rfl,_⟩:=fT h.own;rfl
theorem Qs.block{base:Nat}{w:World}{v:Value}{l:List Q}{vss:List (List Value)}(h:Qs base w v l vss):∀b,v.ownBlock=some b→base≤b∧b<w.heap.size:=fun b a=>h.own.lt b a
structure Lp (B:Nat) (w:World) (g:Nat) (l:List P) (F:List Q→Md) (m0:Md) (wr:World) (v:Value) (acc:List Q) (vss:List (List Value)) (r:List P):Prop where
 qs:Qs (w.heap.size+1) wr v acc vss
 rd:Rd B wr g r
 gr:w.grownBy wr (some g)
 bk:Blk wr w.heap.size 60 #[.int .i64 0,.string ByteArray.empty,.slice none 0 0,.slice none 0 0]
 sz:w.heap.size+1≤wr.heap.size
 su:∃k,r=l.drop k∧1≤k
 ne:acc≠[]
 ln:acc.length+r.length≤l.length
 tk:∀o,R (F acc) r o→R m0 l o
theorem Lp.moved{B:Nat}{w:World}{g:Nat}{l:List P}{F:List Q→Md}{m0:Md}{wr:World}{v:Value}{acc:List Q}{vss:List (List Value)}{r:List P}(L:Lp B w g l F m0 wr v acc vss r){w1:World}(hg:wr.grownBy w1 (some g))(hgl:g<w.heap.size) :
  Qs (w.heap.size+1) w1 v acc vss∧w.grownBy w1 (some g)∧Blk w1 w.heap.size 60 #[.int .i64 0,.string ByteArray.empty,.slice none 0 0,.slice none 0 0]∧w.heap.size+1≤w1.heap.size:=
 ⟨L.qs.grown hg (fun b e=>by injection e with e;omega),fV L.gr hg,L.bk.keep4 hg jo,zY L.sz hg.size⟩
theorem Cv(l:List P)(ih:∀k,kG (l.drop k)):oJ l:=by
 intro B w g hR;have aN:=hR.lt;have aU:=hR.low;have aT:=hR.many;have au:=zh (ib w);have aB:=zh (nK w);have ao:=nJ w;have c0:=(by have h:=ih 0;rw[List.drop_zero]at h;exact h:kG l) B (W0 w) g (hR.below (ib w));obtain⟨i0,aL,aO,aJ,aG⟩:=info_parts rW;clear hR;unfold W0 at au aB ao c0;go_enter func125,ntmps125;go_wp2_with fail;refine c0.mono ?_;rintro e w2 ⟨o,J,a⟩;have f:=zh J;clear c0 J
 match o,a,f with
 | none,a,f=>
  obtain⟨rfl,T⟩:=a;have aQ:=zh T;clear T;unfold lC;exact⟨rfl,none,.and0 f.out,rfl,fV (fH au.out _) aQ.out⟩
 | some (q,r),a,f=>
  obtain⟨W,Y,X,Z,rfl,hF,aP,T⟩:=a;rw[ao]at hF;obtain⟨k,I,ak,N⟩:=f.out.less q r rfl;have aq:1≤k:=N (.inl rfl);have av:w.heap.size+1≤w2.heap.size:=by have:=T.size;rw[ao]at this;exact this
  have L0:Lp B w g l Md.andT (.and []) (w2.alloc (.cells #[W,Y,X,Z] 60)) (.slice (some ⟨w2.heap.size,0,none⟩) 1 1) [q] [[W,Y,X,Z]] r:=
   ⟨Qs.one hF av,aP.below (zRR _),fV (fV (fH au.out _) T) (World.grownBy_alloc _ _ _),(aB.out.keep4 T jo).alloc _,by rw[vM];omega,
    ⟨k,I,aq⟩,jz,by rw[I,zm,zP];omega,fun o h=>.and1 f.out h⟩
  have aS:=zh L0;obtain⟨H,E,D,C,F,G,M⟩:=hF.four;simp only[zQ,and_true]at M;obtain⟨rfl,rfl,rfl,rfl⟩:=M;clear L0 hF aP T aB au I ak N aq f av ao;go_wp2_with fail;go_loopw [3] (fun v wr=>∃c V r,Lp B w g l Md.andT (.and []) wr v c V r) (fun v _=>l.length+1-lenOf v)
  case atStart=>exact⟨_,_,_,aS.out⟩
  obtain⟨c,V,r,L⟩:=hrel;have am:=L.ln;have m:=L.qs.len
  match r,L,am with
  | [],L,am=>
   have ap:=zh (L.tk _ (.andE rfl));have cp:=uX B wr g L.rd;have Hlen:=zh m;clear m;have c3:=qI (w.heap.size+1) 5 u3 c V wr L.qs L.ne;go_wp2_with (go_at_call 126;refine cp.mono ?_;rintro e w' ⟨rfl,rfl⟩);refine c3.mono ?_;rintro e w4 ⟨b0,b1,b2,b3,rfl,z,j⟩;have x:=L.bk.below j (by have:=L.sz;omega);obtain⟨q0,q1,q2,q3,f0,f1,f2,f3⟩:=x.four;obtain⟨H,E,D,C,F,G,M⟩:=z.four;simp only[zQ,and_true]at M;obtain⟨rfl,rfl,rfl,rfl⟩:=M;have hX:=x.set4 (.int .i64 (fg 5 c).kind) (.string (fg 5 c).name) (.slice H E D) (.slice C F G);have d:=mJ w4 w.heap.size (.int .i64 (fg 5 c).kind) (.string (fg 5 c).name) (.slice H E D) (.slice C F G);have HF:=zh (kW (w:=w) z jo (zG _));have al:=zh ((L.rd.below j).other d (fun b e=>by injection e with e;omega));have ad:=zh (lT (fV L.gr (fH j _)) d (fun b e=>by injection e with e;omega));have HX:=zh hX;clear hX d z x j c3 L;go_wp2_with fail;refine zw (fA rfl rfl (zv _ w.heap.size 60 60 #[.int .i64 (fg 5 c).kind,.string (fg 5 c).name,.slice H E D,.slice C F G] (0,0) _ HX.out underlying60 rfl jk)) rfl ?_;exact⟨_,ap.out,_,_,_,_,rfl,HF.out,al.out,ad.out⟩
  | s::t,L,am=>
   have aD:((str s).toList == [41])=decide (s=RP):=by rw[fD];rfl
   have aC:((str s).toList == [79,82])=decide (s=OR):=by rw[fD];rfl
   have ay:((str s).toList == [65,78,68])=decide (s=AND):=by rw[fD];rfl
   have fe:=mU s (L.rd.ne s jz);have cp:=uG B wr g s t L.rd;by_cases hs:lL (s::t)=true
   ·have aR:s=RP∨(s≠RP∧s=OR):=by
     unfold lL at hs;simp only[Bool.or_eq_true,beq_iff_eq]at hs;by_cases h:s=RP
     ·exact .inl h
     exact .inr ⟨h,hs.resolve_left h⟩
    have ap:=zh (L.tk _ (.andE hs));have Hlen:=zh m;clear m hs ay;rcases aR with h|⟨h,h2⟩
    ·rw[zO h]at aD;clear h aC;have c3:=qI (w.heap.size+1) 5 u3 c V wr L.qs L.ne;go_wp2_with (go_at_call 126;refine cp.mono ?_;rintro e w' ⟨rfl,rfl⟩);refine c3.mono ?_;rintro e w4 ⟨b0,b1,b2,b3,rfl,z,j⟩;have x:=L.bk.below j (by have:=L.sz;omega);obtain⟨q0,q1,q2,q3,f0,f1,f2,f3⟩:=x.four;obtain⟨H,E,D,C,F,G,M⟩:=z.four;simp only[zQ,and_true]at M;obtain⟨rfl,rfl,rfl,rfl⟩:=M;have hX:=x.set4 (.int .i64 (fg 5 c).kind) (.string (fg 5 c).name) (.slice H E D) (.slice C F G);have d:=mJ w4 w.heap.size (.int .i64 (fg 5 c).kind) (.string (fg 5 c).name) (.slice H E D) (.slice C F G);have HF:=zh (kW (w:=w) z jo (zG _));have al:=zh ((L.rd.below j).other d (fun b e=>by injection e with e;omega));have ad:=zh (lT (fV L.gr (fH j _)) d (fun b e=>by injection e with e;omega));have HX:=zh hX;clear hX d z x j c3 L;go_wp2_with fail;refine zw (fA rfl rfl (zv _ w.heap.size 60 60 #[.int .i64 (fg 5 c).kind,.string (fg 5 c).name,.slice H E D,.slice C F G] (0,0) _ HX.out underlying60 rfl jk)) rfl ?_;exact⟨_,ap.out,_,_,_,_,rfl,HF.out,al.out,ad.out⟩
    rw[zN h]at aD;rw[zO h2]at aC;clear h h2;have c3:=qI (w.heap.size+1) 5 u3 c V wr L.qs L.ne;go_wp2_with (go_at_call 126;refine cp.mono ?_;rintro e w' ⟨rfl,rfl⟩);refine c3.mono ?_;rintro e w4 ⟨b0,b1,b2,b3,rfl,z,j⟩;have x:=L.bk.below j (by have:=L.sz;omega);obtain⟨q0,q1,q2,q3,f0,f1,f2,f3⟩:=x.four;obtain⟨H,E,D,C,F,G,M⟩:=z.four;simp only[zQ,and_true]at M;obtain⟨rfl,rfl,rfl,rfl⟩:=M;have hX:=x.set4 (.int .i64 (fg 5 c).kind) (.string (fg 5 c).name) (.slice H E D) (.slice C F G);have d:=mJ w4 w.heap.size (.int .i64 (fg 5 c).kind) (.string (fg 5 c).name) (.slice H E D) (.slice C F G);have HF:=zh (kW (w:=w) z jo (zG _));have al:=zh ((L.rd.below j).other d (fun b e=>by injection e with e;omega));have ad:=zh (lT (fV L.gr (fH j _)) d (fun b e=>by injection e with e;omega));have HX:=zh hX;clear hX d z x j c3 L;go_wp2_with fail;refine zw (fA rfl rfl (zv _ w.heap.size 60 60 #[.int .i64 (fg 5 c).kind,.string (fg 5 c).name,.slice H E D,.slice C F G] (0,0) _ HX.out underlying60 rfl jk)) rfl ?_;exact⟨_,ap.out,_,_,_,_,rfl,HF.out,al.out,ad.out⟩
   have aa:lL (s::t)=false:=by simpa using hs
   have h1:s≠RP∧s≠OR:=by
    unfold lL at aa;simp only[Bool.or_eq_false_iff,zM]at aa;exact aa
   rw[zN h1.1]at aD;rw[zN h1.2]at aC;obtain⟨k,hk,aH⟩:=L.su;have ar:t=l.drop (k+1):=by rw[←List.drop_drop,←hk];rfl
   by_cases ha:s=AND
   ·rw[zO ha]at ay;have cx:=mM B wr g s t L.rd;have cq:=fun w1 (h:Rd B w1 g t)=>(by rw[ar]at h ⊢;exact ih (k+1) B w1 g h:Calls prog 152 #[.pointer (some ⟨g,0,none⟩)] w1 (o5 B w1 g .part t))
    have Cq:=zh cq;have Ha:=zh ha;have aV:=zh ar;clear hs aa h1 hk aH ar ha cq;go_wp2_with (go_at_call 126;refine cp.mono ?_;rintro e w' ⟨rfl,rfl⟩);refine cx.mono ?_;rintro e w1 ⟨rfl,aK,af⟩;have c1:=Cq.out w1 aK;clear cx Cq aK cp;obtain⟨Q1,G1,K1,Z1⟩:=L.moved af aN;have Hlen:=zh m;have an:=zh Q1;have ag:=zh G1;have aF:=zh K1;have HL:=zh L;clear L m Q1 G1 K1 af;go_wp2_with fail;refine c1.mono ?_;rintro e U ⟨o,J,a⟩;have f:=zh J;clear c1 J
    match o,a,f with
    | none,a,f=>
     obtain⟨rfl,i⟩:=a;have aA:=zh i;clear i;unfold lC;exact⟨rfl,none,HL.out.tk _ (.andA Ha.out (.and0 f.out)),rfl,fV ag.out aA.out⟩
    | some (q,r3),a,f=>
     obtain⟨W,Y,X,Z,rfl,hF,ae,i⟩:=a;obtain⟨k3,I,ak,N⟩:=f.out.less q r3 rfl;have aq:1≤k3:=N (.inl rfl);have aI:=i.size;have Q3:=(an.out.grown i (fun b e=>by injection e with e;omega));have O:=an.out.block;have ac:∀b,u3.ownBlock=some b→b<w1.heap.size:=fun b e=>(O b e).2
     have y:=(zy U.heap.size U).alloc (zG _) (.cells #[W,Y,X,Z] 60);have Qx:=Q3.grown (fH y none) (fun b e=>by cases e)
     have ab:QF (U.alloc (.cells #[W,Y,X,Z] 60)) (Kin (w.heap.size+1) (U.alloc (.cells #[W,Y,X,Z] 60)) u3) q [W,Y,X,Z]:=
      (hF.keep fun b o hS=>y.cell (p:=⟨b,o,none⟩) hS.2).mono fun b hS=>⟨by have:=hS.1;omega,by rw[vM];have:=hS.2;omega,fun e=>by have:=ac b e;have:=hS.1;omega⟩
     have az:=zh (ae.below y);have aE:=zh (fV (fV ag.out i) (fH y _));have ax:=zh ((aF.out.keep4 i jo).alloc (.cells #[W,Y,X,Z] 60));have Hblk:=zh Qx.block;have ah:=zh Qx;have Hqx:=zh ab;have R:=Qx.own;have aM:c.length≤1048576:=jo;obtain⟨H,E,D,C,F,G,M⟩:=hF.four;simp only[zQ,and_true]at M;obtain⟨rfl,rfl,rfl,rfl⟩:=M;have aj:=zh I;have A:w.heap.size+1≤(U.alloc (.cells #[.int .i64 q.kind,.string q.name,.slice H E D,.slice C F G] 60)).heap.size:=by rw[vM];omega
     clear Q3 O ac y Qx ab hF ae i I N;go_wp2_with (at_builtin;refine wpList_append_own_at _ rfl _ _ 58 rfl (w.heap.size+1) 60 i0 _ 4 72 underlying58 aL aO aJ aG rfl jd _ _ _ rfl R ⟨U.heap.size,0,none⟩ 1 1 [.int .i64 q.kind,.string q.name,.slice H E D,.slice C F G] rfl rfl (vH (cs:=#[.int .i64 q.kind,.string q.name,.slice H E D,.slice C F G]) (t:=60) (fr:=(0,0)) (vK U _)) (fun u hu=>by simp at hu;rcases hu with rfl|rfl|rfl|rfl<;>rfl) jx jo A ?_);intro v' w5 n d _ ai;have S:=ah.out.put Hqx.out n d (by rw[vM];exact ai)
     have L5:Lp B w g l Md.andT (.and []) w5 v' (c ++ [q]) (V ++ [[.int .i64 q.kind,.string q.name,.slice H E D,.slice C F G]]) r3:=
      ⟨S,az.out.other d (fun b e=>by have:=(Hblk.out b e).1;exact⟨jo,jo⟩),lT aE.out d (fun b e=>by have:=(Hblk.out b e).1;omega),ax.out.grown d (fun e=>by have:=(Hblk.out _ e.symm).1;omega),zY A d.size,
       by obtain⟨k,h1,h2⟩:=HL.out.su;exact⟨k+1+k3,by rw[aj.out,←List.drop_drop,←List.drop_drop,←h1];rfl,jo⟩,jz,by rw[aj.out,zJ,zP,zm];simp only[zV]at ak am ⊢;omega,fun o h=>HL.out.tk _ (.andA Ha.out (.and1 f.out h))⟩
     have aw:=zh L5;have Hlen5:Hid (lenOf v'=c.length+1):=zh (by rw[S.len,zJ,zm]);clear S n d ai R L5 HL ah Hqx;go_wp2_with fail;go_roundw
     case rel=>exact⟨_,_,_,aw.out⟩
     simp[Hlen5.out,Hlen.out];omega
   rw[zN ha]at ay;have c1:=(by have:=L.rd;rw[hk]at this ⊢;exact ih k B wr g this:Calls prog 152 #[.pointer (some ⟨g,0,none⟩)] wr (o5 B wr g .part (s::t)));have Ha:=zh ha;have Hs:=zh aa;have af:=EO wr (some g);clear hs aa h1 hk aH ar ha;obtain⟨Q1,G1,K1,Z1⟩:=L.moved af aN;have Hlen:=zh m;have an:=zh Q1;have ag:=zh G1;have aF:=zh K1;have HL:=zh L;clear L m Q1 G1 K1 af;go_wp2_with (go_at_call 126;refine cp.mono ?_;rintro e w' ⟨rfl,rfl⟩);refine c1.mono ?_;rintro e U ⟨o,J,a⟩;have f:=zh J;clear c1 J
   match o,a,f with
   | none,a,f=>
    obtain⟨rfl,i⟩:=a;have aA:=zh i;clear i;unfold lC;exact⟨rfl,none,HL.out.tk _ (.andN Hs.out Ha.out (.and0 f.out)),rfl,fV ag.out aA.out⟩
   | some (q,r3),a,f=>
    obtain⟨W,Y,X,Z,rfl,hF,ae,i⟩:=a;obtain⟨k3,I,ak,N⟩:=f.out.less q r3 rfl;have aq:1≤k3:=N (.inl rfl);have aI:=i.size;have Q3:=(an.out.grown i (fun b e=>by injection e with e;omega));have O:=an.out.block;have ac:∀b,u3.ownBlock=some b→b<wr.heap.size:=fun b e=>(O b e).2
    have y:=(zy U.heap.size U).alloc (zG _) (.cells #[W,Y,X,Z] 60);have Qx:=Q3.grown (fH y none) (fun b e=>by cases e)
    have ab:QF (U.alloc (.cells #[W,Y,X,Z] 60)) (Kin (w.heap.size+1) (U.alloc (.cells #[W,Y,X,Z] 60)) u3) q [W,Y,X,Z]:=
     (hF.keep fun b o hS=>y.cell (p:=⟨b,o,none⟩) hS.2).mono fun b hS=>⟨by have:=hS.1;omega,by rw[vM];have:=hS.2;omega,fun e=>by have:=ac b e;have:=hS.1;omega⟩
    have az:=zh (ae.below y);have aE:=zh (fV (fV ag.out i) (fH y _));have ax:=zh ((aF.out.keep4 i jo).alloc (.cells #[W,Y,X,Z] 60));have Hblk:=zh Qx.block;have ah:=zh Qx;have Hqx:=zh ab;have R:=Qx.own;have aM:c.length≤1048576:=jo;obtain⟨H,E,D,C,F,G,M⟩:=hF.four;simp only[zQ,and_true]at M;obtain⟨rfl,rfl,rfl,rfl⟩:=M;have aj:=zh I;have A:w.heap.size+1≤(U.alloc (.cells #[.int .i64 q.kind,.string q.name,.slice H E D,.slice C F G] 60)).heap.size:=by rw[vM];omega
    clear Q3 O ac y Qx ab hF ae i I N;go_wp2_with (at_builtin;refine wpList_append_own_at _ rfl _ _ 58 rfl (w.heap.size+1) 60 i0 _ 4 72 underlying58 aL aO aJ aG rfl jd _ _ _ rfl R ⟨U.heap.size,0,none⟩ 1 1 [.int .i64 q.kind,.string q.name,.slice H E D,.slice C F G] rfl rfl (vH (cs:=#[.int .i64 q.kind,.string q.name,.slice H E D,.slice C F G]) (t:=60) (fr:=(0,0)) (vK U _)) (fun u hu=>by simp at hu;rcases hu with rfl|rfl|rfl|rfl<;>rfl) jx jo A ?_);intro v' w5 n d _ ai;have S:=ah.out.put Hqx.out n d (by rw[vM];exact ai)
    have L5:Lp B w g l Md.andT (.and []) w5 v' (c ++ [q]) (V ++ [[.int .i64 q.kind,.string q.name,.slice H E D,.slice C F G]]) r3:=
     ⟨S,az.out.other d (fun b e=>by have:=(Hblk.out b e).1;exact⟨jo,jo⟩),lT aE.out d (fun b e=>by have:=(Hblk.out b e).1;omega),ax.out.grown d (fun e=>by have:=(Hblk.out _ e.symm).1;omega),zY A d.size,
      by obtain⟨k,h1,h2⟩:=HL.out.su;exact⟨k+k3,by rw[aj.out,←List.drop_drop,←h1],jo⟩,jz,by rw[aj.out,zJ,zP,zm];simp only[zV]at ak am ⊢;omega,fun o h=>HL.out.tk _ (.andN Hs.out Ha.out (.and1 f.out h))⟩
    have aw:=zh L5;have Hlen5:Hid (lenOf v'=c.length+1):=zh (by rw[S.len,zJ,zm]);clear S n d ai R L5 HL ah Hqx;go_wp2_with fail;go_roundw
    case rel=>exact⟨_,_,_,aw.out⟩
    simp[Hlen5.out,Hlen.out];omega
theorem Df(l:List P)(ih:∀k,oJ (l.drop k)):xD l:=by
 intro B w g hR;have aG:=hR.lt;have aO:=hR.low;have aL:=hR.many;have U:=zh (ib w);have af:=zh (nK w);have T:=nJ w;have c0:=(by have h:=ih 0;rw[List.drop_zero]at h;exact h:oJ l) B (W0 w) g (hR.below (ib w));obtain⟨i0,aF,aH,aA,ax⟩:=info_parts rW;clear hR;unfold W0 at U af T c0;go_enter func97,ntmps97;go_wp2_with fail;refine c0.mono ?_;rintro e w2 ⟨o,H,a⟩;have f:=zh H;clear c0 H
 match o,a,f with
 | none,a,f=>
  obtain⟨rfl,x⟩:=a;have aC:=zh x;clear x;unfold lC;exact⟨rfl,none,.or0 f.out,rfl,fV (fH U.out _) aC.out⟩
 | some (q,r),a,f=>
  obtain⟨V,X,W,a3,rfl,hF,av,x⟩:=a;rw[T]at hF;obtain⟨k,G,ad,N⟩:=f.out.less q r rfl;have ah:1≤k:=N (.inr (.inl ⟨_,rfl⟩));have Z:w.heap.size+1≤w2.heap.size:=by have:=x.size;rw[T]at this;exact this
  have L0:Lp B w g l Md.orT (.or []) (w2.alloc (.cells #[V,X,W,a3] 60)) (.slice (some ⟨w2.heap.size,0,none⟩) 1 1) [q] [[V,X,W,a3]] r:=
   ⟨Qs.one hF Z,av.below (zRR _),fV (fV (fH U.out _) x) (World.grownBy_alloc _ _ _),(af.out.keep4 x jo).alloc _,by rw[vM];omega,
    ⟨k,G,ah⟩,jz,by rw[G,zm,zP];omega,fun o h=>.or1 f.out h⟩
  have aI:=zh L0;obtain⟨F,C,A,z,D,E,M⟩:=hF.four;simp only[zQ,and_true]at M;obtain⟨rfl,rfl,rfl,rfl⟩:=M;clear L0 hF av x af U G ad N ah f Z T;go_wp2_with fail;go_loopw [3] (fun v wr=>∃c R r,Lp B w g l Md.orT (.or []) wr v c R r) (fun v _=>l.length+1-lenOf v)
  case atStart=>exact⟨_,_,_,aI.out⟩
  obtain⟨c,R,r,L⟩:=hrel;have S:=L.ln;have i:=L.qs.len
  match r,L,S with
  | [],L,S=>
   have ag:=zh (L.tk _ (.orE jz));have cp:=uX B wr g L.rd;have Hlen:=zh i;clear i;have c3:=qI (w.heap.size+1) 6 u3 c R wr L.qs L.ne;go_wp2_with (go_at_call 126;refine cp.mono ?_;rintro e w' ⟨rfl,rfl⟩);refine c3.mono ?_;rintro e w4 ⟨b0,b1,b2,b3,rfl,y,j⟩;have n:=L.bk.below j (by have:=L.sz;omega);obtain⟨q0,q1,q2,q3,f0,f1,f2,f3⟩:=n.four;obtain⟨F,C,A,z,D,E,M⟩:=y.four;simp only[zQ,and_true]at M;obtain⟨rfl,rfl,rfl,rfl⟩:=M;have hX:=n.set4 (.int .i64 (fg 6 c).kind) (.string (fg 6 c).name) (.slice F C A) (.slice z D E);have d:=mJ w4 w.heap.size (.int .i64 (fg 6 c).kind) (.string (fg 6 c).name) (.slice F C A) (.slice z D E);have HF:=zh (kW (w:=w) y jo (zG _));have ae:=zh ((L.rd.below j).other d (fun b e=>by injection e with e;omega));have ab:=zh (lT (fV L.gr (fH j _)) d (fun b e=>by injection e with e;omega));have HX:=zh hX;clear hX d y n j c3 L;go_wp2_with fail;refine zw (fA rfl rfl (zv _ w.heap.size 60 60 #[.int .i64 (fg 6 c).kind,.string (fg 6 c).name,.slice F C A,.slice z D E] (0,0) _ HX.out underlying60 rfl jk)) rfl ?_;exact⟨_,ag.out,_,_,_,_,rfl,HF.out,ae.out,ab.out⟩
  | s::t,L,S=>
   have au:((str s).toList == [79,82])=decide (s=OR):=by rw[fD];rfl
   have fe:=mU s (L.rd.ne s jz);have cp:=uG B wr g s t L.rd;by_cases hs:s=OR
   ·rw[zO hs]at au;obtain⟨k,hk,az⟩:=L.su;have ai:t=l.drop (k+1):=by rw[←List.drop_drop,←hk];rfl
    have cx:=mM B wr g s t L.rd;have cq:=fun w1 (h:Rd B w1 g t)=>(by rw[ai]at h ⊢;exact ih (k+1) B w1 g h:Calls prog 125 #[.pointer (some ⟨g,0,none⟩)] w1 (o5 B w1 g (.and []) t))
    have Cq:=zh cq;have Hs:=zh hs;have aP:=zh ai;clear hs hk az ai cq;go_wp2_with (go_at_call 126;refine cp.mono ?_;rintro e w' ⟨rfl,rfl⟩);refine cx.mono ?_;rintro e w1 ⟨rfl,ao,am⟩;have c1:=Cq.out w1 ao;clear cx Cq ao cp;obtain⟨Q1,G1,K1,Z1⟩:=L.moved am aG;have Hlen:=zh i;have aw:=zh Q1;have an:=zh G1;have aK:=zh K1;have HL:=zh L;clear L i Q1 G1 K1 am;go_wp2_with fail;refine c1.mono ?_;rintro e w3 ⟨o,H,a⟩;have f:=zh H;clear c1 H
    match o,a,f with
    | none,a,f=>
     obtain⟨rfl,m⟩:=a;have aE:=zh m;clear m;unfold lC;exact⟨rfl,none,HL.out.tk _ (.orO Hs.out (.or0 f.out)),rfl,fV an.out aE.out⟩
    | some (q,r3),a,f=>
     obtain⟨V,X,W,a3,rfl,hF,al,m⟩:=a;obtain⟨k3,G,ad,N⟩:=f.out.less q r3 rfl;have ah:1≤k3:=N (.inr (.inl ⟨_,rfl⟩));have aM:=m.size;have Q3:=(aw.out.grown m (fun b e=>by injection e with e;omega));have Y:=aw.out.block;have ak:∀b,u3.ownBlock=some b→b<w1.heap.size:=fun b e=>(Y b e).2
     have J:=(zy w3.heap.size w3).alloc (zG _) (.cells #[V,X,W,a3] 60);have Qx:=Q3.grown (fH J none) (fun b e=>by cases e)
     have aj:QF (w3.alloc (.cells #[V,X,W,a3] 60)) (Kin (w.heap.size+1) (w3.alloc (.cells #[V,X,W,a3] 60)) u3) q [V,X,W,a3]:=
      (hF.keep fun b o hS=>J.cell (p:=⟨b,o,none⟩) hS.2).mono fun b hS=>⟨by have:=hS.1;omega,by rw[vM];have:=hS.2;omega,fun e=>by have:=ak b e;have:=hS.1;omega⟩
     have aD:=zh (al.below J);have aJ:=zh (fV (fV an.out m) (fH J _));have aB:=zh ((aK.out.keep4 m jo).alloc (.cells #[V,X,W,a3] 60));have Hblk:=zh Qx.block;have ap:=zh Qx;have Hqx:=zh aj;have aa:=Qx.own;have aN:c.length≤1048576:=jo;obtain⟨F,C,A,z,D,E,M⟩:=hF.four;simp only[zQ,and_true]at M;obtain⟨rfl,rfl,rfl,rfl⟩:=M;have ar:=zh G;have O:w.heap.size+1≤(w3.alloc (.cells #[.int .i64 q.kind,.string q.name,.slice F C A,.slice z D E] 60)).heap.size:=by rw[vM];omega
     clear Q3 Y ak J Qx aj hF al m G N;go_wp2_with (at_builtin;refine wpList_append_own_at _ rfl _ _ 58 rfl (w.heap.size+1) 60 i0 _ 4 72 underlying58 aF aH aA ax rfl jd _ _ _ rfl aa ⟨w3.heap.size,0,none⟩ 1 1 [.int .i64 q.kind,.string q.name,.slice F C A,.slice z D E] rfl rfl (vH (cs:=#[.int .i64 q.kind,.string q.name,.slice F C A,.slice z D E]) (t:=60) (fr:=(0,0)) (vK w3 _)) (fun u hu=>by simp at hu;rcases hu with rfl|rfl|rfl|rfl<;>rfl) jx jo O ?_);intro v' w5 I d _ aq;have ac:=ap.out.put Hqx.out I d (by rw[vM];exact aq)
     have L5:Lp B w g l Md.orT (.or []) w5 v' (c ++ [q]) (R ++ [[.int .i64 q.kind,.string q.name,.slice F C A,.slice z D E]]) r3:=
      ⟨ac,aD.out.other d (fun b e=>by have:=(Hblk.out b e).1;exact⟨jo,jo⟩),lT aJ.out d (fun b e=>by have:=(Hblk.out b e).1;omega),aB.out.grown d (fun e=>by have:=(Hblk.out _ e.symm).1;omega),zY O d.size,
       by obtain⟨k,h1,h2⟩:=HL.out.su;exact⟨k+1+k3,by rw[ar.out,←List.drop_drop,←List.drop_drop,←h1];rfl,jo⟩,jz,by rw[ar.out,zJ,zP,zm];simp only[zV]at ad S ⊢;omega,fun o h=>HL.out.tk _ (.orO Hs.out (.or1 f.out h))⟩
     have ay:=zh L5;have Hlen5:Hid (lenOf v'=c.length+1):=zh (by rw[ac.len,zJ,zm]);clear ac I d aq aa L5 HL ap Hqx;go_wp2_with fail;go_roundw
     case rel=>exact⟨_,_,_,ay.out⟩
     simp[Hlen5.out,Hlen.out];omega
   rw[zN hs]at au;have ag:=zh (L.tk _ (.orE (by simpa using hs)));have Hlen:=zh i;clear i hs;have c3:=qI (w.heap.size+1) 6 u3 c R wr L.qs L.ne;go_wp2_with (go_at_call 126;refine cp.mono ?_;rintro e w' ⟨rfl,rfl⟩);refine c3.mono ?_;rintro e w4 ⟨b0,b1,b2,b3,rfl,y,j⟩;have n:=L.bk.below j (by have:=L.sz;omega);obtain⟨q0,q1,q2,q3,f0,f1,f2,f3⟩:=n.four;obtain⟨F,C,A,z,D,E,M⟩:=y.four;simp only[zQ,and_true]at M;obtain⟨rfl,rfl,rfl,rfl⟩:=M;have hX:=n.set4 (.int .i64 (fg 6 c).kind) (.string (fg 6 c).name) (.slice F C A) (.slice z D E);have d:=mJ w4 w.heap.size (.int .i64 (fg 6 c).kind) (.string (fg 6 c).name) (.slice F C A) (.slice z D E);have HF:=zh (kW (w:=w) y jo (zG _));have ae:=zh ((L.rd.below j).other d (fun b e=>by injection e with e;omega));have ab:=zh (lT (fV L.gr (fH j _)) d (fun b e=>by injection e with e;omega));have HX:=zh hX;clear hX d y n j c3 L;go_wp2_with fail;refine zw (fA rfl rfl (zv _ w.heap.size 60 60 #[.int .i64 (fg 6 c).kind,.string (fg 6 c).name,.slice F C A,.slice z D E] (0,0) _ HX.out underlying60 rfl jk)) rfl ?_;exact⟨_,ag.out,_,_,_,_,rfl,HF.out,ae.out,ab.out⟩
theorem Mt:∀(n:Nat) (l:List P),l.length≤n→pE l→kG l∧oJ l∧xD l:=by
 intro n
 induction n with
 | zero=>
  intro l p f;have:l=[]:=List.length_eq_zero_iff.1 jo;subst this;have h:∀k,kG ([].drop k):=fun k=>by rw[List.drop_nil];exact rB
  have j:oJ []:=Cv [] h;exact⟨rB,j,Df [] fun k=>by rw[List.drop_nil];exact j⟩
 | succ n ih=>
  intro l p f
  have c:kG l:=by
   cases l with
   | nil=>exact rB
   | cons s t=>
    have z:pE t:=fun x i=>f x (by simp[i])
    have r:=ih t (by simp at p;omega) z;by_cases w:s=NOT
    ·subst w;exact JX t r.1
    by_cases v:s=LP
    ·subst v;exact LC t r.2.2
    by_cases m:s=RP
    ·subst m;exact K9 t
    by_cases o:s=AND
    ·subst o;exact JW t
    by_cases q:s=OR
    ·subst q;exact LB t
    have u:=f s jz;exact G7 s t (by unfold oI;simp[w,v,m,o,q]) u.1 u.2
  have e:∀k,1≤k→l≠[]→kG (l.drop k)∧oJ (l.drop k):=fun k g a=>by
   have y:pE (l.drop k):=fun x i=>f x (List.mem_of_mem_drop i)
   have A:=List.length_pos_iff.2 a;have:=ih (l.drop k) (by rw[zP];omega) y;exact⟨this.1,this.2.1⟩
  have d:∀k,kG (l.drop k):=fun k=>by
   by_cases g:k=0
   ·subst g;exact c
   by_cases a:l=[]
   ·subst a;rw[List.drop_nil];exact rB
   exact(e k jo a).1
  have b:oJ l:=Cv l d
  exact⟨c,b,Df l fun k=>by
   by_cases g:k=0
   ·subst g;exact b
   by_cases a:l=[]
   ·subst a;rw[List.drop_nil];exact b
   exact(e k jo a).2⟩
end Qp
end Go.Proofs.YtmomjpolkkbhnaaGreat
