/- slices.symMergeCmpFunc at elements of three cells: whole (printed by gen_ssd.py). -/
import Derived.Deep.CutRange
import Derived.Test.YtmomjpolkkbhnaaGreatQModelRunsRow7
set_option linter.unusedSectionVars false
set_option linter.unusedSimpArgs false
set_option linter.unusedVariables false
set_option maxRecDepth 20000
set_option maxHeartbeats 100000000
open Go.Proofs.Tryz
namespace Go.Proofs.YtmomjpolkkbhnaaGreat
namespace Ss
open Go.Shelf Go.RowKit Go.Lib Go.Sort
variable {α:Type} [Inhabited α] {enc:α→List Value} {cf:α→α→Int} {tag:α→Nat}
structure MIn (enc:α→List Value) (cf:α→α→Int) (tag:α→Nat) (k:Nat) (w0:World) (blk off:Nat) (d0 d:Array α) (a m b:Nat) (w:World):Prop where
 hs:d.size=d0.size
 S:SWK enc k w0 blk off d w
 hb:b≤d.size
 s1:Srt cf tag d a m
 s2:Srt cf tag d m b
 tg:Tg tag d a m b
set_option maxRecDepth 1000000 in
theorem JK(hW:SWO (ltOf cf))(k:Nat)(hk2:k=3)(g:Nat)(cb:Array Value)(blk off cap a m b:Nat)(d0 d:Array α)(w0 w:World)(eg:∀args w,(callFunc g args).run prog w=.ok (.enter g args) w)(hC:CmpLays prog g cb enc k cf blk off d0.size w0)
  (R:RowK enc k w0 blk off d0) (hI:MIn enc cf tag k w0 blk off d0 d a m b w) (ham:a+2≤m) (hmb:m+2≤b) (hsz:d.size<1099511627776)
  (ih:∀(a' m' b':Nat) (d':Array α) (w':World),b'-a'<b-a→a'<m'→m'<b'→MIn enc cf tag k w0 blk off d0 d' a' m' b' w' →
   Calls prog 154 #[.slice (some ⟨blk,off,none⟩) d'.size cap,.int .i64 a',.int .i64 m',.int .i64 b',.func (.func g) #[] cb] w' (nO enc cf tag k w0 blk off d' a' b')) :
  Calls prog 154 #[.slice (some ⟨blk,off,none⟩) d.size cap,.int .i64 a,.int .i64 m,.int .i64 b,.func (.func g) #[] cb] w (nO enc cf tag k w0 blk off d a b):=by
 have zE:∀w,(Go.sizeOf 48).run prog w=.ok k w:=by rw[hk2];exact Tryz.sizeOf48
 have am:prog.follows Departure.mixedOrders=true:=jk;have S0:Aside (SWK enc k w0 blk off d w):=hI.S;have HC:Aside _:=hC;have Y:=zh hI.hs;have hb:=hI.hb;have Q1:=zh hI.s1;have Q2:=zh hI.s2;have QT:=zh hI.tg;have HK:=zh hk2;have IH:=zh ih;have e1:((m:Int)-(a:Int)=1)=False:=eq_false jo;have e2:((b:Int)-(m:Int)=1)=False:=eq_false jo;have aO:((m:Int)-(a:Int)==1)=false:=jm;have aS:((b:Int)-(m:Int)==1)=false:=jm;obtain⟨f,ah⟩:∃f,f=(a+b)/2:=⟨_,rfl⟩;have aM:2*f≤a+b:=jo;have aN:a+b≤2*f+1:=jo;have aQ:((a:Int)+(b:Int))/2=(f:Int):=jo;clear hk2 hC hI ih ah;go_enter func154,ntmps154
 go_upto_if 140 with(fail);go_cut [20,21]from 138 to 146 (fun aC aD I=>∃C B:Nat,aC=.int .i64 (C:Nat)∧aD=.int .i64 (B:Nat)∧w=I∧Hid ((C+b=f+m∧B=f∧f<m)∨(C=a∧B=m∧m≤f)))
 case first=>
  by_cases an:f<m
  ·have ax:(f:Int)<(m:Int):=jo;go_wp2_with fail;go_meet;exact⟨f+m-b,f,ju,ju,rfl,zh (.inl ⟨jo,rfl,an⟩)⟩
  have ax:¬(f:Int)<(m:Int):=jo;go_wp2_with fail;go_meet;exact⟨a,m,ju,ju,rfl,zh (.inr ⟨rfl,rfl,jo⟩)⟩
 case rest=>
 obtain⟨C,B,rfl,rfl,rfl,J⟩:=hcut;obtain⟨aF,aB,ar,au,ay⟩:a≤C∧C≤B∧B≤m∧B≤f∧f+m≤C+b:=by rcases J.out with⟨q1,q2,q3⟩|⟨q1,q2,q3⟩<;>omega
 go_wp2_with fail;go_loopw [20,21] (fun vi vj wr=>∃(s r:Nat),C≤s∧s≤r∧r≤B∧vi=.int .i64 (s:Nat)∧vj=.int .i64 (r:Nat)∧Aside (SWK enc k w0 blk off d wr)∧Hid (∀c,C≤c→c<s→bef cf tag d[c]! d[f+m-1-c]!)∧Hid (∀c,r≤c→c<B→bef cf tag d[f+m-1-c]! d[c]!)) (fun vi vj _=>(intOf vj).toNat-(intOf vi).toNat)
 case atStart=>exact⟨C,B,jo,jo,jo,ju,ju,S0,zh (fun h _ _=>jo),zh (fun h _ _=>jo)⟩
 clear S0;obtain⟨s,r,av,ao,aH,rfl,rfl,t,H1,H2⟩:=hrel;by_cases aq:s<r
 ·have aP:(s:Int)<(r:Int):=jo;obtain⟨l,aE⟩:∃l,l=(s+r)/2:=⟨_,rfl⟩;have u:2*l≤s+r:=jo;have M:s+r≤2*l+1:=jo;have aR:((s:Int)+(r:Int))/2=(l:Int):=jo;obtain⟨P,hP⟩:∃P,P=f+m-1-l:=⟨_,rfl⟩;have aJ:P+l+1=f+m:=jo;have aT:(f:Int)+(m:Int)-1-(l:Int)=(P:Int):=jo;have aL:IntKind.i64.wrap (P:Int)=(P:Int):=by rw[IntKind.wrap_i64];omega
  have n5:(P:Int)<(d.size:Int):=jo;have n6:(l:Int)<(d.size:Int):=jo;have SG:Aside (∀n os,SWK enc k w0 blk off d (grow (wr.drewN n) os)):=fun n os=>t.out.grown n os
  have l1:=fun n' E=>t.out.ld R Y.out prog (P) jo n' E
  have l2:=fun n' E=>t.out.ld R Y.out prog (l) jo n' E
  have D:=fun n' E=>t.out.cmp HC.out Y.out d[P]! d[l]! n' E
  have F1:Hid (cf d[P]! d[l]!<0→∀c,l≤c→c<B→bef cf tag d[f+m-1-c]! d[c]!):=zh (fun hc c p1 p2=>Mi hW Q1.out Q2.out (c:=l) (p:=f+m-1) jo jo (by rw[←hP];exact hc) c p1 jo jo);have F2:Hid (¬cf d[P]! d[l]!<0→∀c,C≤c→c<l+1→bef cf tag d[c]! d[f+m-1-c]!):=zh (fun hc c p1 p2=>Mh hW Q1.out Q2.out QT.out (c:=l) (p:=f+m-1) jo jo jo (by rw[←hP];exact hc) c jo jo jo);obtain⟨xp,W⟩:∃x,d[P]! = x:=⟨_,rfl⟩;obtain⟨xq,V⟩:∃x,d[l]! = x:=⟨_,rfl⟩;rw[W]at l1;rw[V]at l2;rw[W,V]at D F1 F2;clear W V t aE hP;by_cases H:cf xp xq<0
  ·have ai:decide (cf xp xq<0)=true:=zO H;have N:=zh (F1.out H);clear F1 F2;go_wp2_with fail
   go_quiet_grown (first|(go_at_fn g;refine Calls.grown_of (D _ _)))
   have O:Aside (SWK enc k w0 blk off d (grow (wr.drewN nq) osq)):=SG.out nq osq;generalize grow (wr.drewN nq) osq=w3 at O ⊢;clear l1 l2 D SG;go_wp2;go_roundw
   case rel=>exact⟨s,l,jo,jo,jo,rfl,by first|rfl|go_num,O,H1,N⟩
   simp[intOf];omega
  have ai:decide (cf xp xq<0)=false:=zN H;have N:=zh (F2.out H);clear F1 F2;go_wp2_with fail
  go_quiet_grown (first|(go_at_fn g;refine Calls.grown_of (D _ _)))
  have O:Aside (SWK enc k w0 blk off d (grow (wr.drewN nq) osq)):=SG.out nq osq;generalize grow (wr.drewN nq) osq=w3 at O ⊢;clear l1 l2 D SG;go_wp2;go_roundw
  case rel=>exact⟨l+1,r,jo,jo,jo,by first|rfl|go_num,rfl,O,N,H2⟩
  simp[intOf];omega
 obtain rfl:s=r:=jo;obtain⟨e,he⟩:∃e,e=f+m-s:=⟨_,rfl⟩;have aK:(f:Int)+(m:Int)-(s:Int)=(e:Int):=jo;have ae:f+m=s+e:=jo
 have L:Hid (∀i:Array α,(∀x,i[x]! = iE d s m e x)→(Srt cf tag i a s∧Srt cf tag i s f∧Tg tag i a s f)∧(Srt cf tag i f e∧Srt cf tag i e b∧Tg tag i f e b)∧(∀x y,a≤x→x<f→f≤y→y<b→bef cf tag i[x]! i[y]!)):=zh (fun i hd=>Gm hW jo jo jo jo jo jo ae Q1.out Q2.out QT.out
  (by
   by_cases h:s=C
   ·rcases J.out with⟨q1,q2,q3⟩|⟨q1,q2,q3⟩<;>first|exact .inl jo|exact .inr (.inl jo)
   have F:=H1.out (s-1) jo jo;rw[show f+m-1-(s-1)=e by omega]at F
   exact .inr (.inr F))
  (by
   by_cases h:s=B
   ·rcases J.out with⟨q1,q2,q3⟩|⟨q1,q2,q3⟩<;>first|exact .inl jo|exact .inr (.inl jo)
   have F:=H2.out s jo jo;rw[show f+m-1-s=e-1 by omega]at F
   exact .inr (.inr F)) hd)
 have ap:a≤s:=jo;have aA:s≤m:=jo;have az:s≤f:=jo;have aw:m≤e:=jo;have aI:e≤b:=jo;have aG:f≤e:=jo;clear H1 H2 Q1 Q2 QT av ao aH aq he ae J aF aB ar au ay;have aa:¬(s:Int)<(s:Int):=jo
 go_upto_region 39 with(fail);go_cut [185]from 178 to 185 (fun v I=>v=.bool (decide (s<m∧m<e))∧wr=I)
 case first=>
  by_cases z1:((s:Nat):Int)<((m:Nat):Int)
  ·by_cases z2:((m:Nat):Int)<((e:Nat):Int)
   all_goals
    go_wp2_with fail;go_meet
    first|exact⟨congrArg Value.bool (zO jo).symm,rfl⟩|exact⟨congrArg Value.bool (zN jo).symm,rfl⟩
  go_wp2_with fail;go_meet;exact⟨congrArg Value.bool (zN jo).symm,rfl⟩
 case rest=>
 obtain⟨rfl,rfl⟩:=hcut
 go_upto_if 185 with(fail);go_cut []from 178 to 191 (fun I=>∃i:Array α,Aside (SWK enc k w0 blk off i I)∧Hid (i.size=d.size)∧Hid (PermIn a b d i)∧Hid ((Srt cf tag i a s∧Srt cf tag i s f∧Tg tag i a s f)∧(Srt cf tag i f e∧Srt cf tag i e b∧Tg tag i f e b)∧(∀x y,a≤x→x<f→f≤y→y<b→bef cf tag i[x]! i[y]!)))
 case first=>
  by_cases j:s<m∧m<e
  ·rw[zO j];have RT:=zh (FR k HK.out (.func (.func g) #[] cb) blk off cap s m e d0 d w0 wr R Y.out t.out j.1 j.2 jo hsz);clear t j;go_wp2_with fail;refine RT.out.mono ?_;rintro ev w2 ⟨rfl,i,S2,af,ad,al⟩;have X:Hid (PermIn a b d i):=zh (permIn_mono _ _ _ _ _ _ ap aI hb ad);have q:=zh (L.out i al);have A:=zh af;have t:Aside (SWK enc k w0 blk off i w2):=S2;clear RT ad al L af S2;go_wp2_with fail;go_meet;exact⟨i,t,A,X,q⟩
  rw[zN j];have q:=zh (L.out d (Mg d s m e jo aA aw));clear j;go_wp2_with fail;go_meet;exact⟨d,t,zh rfl,zh (permIn_refl _ _ _),q⟩
 case rest=>
 obtain⟨i,t,A,X,q⟩:=hcut;clear L aa
 go_upto_region 41 with(fail);go_cut [199]from 192 to 199 (fun v I=>v=.bool (decide (a<s∧s<f))∧wc=I)
 case first=>
  by_cases z1:((a:Nat):Int)<((s:Nat):Int)
  ·by_cases z2:((s:Nat):Int)<((f:Nat):Int)
   all_goals
    go_wp2_with fail;go_meet
    first|exact⟨congrArg Value.bool (zO jo).symm,rfl⟩|exact⟨congrArg Value.bool (zN jo).symm,rfl⟩
  go_wp2_with fail;go_meet;exact⟨congrArg Value.bool (zN jo).symm,rfl⟩
 case rest=>
 obtain⟨rfl,rfl⟩:=hcut
 go_upto_if 199 with(fail);go_cut []from 192 to 205 (fun I=>∃o:Array α,Aside (SWK enc k w0 blk off o I)∧Hid (o.size=d.size)∧Hid (PermIn a f i o∧Srt cf tag o a f))
 case first=>
  by_cases u:a<s∧s<f
  ·rw[zO u];have c1:=IH.out a s f i _ jo u.1 u.2 ⟨A.out.trans Y.out,t.out,by have:=A.out;omega,q.out.1.1,q.out.1.2.1,q.out.1.2.2⟩;rw[A.out]at c1;have C1:=zh c1;clear c1 t u;go_wp2_with fail;refine C1.out.mono ?_;rintro ev w5 ⟨rfl,o,S2,ab,aj,ag⟩;have Z:Aside (SWK enc k w0 blk off o w5):=S2;have G:Hid (o.size=d.size):=zh (ab.trans A.out);have z:Hid (PermIn a f i o∧Srt cf tag o a f):=zh ⟨aj,ag⟩;clear C1 S2 ab aj ag;go_wp2_with fail;go_meet;exact⟨o,Z,G,z⟩
  rw[zN u]
  have z:Hid (PermIn a f i i∧Srt cf tag i a f):=zh ⟨permIn_refl _ _ _,by
   by_cases h:s=a
   ·have:=q.out.1.2.1;rwa[h]at this
   have:=q.out.1.1;rwa[show s=f by omega]at this⟩
  clear u;go_wp2_with fail;go_meet;exact⟨i,t,A,z⟩
 case rest=>
 obtain⟨o,Z,G,z⟩:=hcut;clear t;by_cases M:f<e∧e<b
 ·obtain⟨y1,y2⟩:=M;have v1:(f:Int)<(e:Int):=jo;have v2:(e:Int)<(b:Int):=jo;have T:∀x,f≤x→x<b→o[x]! = i[x]!:=fun x hx _=>z.out.1.2.1 x (.inr hx)
  have c2:=IH.out f e b o _ jo y1 y2 ⟨G.out.trans Y.out,Z.out,by have:=G.out;omega,q.out.2.1.1.keep (fun x F h2=>T x F jo),q.out.2.1.2.1.keep (fun x F h2=>T x jo h2),q.out.2.1.2.2.keep T⟩;rw[G.out]at c2;have C2:=zh c2;clear c2 Z y1 y2 T;go_wp2_with fail
  all_goals(
   refine C2.out.mono ?_;rintro ev w6 ⟨rfl,d3,O,ac,U,ak⟩;have Fin:Hid (SWK enc k w0 blk off d3 w6∧d3.size=d.size∧PermIn a b d d3∧Srt cf tag d3 a b):=zh ⟨O,ac.trans G.out,permIn_trans _ _ _ _ _ X.out (permIn_trans _ _ _ _ _ (permIn_mono _ _ _ _ _ _ jo jo (by have:=A.out;omega) z.out.1) (permIn_mono _ _ _ _ _ _ jo jo (by have:=G.out;omega) U)),BH jo jo (by have:=A.out;omega) q.out.2.2 z.out.1 z.out.2 U ak⟩;clear C2 O ac U ak A G X z q;go_wp2
   go_end0
   exact⟨rfl,d3,Fin.out⟩)
 have Fin:Hid (o.size=d.size∧PermIn a b d o∧Srt cf tag o a b):=zh ⟨G.out,permIn_trans _ _ _ _ _ X.out (permIn_mono _ _ _ _ _ _ jo jo (by have:=A.out;omega) z.out.1),BH jo jo (by have:=A.out;omega) q.out.2.2 z.out.1 z.out.2 (permIn_refl _ _ _) (by
  have T:∀x,f≤x→x<b→o[x]! = i[x]!:=fun x hx _=>z.out.1.2.1 x (.inr hx)
  by_cases h:e=f
  ·have:=q.out.2.1.2.1.keep (fun x F h2=>T x jo h2);rwa[h]at this
  have:=q.out.2.1.1.keep (fun x F h2=>T x F jo);rwa[show e=b by omega]at this)⟩
 clear A G X z q;by_cases h:f<e
 ·have v1:(f:Int)<(e:Int):=jo;have v2:¬(e:Int)<(b:Int):=jo;clear h M;go_wp2;all_goals go_end0
  all_goals exact⟨rfl,o,Z.out,Fin.out⟩
 have v1:¬(f:Int)<(e:Int):=jo;clear h M;go_wp2;all_goals go_end0
 all_goals exact⟨rfl,o,Z.out,Fin.out⟩
theorem K3(hW:SWO (ltOf cf))(k:Nat)(hk2:k=3)(g:Nat)(cb:Array Value)(blk off cap:Nat)(d0:Array α)(w0:World)(eg:∀args w,(callFunc g args).run prog w=.ok (.enter g args) w)(hC:CmpLays prog g cb enc k cf blk off d0.size w0)
  (R:RowK enc k w0 blk off d0) (hsz:d0.size<1099511627776):∀(n a m b:Nat) (d:Array α) (w:World),b-a≤n→a<m→m<b→MIn enc cf tag k w0 blk off d0 d a m b w →
   Calls prog 154 #[.slice (some ⟨blk,off,none⟩) d.size cap,.int .i64 a,.int .i64 m,.int .i64 b,.func (.func g) #[] cb] w (nO enc cf tag k w0 blk off d a b):=by
 intro n
 induction n with
 | zero=>intro a m b d w p h f;omega
 | succ n ih=>
  intro a m b d w p h f c;have x:=c.hs;by_cases i:m=a+1
  ·exact JI hW k hk2 g cb blk off cap a m b i d0 d w0 w eg hC R c.hs c.S c.hb jo jo (by rw[←i];exact c.s2) (fun y j e=>c.tg a y jo h jo e)
  by_cases u:b=m+1
  ·exact JJ hW k hk2 g cb blk off cap a m b u d0 d w0 w eg hC R c.hs c.S c.hb jo jo c.s1 (fun y j e=>c.tg y m j e (zG _) f)
  exact JK hW k hk2 g cb blk off cap a m b d0 d w0 w eg hC R c jo jo jo (fun z r v t o A l q s=>ih z r v t o jo l q s)
end Ss
end Go.Proofs.YtmomjpolkkbhnaaGreat
