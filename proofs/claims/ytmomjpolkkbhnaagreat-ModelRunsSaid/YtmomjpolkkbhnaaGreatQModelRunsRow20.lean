/- qparse: one, words: the walks. -/
import Derived.Test.YtmomjpolkkbhnaaGreatQModelRunsRow19
set_option linter.unusedSimpArgs false
set_option maxRecDepth 20000
set_option maxHeartbeats 100000000
open Go.Proofs.Tryz
namespace Go.Proofs.YtmomjpolkkbhnaaGreat
namespace Qp
open Go.RowKit Ut Tk Qy
def set4(w:World)(g:Nat)(a b c d:Value):World:=(((w.setCell ⟨g,0,none⟩ a).setCell ⟨g,1,none⟩ b).setCell ⟨g,2,none⟩ c).setCell ⟨g,3,none⟩ d
theorem _root_.Go.Proofs.YtmomjpolkkbhnaaGreat.Blk.four{w:World}{g:Nat}{t:TypeId}{x0 x1 x2 x3:Value}(h:Blk w g t #[x0,x1,x2,x3]) :
  w.cell? ⟨g,0,none⟩=some x0∧w.cell? ⟨g,1,none⟩=some x1∧w.cell? ⟨g,2,none⟩=some x2∧w.cell? ⟨g,3,none⟩=some x3 ∧
  w.frozen? ⟨g,0,none⟩=false∧w.frozen? ⟨g,1,none⟩=false∧w.frozen? ⟨g,2,none⟩=false∧w.frozen? ⟨g,3,none⟩=false:=
 ⟨h.cell 0,h.cell 1,h.cell 2,h.cell 3,h.frozen 0,h.frozen 1,h.frozen 2,h.frozen 3⟩
theorem _root_.Go.Proofs.YtmomjpolkkbhnaaGreat.Blk.set4{w:World}{g:Nat}{t:TypeId}{x0 x1 x2 x3:Value}(h:Blk w g t #[x0,x1,x2,x3])(a b c d:Value):Blk (set4 w g a b c d) g t #[a,b,c,d]:=
 (((h.set_ 0 a).set_ 1 b).set_ 2 c).set_ 3 d
theorem kL(w:World)(g k:Nat)(a b c d:Value)(h:k≠g):(set4 w g a b c d).heap[k]?=w.heap[k]?:=by
 unfold set4;rw[vN _ _ _ _ h,vN _ _ _ _ h,vN _ _ _ _ h,vN _ _ _ _ h]
theorem jb(w:World)(g:Nat)(a b c d:Value):(set4 w g a b c d).heap.size=w.heap.size:=by simp[set4,World.setCell]
theorem gY{B g:Nat}{w0 w:World}(hb:Below B w0 w)(hBg:B≤g)(a b c d:Value):Below B w0 (set4 w g a b c d):=
 (((hb.setCell (p:=⟨g,0,none⟩) hBg a).setCell (p:=⟨g,1,none⟩) hBg b).setCell (p:=⟨g,2,none⟩) hBg c).setCell (p:=⟨g,3,none⟩) hBg d
def OkQ(base:Nat)(w:World)(q:Q)(e:Ending)(w':World):Prop:=∃a0 a1 a2 a3,e=.returned (.agg #[a0,a1,a2,a3])∧QF w' (fun b=>base≤b∧b<w'.heap.size) q [a0,a1,a2,a3]∧zWW w w'
def lC:Ending:=.panicked [{ v:=.iface 149 (.agg #[.int .i64 170]),recovered:=false }]
def Ct(w:World)(o:Option Q)(e:Ending)(w':World):Prop:=
 match o with
 | some q=>OkQ w.heap.size w q e w'
 | none=>e=lC∧zWW w w'
theorem QF.grow{w w':World}{base:Nat}{q:Q}{vs:List Value}(h:QF w (fun b=>base≤b∧b<w.heap.size) q vs)(hb:zWW w w'):QF w' (fun b=>base≤b∧b<w'.heap.size) q vs:=
 (h.keep fun _ _ a=>hb.cell (p:=⟨_,_,none⟩) a.2).mono fun _ a=>⟨a.1,zT a.2 hb.size⟩
theorem AU(k:Int)(l:List Q)(h:l.length≠1):fg k l=.mk k ByteArray.empty [] l:=by
 match l,h with
 | [],_=>rfl
 | [q],h=>simp at h
 | _::_::_,_=>rfl
theorem qI(base:Nat)(k:Int)(v:Value)(l:List Q)(vss:List (List Value))(w:World)(hQ:Qs base w v l vss)(hl:l≠[]):Calls prog 128 #[.int .i64 k,v] w (OkQ base w (fg k l)):=by
 by_cases f:l.length=1
 ·obtain⟨q,rfl⟩:=List.length_eq_one_iff.1 f;obtain⟨b,d,A,n,c,C,m,h,rfl,t,j,p,s,r,u,e⟩:=hQ.first;have i:=Blk.new w 60 #[.int .i64 q.kind,.string q.name,.slice A n c,.slice C m h];have a:=(zy w.heap.size w).alloc (zG _) (.cells #[.int .i64 q.kind,.string q.name,.slice A n c,.slice C m h] 60);have g:=zh (e.grow a);have Hbl:=zh a;clear hQ hl f e a;go_enter func128,ntmps128;go_wp2_with fail;exact zw (fA rfl rfl (zv _ w.heap.size 60 60 #[.int .i64 q.kind,.string q.name,.slice A n c,.slice C m h] (0,0) _ i underlying60 rfl jk)) rfl ⟨_,_,_,_,rfl,g.out,Hbl.out⟩
 rw[AU k l f];obtain⟨C,d,rfl,e⟩:=hQ.query k;have a:=(zy w.heap.size w).alloc (zG _) (.cells #[.int .i64 k,.string ByteArray.empty,.slice none 0 0,.slice C l.length d] 60);have i:=Blk.new w 60 #[.int .i64 k,.string ByteArray.empty,.slice none 0 0,.slice C l.length d];have g:=zh (e.grow a);have Hbl:=zh a;have o:((l.length:Int)==1)=false:=by rw[zM];omega
 clear hQ hl f e a;generalize l.length=n at *;go_enter func128,ntmps128;go_wp2_with fail;exact zw (fA rfl rfl (zv _ w.heap.size 60 60 #[.int .i64 k,.string ByteArray.empty,.slice none 0 0,.slice C n d] (0,0) _ i underlying60 rfl jk)) rfl ⟨_,_,_,_,rfl,g.out,Hbl.out⟩
theorem Bp(g:Nat)(nm s:ByteArray)(w:World)(hs:s.size≤1048576):Calls prog 196 #[.pointer (some ⟨g,0,none⟩),.string nm,.string s] w (Ct w (gW nm.data.toList (words s.data.toList))):=by
 have t:=(zy w.heap.size w).alloc (zG _) (.cells #[.int .i64 0,.string ByteArray.empty,.slice none 0 0,.slice none 0 0] 60);have R:=z8 s (w.alloc (.cells #[.int .i64 0,.string ByteArray.empty,.slice none 0 0,.slice none 0 0] 60)) hs;have O:=Blk.new w 60 #[.int .i64 0,.string ByteArray.empty,.slice none 0 0,.slice none 0 0];have L:(w.alloc (.cells #[.int .i64 0,.string ByteArray.empty,.slice none 0 0,.slice none 0 0] 60)).heap.size=w.heap.size+1:=jz;have S:=zh O;have I:=zh t;have z:=zh L;have Hnm:=zh (kQ nm);have V:=nY s;clear O t L;generalize words s.data.toList=l at *;go_enter func196,ntmps196;go_wp2_with fail;refine R.mono ?_;rintro e h ⟨v,rfl,a,B⟩;have T:w.heap.size+1≤h.heap.size:=by have:=B.size;rw[z.out]at this;exact this
 rw[z.out]at a;obtain⟨A,c,rfl,_⟩:=fT a;have k:=S.out.below B (by rw[z.out];omega);have M:=(ReadsS.of_own a).mono (S':=fun b=>w.heap.size+1≤b∧b<h.heap.size) fun b j=>⟨j.1,j.2.1⟩
 have d:=zh (I.out.trans (B.mono (by rw[z.out];omega)));have u:=zh M;have U:=k.lt;have m:=zh k;obtain⟨q0,q1,Y,W,f0,X,f2,Z⟩:=m.out.four;clear a B M R k;by_cases p:l.length=0
 ·have Fin:Hid (gW nm.data.toList l=none):=zh (by unfold gW;rw[zI (List.length_eq_zero_iff.1 p)]);have H:decide (0<(l.length:Int))=false:=zN jo;have N:(l.length:Int)≤0:=jo;clear u;generalize l.length=n at *;obtain rfl:n=0:=p;go_wp2_with (go_at_call 98;refine(lY g _).mono ?_;rintro e P ⟨rfl,rfl⟩);exact⟨rfl,by rw[Fin.out];exact⟨rfl,d.out⟩⟩
 have H:(0:Int)<(l.length:Int):=jo;by_cases y:l.length=1
 ·have Fin:Hid (gW nm.data.toList l=some (.mk 2 nm (l.map str) [])):=zh (by
   unfold gW;rw[zH (fun e=>p (by rw[e];rfl)),zI y,Hnm.out])
  generalize x:l.length=n at *;have D:=zh x;have C:decide (0<n)=true:=zO jo;clear x p;have F:((n:Int)==1)=true:=by rw[y];rfl
  clear y
  have r:QF (set4 h w.heap.size (.int .i64 2) (.string nm) (.slice A n c) (.slice none 0 0)) (fun b=>w.heap.size≤b∧b<(set4 h w.heap.size (.int .i64 2) (.string nm) (.slice A n c) (.slice none 0 0)).heap.size) (.mk 2 nm (l.map str) []) [.int .i64 2,.string nm,.slice A n c,.slice none 0 0]:=
   .mk [] (by rw[List.length_map];exact D.out) ((u.out.keep fun b o j=>vP (w:=h) (kL h w.heap.size b _ _ _ _ jo)).mono fun b j=>⟨jo,by rw[jb];exact j.2⟩) rfl rfl jz ReadsS.none_ (fun i J=>absurd J jz)
  have f:=gY d.out (zG _) (.int .i64 2) (.string nm) (.slice A n c) (.slice none 0 0);have q:=m.out.set4 (.int .i64 2) (.string nm) (.slice A n c) (.slice none 0 0);have E:=zh r;have Hbl:=zh f;have G:=zh q;clear r f q u d;go_wp2_with (go_at_call 98;refine(mO g _).mono ?_;rintro e P ⟨rfl,rfl⟩);refine zw (fA rfl rfl (zv _ w.heap.size 60 60 #[.int .i64 2,.string nm,.slice A n c,.slice none 0 0] (0,0) _ G.out underlying60 rfl jk)) rfl ?_;rw[Fin.out];exact⟨_,_,_,_,rfl,E.out,Hbl.out⟩
 have Fin:Hid (gW nm.data.toList l=some (.mk 4 nm (l.map str) [])):=zh (by
  unfold gW;rw[zH (fun e=>p (by rw[e];rfl)),zH y,Hnm.out])
 generalize x:l.length=n at *;have D:=zh x;have C:decide (0<n)=true:=zO jo;clear x p;have F:((n:Int)==1)=false:=by rw[zM];omega
 clear y
 have r:QF (set4 h w.heap.size (.int .i64 4) (.string nm) (.slice A n c) (.slice none 0 0)) (fun b=>w.heap.size≤b∧b<(set4 h w.heap.size (.int .i64 4) (.string nm) (.slice A n c) (.slice none 0 0)).heap.size) (.mk 4 nm (l.map str) []) [.int .i64 4,.string nm,.slice A n c,.slice none 0 0]:=
  .mk [] (by rw[List.length_map];exact D.out) ((u.out.keep fun b o j=>vP (w:=h) (kL h w.heap.size b _ _ _ _ jo)).mono fun b j=>⟨jo,by rw[jb];exact j.2⟩) rfl rfl jz ReadsS.none_ (fun i J=>absurd J jz)
 have f:=gY d.out (zG _) (.int .i64 4) (.string nm) (.slice A n c) (.slice none 0 0);have q:=m.out.set4 (.int .i64 4) (.string nm) (.slice A n c) (.slice none 0 0);have E:=zh r;have Hbl:=zh f;have G:=zh q;clear r f q u d;go_wp2_with (go_at_call 98;refine(mO g _).mono ?_;rintro e P ⟨rfl,rfl⟩);refine zw (fA rfl rfl (zv _ w.heap.size 60 60 #[.int .i64 4,.string nm,.slice A n c,.slice none 0 0] (0,0) _ G.out underlying60 rfl jk)) rfl ?_;rw[Fin.out];exact⟨_,_,_,_,rfl,E.out,Hbl.out⟩
end Qp

namespace Qp
open Go.RowKit Ut Tk Qy
theorem kW{w W:World}{g base:Nat}{q:Q}{a0 a1 a2 a3:Value}(hF:QF W (fun b=>base≤b∧b<W.heap.size) q [a0,a1,a2,a3])(hb:g<base)(hw:w.heap.size≤g) :
  QF (set4 W g a0 a1 a2 a3) (fun b=>w.heap.size≤b∧b<(set4 W g a0 a1 a2 a3).heap.size) q [a0,a1,a2,a3]:=
 (hF.keep fun b _ a=>vP (w:=W) (kL W g b _ _ _ _ (by have:=a.1;omega))).mono fun b a=>⟨by have:=a.1;omega,by rw[jb];exact a.2⟩
theorem Mq(s:P):gH s≤s.length:=List.findIdx_le_length
theorem G5(s:P):jF s=decide (atC 58 (s.take (atC 34 s))<(s.take (atC 34 s)).length)∧(jF s=true→gH s=atC 58 s):=by
 unfold jF gH atC
 induction s with
 | nil=>exact⟨rfl,fun h=>by simp at h⟩
 | cons c t ih=>
  by_cases a:c=58
  ·subst a;refine⟨?_,fun _=>?_⟩
   ·simp[List.findIdx_cons]
   simp[List.findIdx_cons]
  have e:(c==58)=false:=zM.2 a;by_cases b:c=34
  ·subst b;refine⟨?_,fun h=>?_⟩
   ·simp[List.findIdx_cons]
   simp[List.findIdx_cons]at h
  have d:(c==34)=false:=zM.2 b;simp only[List.findIdx_cons,e,d,Bool.or_self,cond_false,zC,zX,zV];refine⟨?_,fun h=>?_⟩
  ·rw[ih.1];congr 1;simp
  rw[ih.2 h]
theorem uY(l:P):Lib.hasSuffix l [42]=decide (l.getLast?=some 42):=by
 unfold Lib.hasSuffix;rw[Bool.eq_iff_iff,List.isSuffixOf_iff_suffix,decide_eq_true_iff];constructor
 ·rintro⟨t,rfl⟩;simp
 intro h;obtain⟨a,rfl⟩:=List.getLast?_eq_some_iff.1 h;exact⟨a,rfl⟩
theorem G6(l:P)(h:l.getLast?=some 42):Lib.trimSuffix l [42]=l.dropLast:=by
 unfold Lib.trimSuffix;rw[uY,zI (by simpa using h)];rw[List.dropLast_eq_take];rfl
theorem BK(s:P)(hq:ic s<s.length→ic s+2≤s.length)(h:(gK s).head?=some 34):2≤(gK s).length:=by
 unfold gK at h ⊢;by_cases a:jF s=true
 ·rw[zI a]at h ⊢;unfold jF at a;rw[beq_iff_eq]at a;have g:=tP (fun c=>c==58 || c==34) s
  have d:gH s<s.length:=by
   rcases zj (gH s) s.length with h|h
   ·exact h
   rw[List.getElem?_eq_none h]at a;cases a
  have b:gH s+1<s.length:=by
   rcases zj (gH s+1) s.length with h'|h'
   ·exact h'
   rw[List.drop_of_length_le h']at h;cases h
  have i:ic s=gH s+1:=by
   refine pV _ s _ (fun x hx=>?_) jo (fun f=>?_)
   ·rw[zL d,List.mem_append]at hx;rcases hx with hx|hx
    ·have:=g.1 x hx;simp only[Bool.or_eq_false_iff]at this;exact this.2
    rw[List.mem_singleton]at hx;rw[zU d,Option.some.injEq]at a;rw[hx,a];rfl
   rw[zf b,List.head?_cons,Option.some.injEq]at h;rw[h];rfl
  rw[zP];have:=hq jo;omega
 rw[zH a]at h ⊢
 cases s with
 | nil=>cases h
 | cons c t=>
  simp only[List.head?_cons,Option.some.injEq]at h;subst h;have e:ic ((34:UInt8)::t)=0:=by simp[ic,List.findIdx_cons]
  rw[e]at hq;exact hq jz
def Nn:ByteArray:=⟨#[42]⟩
theorem Bq(s:P):((str s).toList == [42])=decide (s=[42]):=by
 rw[tl,gM,Bool.eq_iff_iff,beq_iff_eq,decide_eq_true_iff]
theorem Mr(g:Nat)(s:P)(hp:Pc s)(hl:s.length≤1048576)(w:World):Calls prog 176 #[.pointer (some ⟨g,0,none⟩),.string (str s)] w (Ct w (fU s)):=by
 by_cases O:s=[42]
 ·have Fin:Hid (fU s=some (.mk 1 ByteArray.empty [] [])):=zh (by unfold fU;rw[zI O]);subst O;have t:=Blk.new w 60 #[.int .i64 1,.string ByteArray.empty,.slice none 0 0,.slice none 0 0];have Hbl:=zh ((zy w.heap.size w).alloc (zG _) (.cells #[.int .i64 1,.string ByteArray.empty,.slice none 0 0,.slice none 0 0] 60));have e0:(str [42]).toList=[42]:=by rw[tl,gM]
  clear hp hl;go_enter func176,ntmps176;go_wp2_with fail;refine zw (fA rfl rfl (zv _ w.heap.size 60 60 #[.int .i64 1,.string ByteArray.empty,.slice none 0 0,.slice none 0 0] (0,0) _ t underlying60 rfl jk)) rfl ?_;rw[Fin.out];exact⟨_,_,_,_,rfl,.mk [] rfl (by simpa using ReadsS.none_) rfl rfl jz ReadsS.none_ (fun i hi=>absurd hi jz),Hbl.out⟩
 have e0:((str s).toList == [42])=false:=by rw[Bq];simpa using O
 have am:(str s).size≤1048576:=by rw[←fB,gM];exact hl
 have ay:=(zy w.heap.size w).alloc (zG _) (.cells #[.int .i64 0,.string ByteArray.empty,.slice none 0 0,.slice none 0 0] 60);have au:=Blk.new w 60 #[.int .i64 0,.string ByteArray.empty,.slice none 0 0,.slice none 0 0];have ax:(w.alloc (.cells #[.int .i64 0,.string ByteArray.empty,.slice none 0 0,.slice none 0 0] 60)).heap.size=w.heap.size+1:=jz;have c0:=Gb 34 (str s) (w.alloc (.cells #[.int .i64 0,.string ByteArray.empty,.slice none 0 0,.slice none 0 0] 60)) am;have ak:=G5 s;have Hq:=zh hp.qt;have L:(mb 34 (str s)).data.toList=s.take (atC 34 s):=by rw[FL,gM]
 have ae:sO 58 (mb 34 (str s))=jF s:=by
  unfold sO;rw[L,ak.1,←fB,L]
 have Hhas:=zh ae;have Hni:=zh ak.2;have aq:=zh ay;have al:=zh au;have ai:=zh ax;have Hst:=zh O;have aM:=zh hp.ne;clear ak hp ay au ax ae L O;go_enter func176,ntmps176;go_wp2_with fail;refine c0.mono ?_;rintro e Y ⟨y,b1,rfl,aa⟩;have F:w.heap.size<Y.heap.size:=by have:=aa.size;rw[ai.out]at this;omega
 have Z:=zh (al.out.below aa (by rw[ai.out];omega));have V:=zh (aq.out.trans (aa.mono (by rw[ai.out];omega)));have c1:=Gc 58 (mb 34 (str s)) Y;rw[Hhas.out]at c1;clear aa c0;generalize mb 34 (str s)=hd at *;go_wp2_with fail;refine c1.mono ?_;rintro e I ⟨rfl,rfl⟩;clear c1 Hhas;by_cases J:jF s=true
 case' pos=>
  have av:atC 58 (str s).data.toList<(str s).size:=by
   rw[gM,←fB,gM,←Hni.out J];unfold jF at J;rw[beq_iff_eq]at J;rcases zj (gH s) s.length with h|h
   ·exact h
   rw[List.getElem?_eq_none h]at J;cases J
  have c2:=Aw 58 (str s) Y am av;have Hnm:Hid ((lN 58 (str s)).data.toList=kE s):=zh (by unfold kE;rw[zI J,AB,gM,Hni.out J]);have Hrs:Hid ((lQ 58 (str s)).data.toList=gK s):=zh (by unfold gK;rw[zI J,GX,gM,Hni.out J]);have ar:(lN 58 (str s)).size≤1048576:=by have:=GY 58 (str s);omega
  have aB:(lQ 58 (str s)).size≤1048576:=by have:=GZ 58 (str s);omega
  clear av Hni;generalize lN 58 (str s)=m at *;generalize lQ 58 (str s)=d at *;go_wp2_with fail;refine c2.mono ?_;rintro e wk ⟨rfl,ad⟩;have S:w.heap.size<wk.heap.size:=zT F ad.size;have ah:=zh (Z.out.below ad F);have Hbk:=zt V ad;clear c2 ad Z V F al aq;go_wp2_with fail
 case' neg=>
  have aN:jF s=false:=by simpa using J
  have S:=F;have ah:=Z;have Hbk:=V;clear Z V F al aq;rename World=>wk
  go_wp2_with fail;generalize ao:(⟨#[109,115,103]⟩:ByteArray)=m;have Hnm:Hid (m.data.toList=kE s):=zh (by unfold kE;rw[zH J,←ao];rfl);have ar:m.size≤1048576:=by rw[←ao];decide
  obtain⟨d,ac⟩:∃d,d=str s:=⟨_,rfl⟩;have Hrs:Hid (d.data.toList=gK s):=zh (by unfold gK;rw[zH J,ac,gM]);have aB:d.size≤1048576:=by rw[ac];exact am
  rw[←ac];clear ac ao Hni
 all_goals
  have cN:=fun D=>FK m D ar
  have CN:=zh cN;clear cN;by_cases hN:isN m.data.toList=true
  case' neg=>
   have az:isN m.data.toList=false:=by simpa using hN
   have Fin:Hid (fU s=none):=zh (by unfold fU;rw[zH Hst.out,zI (by rw[←Hnm.out,←Hrs.out];exact .inl az)]);rw[az]at CN;refine kJ 9 (fF [(4,⟨Unit,fun _=>(.bool false),fun _ _=>True⟩)]) (fun D=>zWW wk D) (fun Y w2=>zWW Y w2) jk jk (fN (fun _ _ _ _ _=>trivial) (fQ)) ((zy _ _).drew) ?_;simp only[zX,List.take_zero,zo,List.drop_zero]
   iterate 4
    refine fG _ ?_ rfl jr jr (fun D B X=>?_) ?_;rotate_left
    ·go_simp;all_goals with_reducible rfl
    try simp only[Act.put,zD,zE,zF]
   refine fo 5 _ rfl jr jr (fun D B X=>?_) (fun x=>?_)
   ·refine fZ (f:=?_) (args:=?_) ?_ ?_;rotate_left 2
    ·go_simp;all_goals first|with_reducible rfl|(refine⟨?_,?_⟩<;>with_reducible rfl)
    exact ia B (CN.out D)
   obtain⟨⟩:=x;try simp only[Act.put,zD,zE,zF]
   refine fG 6 ?_ rfl jr jr (fun D B X=>?_) ?_;rotate_left
   ·go_simp;all_goals with_reducible rfl
   try simp only[Act.put,zD,zE,zF]
   refine fK 7 (some false) true rfl jr jr jr ?_;try simp only[Act.put,zD,zE,zF]
   refine fK 8 (some false) true rfl jr jr jr ?_;try simp only[Act.put,zD,zE,zF]
   refine fG 9 ?_ rfl jr jr (fun D B X=>?_) ?_;rotate_left
   ·go_simp;all_goals with_reducible rfl
   try simp only[Act.put,zD,zE,zF]
   refine fW (fun H B G=>?_);have E:=Hid.out (zh B);clear G B;go_wp2_with (go_at_call 98;refine(lY g _).mono ?_;rintro e I ⟨rfl,rfl⟩);exact⟨rfl,by rw[Fin.out];exact⟨rfl,Hbk.out.trans (E.mono jo)⟩⟩
  case' pos=>
   rw[hN]at CN;by_cases hr:d.size=0
   case' pos=>
    have W:d.data.toList=[]:=wN d hr;have af:d.toList.isEmpty=true:=by rw[tl,W];rfl
    have aJ:d.toList=[]:=by rw[tl,W]
    have Fin:Hid (fU s=none):=zh (by unfold fU;rw[zH Hst.out,zI (by rw[←Hnm.out,←Hrs.out];exact .inr W)]);clear W;refine kJ 9 (fF [(4,⟨Unit,fun _=>(.bool true),fun _ _=>True⟩)]) (fun D=>zWW wk D) (fun Y w2=>zWW Y w2) jk jk (fN (fun _ _ _ _ _=>trivial) (fQ)) ((zy _ _).drew) ?_;simp only[zX,List.take_zero,zo,List.drop_zero]
    iterate 4
     refine fG _ ?_ rfl jr jr (fun D B X=>?_) ?_;rotate_left
     ·go_simp;all_goals with_reducible rfl
     try simp only[Act.put,zD,zE,zF]
    refine fo 5 _ rfl jr jr (fun D B X=>?_) (fun x=>?_)
    ·refine fZ (f:=?_) (args:=?_) ?_ ?_;rotate_left 2
     ·go_simp;all_goals first|with_reducible rfl|(refine⟨?_,?_⟩<;>with_reducible rfl)
     exact ia B (CN.out D)
    obtain⟨⟩:=x;try simp only[Act.put,zD,zE,zF]
    iterate 4
     refine fG _ ?_ rfl jr jr (fun D B X=>?_) ?_;rotate_left
     ·go_simp;all_goals with_reducible rfl
     try simp only[Act.put,zD,zE,zF]
    refine fW (fun H B G=>?_);have E:=Hid.out (zh B);clear G B;go_wp2_with (go_at_call 98;refine(lY g _).mono ?_;rintro e I ⟨rfl,rfl⟩);exact⟨rfl,by rw[Fin.out];exact⟨rfl,Hbk.out.trans (E.mono jo)⟩⟩
   case' neg=>
    have aA:0<d.size:=jo;have af:d.toList.isEmpty=false:=by rw[tl,Bo d aA];rfl
    refine kJ 9 (fF [(4,⟨Unit,fun _=>(.bool true),fun _ _=>True⟩)]) (fun D=>zWW wk D) (fun Y w2=>zWW Y w2) jk jk (fN (fun _ _ _ _ _=>trivial) (fQ)) ((zy _ _).drew) ?_;simp only[zX,List.take_zero,zo,List.drop_zero]
    iterate 4
     refine fG _ ?_ rfl jr jr (fun D B X=>?_) ?_;rotate_left
     ·go_simp;all_goals with_reducible rfl
     try simp only[Act.put,zD,zE,zF]
    refine fo 5 _ rfl jr jr (fun D B X=>?_) (fun x=>?_)
    ·refine fZ (f:=?_) (args:=?_) ?_ ?_;rotate_left 2
     ·go_simp;all_goals first|with_reducible rfl|(refine⟨?_,?_⟩<;>with_reducible rfl)
     exact ia B (CN.out D)
    obtain⟨⟩:=x;try simp only[Act.put,zD,zE,zF]
    iterate 4
     refine fG _ ?_ rfl jr jr (fun D B X=>?_) ?_;rotate_left
     ·go_simp;all_goals with_reducible rfl
     try simp only[Act.put,zD,zE,zF]
    refine fW (fun H B G=>?_);have E:=Hid.out (zh B);clear G B;have C:w.heap.size<H.heap.size:=zT S E.size;have ag:=zh (ah.out.below E S);have Hbn:=zh (Hbk.out.trans (E.mono jo));clear E ah Hbk CN af;have t:d.data.toList.head?=some d[0]:=by rw[←lZ d 0 aA];cases d.data.toList<;>rfl
    have u2:=gu d[0] 34;rw[show (UInt8.toNat 34:Int)=34 from rfl]at u2
    have M:Hid (¬(isN (kE s)=false∨gK s=[])):=zh (by
     rw[←Hnm.out,←Hrs.out,hN];rintro(h|h)
     ·cases h
     rw[h]at t;cases t)
    by_cases hq:d[0]=34
    case' pos=>
     have t2:((d[0].toNat:Int)==34)=true:=by rw[u2];exact beq_iff_eq.2 hq
     have h2:2≤d.size:=by
      have:=BK s Hq.out (by rw[←Hrs.out,t,hq]);rw[←Hrs.out,fB]at this;exact this
     have aL:(1:Int)≤(d.size:Int)-1:=jo;have c3:=Bp g m (d.extract 1 (d.size-1)) H (by rw[ByteArray.size_extract];omega)
     have Fin:Hid (fU s=gW m.data.toList (words (d.extract 1 (d.size-1)).data.toList)):=zh (by
      unfold fU
      rw[zH Hst.out,zH M.out,←Hrs.out,t,hq,zI rfl,←Hnm.out,Lib.extract_data,fB,List.drop_take])
     clear t u2 hq;generalize gW m.data.toList (words (d.extract 1 (d.size-1)).data.toList)=oq at *;go_wp2_with (go_at_call 98;refine(mO g _).mono ?_;rintro e I ⟨rfl,rfl⟩);refine c3.mono ?_;intro e z r
     cases oq with
     | none=>
      obtain⟨rfl,k⟩:=r;have U:=Hid.out (zh k);clear k;unfold lC;exact⟨rfl,by rw[Fin.out];exact⟨rfl,Hbn.out.trans (U.mono jo)⟩⟩
     | some q=>
      obtain⟨a0,a1,a2,a3,rfl,G,k⟩:=r;have p:=ag.out.below k C;obtain⟨q0,q1,q2,q3,f0,f1,f2,f3⟩:=p.four;obtain⟨A',n',c',C',m',d',e4⟩:=G.four;simp only[zQ,and_true]at e4;obtain⟨rfl,rfl,rfl,rfl⟩:=e4;have t:=p.set4 (.int .i64 q.kind) (.string q.name) (.slice A' n' c') (.slice C' m' d');have HF:=zh (kW (w:=w) G C (zG _));have Hbl:=zh (gY (Hbn.out.trans (k.mono jo)) (zG _) (.int .i64 q.kind) (.string q.name) (.slice A' n' c') (.slice C' m' d'));have Hh:=zh t;clear G k p t;go_wp2_with fail;refine zw (fA rfl rfl (zv _ w.heap.size 60 60 #[.int .i64 q.kind,.string q.name,.slice A' n' c',.slice C' m' d'] (0,0) _ Hh.out underlying60 rfl jk)) rfl ?_;rw[Fin.out];exact⟨_,_,_,_,rfl,HF.out,Hbl.out⟩
    case' neg=>
     have t2:((d[0].toNat:Int)==34)=false:=by rw[u2];exact zM.2 hq
     have cc:Calls prog 197 #[.string d,.string ⟨#[42]⟩] H fun e I=>e=.returned (.tuple #[.string (str (Lib.trimSuffix d.data.toList [42])),.bool (Lib.hasSuffix d.data.toList [42])])∧H=I:=
      (Tryz.strings_CutSuffix d Nn H jo).mono fun _ _ h=>⟨h.1,h.2.symm⟩
     have ab:¬(gK s).head?=some 34:=by rw[←Hrs.out,t];simpa using hq
     by_cases hs:d.data.toList.getLast?=some 42
     case' neg=>
      have e5:Lib.hasSuffix d.data.toList [42]=false:=by rw[uY];simpa using hs
      rw[e5]at cc;have c3:=Bp g m d H aB
      have Fin:Hid (fU s=gW m.data.toList (words d.data.toList)):=zh (by
       unfold fU
       rw[zH Hst.out,zH M.out,zH ab,←Hrs.out,zH hs,←Hnm.out])
      clear t u2 hq ab hs e5;generalize Lib.trimSuffix d.data.toList [42]=tr at *;generalize gW m.data.toList (words d.data.toList)=oq at *
      go_wp2_with (first
       | (go_at_call 98;refine(mO g _).mono ?_;rintro e I ⟨rfl,rfl⟩)
       | (go_at_call 197;refine cc.mono ?_;rintro e I ⟨rfl,rfl⟩))
      refine c3.mono ?_;intro e z r
      cases oq with
      | none=>
       obtain⟨rfl,k⟩:=r;have U:=Hid.out (zh k);clear k;unfold lC;exact⟨rfl,by rw[Fin.out];exact⟨rfl,Hbn.out.trans (U.mono jo)⟩⟩
      | some q=>
       obtain⟨a0,a1,a2,a3,rfl,G,k⟩:=r;have p:=ag.out.below k C;obtain⟨q0,q1,q2,q3,f0,f1,f2,f3⟩:=p.four;obtain⟨A',n',c',C',m',d',e4⟩:=G.four;simp only[zQ,and_true]at e4;obtain⟨rfl,rfl,rfl,rfl⟩:=e4;have t:=p.set4 (.int .i64 q.kind) (.string q.name) (.slice A' n' c') (.slice C' m' d');have HF:=zh (kW (w:=w) G C (zG _));have Hbl:=zh (gY (Hbn.out.trans (k.mono jo)) (zG _) (.int .i64 q.kind) (.string q.name) (.slice A' n' c') (.slice C' m' d'));have Hh:=zh t;clear G k p t;go_wp2_with fail;refine zw (fA rfl rfl (zv _ w.heap.size 60 60 #[.int .i64 q.kind,.string q.name,.slice A' n' c',.slice C' m' d'] (0,0) _ Hh.out underlying60 rfl jk)) rfl ?_;rw[Fin.out];exact⟨_,_,_,_,rfl,HF.out,Hbl.out⟩
     case' pos=>
      have e5:Lib.hasSuffix d.data.toList [42]=true:=by rw[uY];simpa using hs
      rw[e5,G6 _ hs]at cc;have N:d.data.toList.dropLast.length=d.size-1:=by rw[List.length_dropLast,fB]
      have aD:(str d.data.toList.dropLast).size≤1048576:=by rw[←fB,gM,N];omega
      have c4:=z8 (str d.data.toList.dropLast) H aD;rw[gM]at c4
      have Fin0:Hid (fU s=if d.size=1 then some (.mk 3 m [ByteArray.empty] [])else if(words d.data.toList.dropLast).length=1 then some (.mk 3 m ((words d.data.toList.dropLast).map str) [])else none):=zh (by
       unfold fU
       rw[zH Hst.out,zH M.out,zH ab,←Hrs.out,zI hs,fB,←Hnm.out,kQ])
      have aF:=nY (str d.data.toList.dropLast);rw[gM]at aF
      have Hem:Hid (d.size=1→(str d.data.toList.dropLast).toList=[]):=zh (fun h=>by
       rw[tl,gM];exact List.length_eq_zero_iff.1 (by rw[N];omega))
      have Hnem:Hid (d.size≠1→(str d.data.toList.dropLast).toList.isEmpty=false):=zh (fun h=>by
       rw[tl,gM]
       cases hd5:d.data.toList.dropLast with
       | nil=>rw[hd5]at N;simp at N;omega
       | cons a b=>rfl)
      clear t u2 hq ab hs e5 N;generalize words d.data.toList.dropLast=l at *;generalize str d.data.toList.dropLast=bg at *
      go_wp2_with (first
       | (go_at_call 98;refine(mO g _).mono ?_;rintro e I ⟨rfl,rfl⟩)
       | (go_at_call 197;refine cc.mono ?_;rintro e I ⟨rfl,rfl⟩))
      refine c4.mono ?_;rintro e z ⟨v,rfl,R,k⟩;obtain⟨A,c,rfl,_⟩:=fT R;have hR:=(ReadsS.of_own R).mono (S':=fun b=>H.heap.size≤b∧b<z.heap.size) fun b hS=>⟨hS.1,hS.2.1⟩
      have aH:H.heap.size≤z.heap.size:=k.size;have p:=zh (ag.out.below k C);have an:=zh (Hbn.out.trans (k.mono jo));have HR:=zh hR;clear R hR k c4 cc;by_cases o:d.size=1
      ·have aC:=Hem.out o;have Fin:Hid (fU s=some (.mk 3 m [⟨#[]⟩] [])):=zh (by rw[Fin0.out,zI o];rfl);obtain⟨q0,q1,q2,q3,f0,f1,f2,f3⟩:=p.out.four;have aG:w.heap.size<z.heap.size:=jo;have aI:w.heap.size≠z.heap.size:=jo;have aj:=Blk.new (set4 z w.heap.size (.int .i64 3) (.string m) (.slice (some ⟨z.heap.size,0,none⟩) 1 1) (.slice none 0 0)) 9 #[.string ⟨#[]⟩];have aE:(World.heap ((set4 z w.heap.size (.int .i64 3) (.string m) (.slice (some ⟨z.heap.size,0,none⟩) 1 1) (.slice none 0 0)).alloc (.cells #[.string ⟨#[]⟩] 9))).size=z.heap.size+1:=by rw[vM,jb]
       rw[jb]at aj;have t:=(p.out.set4 (.int .i64 3) (.string m) (.slice (some ⟨z.heap.size,0,none⟩) 1 1) (.slice none 0 0)).alloc (.cells #[.string ⟨#[]⟩] 9)
       have HF:Hid (QF ((set4 z w.heap.size (.int .i64 3) (.string m) (.slice (some ⟨z.heap.size,0,none⟩) 1 1) (.slice none 0 0)).alloc (.cells #[.string ⟨#[]⟩] 9)) (fun b=>w.heap.size≤b∧b<(World.heap ((set4 z w.heap.size (.int .i64 3) (.string m) (.slice (some ⟨z.heap.size,0,none⟩) 1 1) (.slice none 0 0)).alloc (.cells #[.string ⟨#[]⟩] 9))).size) (.mk 3 m [⟨#[]⟩] []) [.int .i64 3,.string m,.slice (some ⟨z.heap.size,0,none⟩) 1 1,.slice none 0 0]):=zh
        (.mk [] rfl ⟨rfl,fun _=>⟨z.heap.size,0,rfl,⟨jo,jo⟩,fun j u hu=>by
         rw[aj.cell];match j,hu with
         | 0,hu=>simpa using hu
         | j+1,hu=>simp at hu⟩⟩ rfl rfl jz ReadsS.none_ (fun i hi=>absurd hi jz))
       have Hbl:=zh ((gY an.out (zG _) (.int .i64 3) (.string m) (.slice (some ⟨z.heap.size,0,none⟩) 1 1) (.slice none 0 0)).alloc (by rw[jb];omega) (.cells #[.string ⟨#[]⟩] 9));have Hh:=zh t;clear aj aE t HR Hem Hnem o;go_wp2_with (go_at_call 98;refine(mO g _).mono ?_;rintro e I ⟨rfl,rfl⟩);refine zw (fA rfl rfl (zv _ w.heap.size 60 60 #[.int .i64 3,.string m,.slice (some ⟨z.heap.size,0,none⟩) 1 1,.slice none 0 0] (0,0) _ Hh.out underlying60 rfl jk)) rfl ?_;rw[Fin.out];exact⟨_,_,_,_,rfl,HF.out,Hbl.out⟩
      have aC:=Hnem.out o;by_cases T:l.length=1
      ·have Fin:Hid (fU s=some (.mk 3 m (l.map str) [])):=zh (by rw[Fin0.out,zH o,zI T]);obtain⟨q0,q1,q2,q3,f0,f1,f2,f3⟩:=p.out.four;generalize ap:l.length=n at *;have aK:=zh ap;have t:=p.out.set4 (.int .i64 3) (.string m) (.slice A n c) (.slice none 0 0)
       have G:QF z (fun b=>H.heap.size≤b∧b<z.heap.size) (.mk 3 m (l.map str) []) [.int .i64 3,.string m,.slice A n c,.slice none 0 0]:=
        .mk [] (by rw[List.length_map];exact ap) HR.out rfl rfl jz ReadsS.none_ (fun i hi=>absurd hi jz)
       have HF:=zh (kW (w:=w) G C (zG _));have Hbl:=zh (gY an.out (zG _) (.int .i64 3) (.string m) (.slice A n c) (.slice none 0 0));have Hh:=zh t;have aw:((n:Int)==1)=true:=by rw[T];rfl
       clear G t HR Hem Hnem o ap T;go_wp2_with (go_at_call 98;refine(mO g _).mono ?_;rintro e I ⟨rfl,rfl⟩);refine zw (fA rfl rfl (zv _ w.heap.size 60 60 #[.int .i64 3,.string m,.slice A n c,.slice none 0 0] (0,0) _ Hh.out underlying60 rfl jk)) rfl ?_;rw[Fin.out];exact⟨_,_,_,_,rfl,HF.out,Hbl.out⟩
      have Fin:Hid (fU s=none):=zh (by rw[Fin0.out,zH o,zH T]);have aw:((l.length:Int)==1)=false:=by rw[zM];omega
      clear HR Hem Hnem o T;generalize l.length=n at *;go_wp2_with (go_at_call 98;refine(lY g _).mono ?_;rintro e I ⟨rfl,rfl⟩);exact⟨rfl,by rw[Fin.out];exact⟨rfl,an.out⟩⟩
end Qp
end Go.Proofs.YtmomjpolkkbhnaaGreat
