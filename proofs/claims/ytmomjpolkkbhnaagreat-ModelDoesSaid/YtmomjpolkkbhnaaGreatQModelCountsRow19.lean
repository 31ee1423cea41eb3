/- (*Model).docs; the closures that up is given (printed by gen_mdd.py). -/
import Derived.Test.YtmomjpolkkbhnaaGreatQModelCountsRow15
import Derived.Test.YtmomjpolkkbhnaaGreatQModelCountsRow18
import Derived.Test.YtmomjpolkkbhnaaGreatQModelCountsRow23
set_option linter.unusedSimpArgs false
set_option linter.unusedVariables false
set_option maxRecDepth 20000
set_option maxHeartbeats 100000000
open Go.Proofs.Tryz
namespace Go.Proofs.YtmomjpolkkbhnaaGreat
namespace Md
open Go.RowKit Ut Tk Qy Qp Ev
theorem yX{w:World}{F:Option Addr}{fn fc:Nat}{fs:List Fl}(h:FlAt w w.heap.size F fn fc fs)(hck:aM fs=0):EvAt w F fn fs:=⟨h.rd,h.len,h.few,fun f hf=>by have:=((gP hck).2 f hf).2.2;omega⟩
structure QBl (w:World) (g:Nat) (q:Q):Prop where
 ex:∃A n c B m d,Blk w g 60 #[.int .i64 q.kind,.string q.name,.slice A n c,.slice B m d]∧QAt w w.heap.size q [.int .i64 q.kind,.string q.name,.slice A n c,.slice B m d]
theorem QBl.below{w w':World}{g:Nat}{q:Q}(h:QBl w g q)(hb:zWW w w'):QBl w' g q:=by
 obtain⟨A,n,c,B,m,d,h1,h2⟩:=h.ex;exact⟨A,n,c,B,m,d,h1.below hb h1.lt,h2.grow hb⟩
theorem Dk(d:Dc)(hck:aM d.fs=0)(q:Q)(hq:QSz q)(Fa:Option Addr)(fc g:Nat)(w:World)(hQ:QBl w g q)(hF:FlAt w w.heap.size Fa d.fs.length fc d.fs) :
  Calls prog 73 (#[.agg #[.int .i64 d.seq,.int .i64 d.at_,.slice Fa d.fs.length fc]] ++ #[.pointer (some ⟨g,0,none⟩)]) w fun e w'=>e=.returned (.bool (aC d.fs q))∧zWW w w':=by
 obtain⟨A,n,c,B,m,e,h1,h2⟩:=hQ.ex;have hb:zWW w (w.alloc (.cells #[.int .i64 d.seq,.int .i64 d.at_,.slice Fa d.fs.length fc] 48)):=zRR _;have CM:=zh (uQ d.fs q hq (w.alloc (.cells #[.int .i64 d.seq,.int .i64 d.at_,.slice Fa d.fs.length fc] 48)) _ _ _ _ d.at_ Fa d.fs.length fc (h2.grow hb) (yX (flg hF hb) hck));have hB1:=h1.below hb h1.lt;have k0:=hB1.cell 0;have k1:=hB1.cell 1;have k2:=hB1.cell 2;have k3:=hB1.cell 3;have hX:=Blk.new w 48 #[.int .i64 d.seq,.int .i64 d.at_,.slice Fa d.fs.length fc];have x1:=hX.cell 1;have x2:=hX.cell 2;simp only[zA,zB,zC]at k0 k1 k2 k3 x1 x2;have HB:=zh hb;clear hQ h1 h2 hb hF hB1 hX;generalize q.kind=qk at *;generalize q.name=qn at *;generalize aC d.fs q=mb at *;show Calls prog 73 #[.agg #[.int .i64 d.seq,.int .i64 d.at_,.slice Fa d.fs.length fc],.pointer (some ⟨g,0,none⟩)] w _;go_enter func73,ntmps73;go_wp2_with fail;refine CM.out.mono ?_;rintro e w2 ⟨rfl,hb2⟩;have HB2:=zt HB hb2;clear hb2 CM k0 k1 k2 k3 x1 x2;go_wp2;go_ret;exact⟨rfl,HB2.out⟩
theorem Bv(d:Dc)(Fa:Option Addr)(fc:Nat)(w:World) :
  Calls prog 75 (#[.agg #[.int .i64 d.seq,.int .i64 d.at_,.slice Fa d.fs.length fc]] ++ #[]) w fun e w'=>e=.returned (.bool true)∧zWW w w':=by
 have HB:Hid (zWW w (w.alloc (.cells #[.int .i64 d.seq,.int .i64 d.at_,.slice Fa d.fs.length fc] 48))):=zh (zRR _);show Calls prog 75 #[.agg #[.int .i64 d.seq,.int .i64 d.at_,.slice Fa d.fs.length fc]] w _;go_enter func75,ntmps75;go_wp2;go_ret;exact⟨rfl,HB.out⟩
def inB(a b:Int)(q:Q)(d:Dc):Bool:=decide (a≤d.at_)&&decide (d.at_≤b)&&aC d.fs q
theorem Dl(d:Dc)(hck:aM d.fs=0)(q:Q)(hq:QSz q)(Fa:Option Addr)(fc g1 g2 g:Nat)(a b:Int)(w:World)(hQ:QBl w g q)(hF:FlAt w w.heap.size Fa d.fs.length fc d.fs)
  (hA:Blk w g1 3 #[.int .i64 a]) (hB:Blk w g2 3 #[.int .i64 b]) :
  Calls prog 101 (#[.agg #[.int .i64 d.seq,.int .i64 d.at_,.slice Fa d.fs.length fc]] ++ #[.pointer (some ⟨g1,0,none⟩),.pointer (some ⟨g2,0,none⟩),.pointer (some ⟨g,0,none⟩)]) w fun e w'=>e=.returned (.bool (inB a b q d))∧zWW w w':=by
 obtain⟨A,n,c,B,m,e,h1,h2⟩:=hQ.ex;have hb:zWW w (w.alloc (.cells #[.int .i64 d.seq,.int .i64 d.at_,.slice Fa d.fs.length fc] 48)):=zRR _;have CM:=zh (uQ d.fs q hq (w.alloc (.cells #[.int .i64 d.seq,.int .i64 d.at_,.slice Fa d.fs.length fc] 48)) _ _ _ _ d.at_ Fa d.fs.length fc (h2.grow hb) (yX (flg hF hb) hck));have hB1:=h1.below hb h1.lt;have k0:=hB1.cell 0;have k1:=hB1.cell 1;have k2:=hB1.cell 2;have k3:=hB1.cell 3;have hX:=Blk.new w 48 #[.int .i64 d.seq,.int .i64 d.at_,.slice Fa d.fs.length fc];have x1:=hX.cell 1;have x2:=hX.cell 2;have y1:=(hA.below hb hA.lt).cell 0;have y2:=(hB.below hb hB.lt).cell 0;simp only[zA,zB,zC]at k0 k1 k2 k3 x1 x2 y1 y2;have HB:=zh hb;have hin:inB a b q d=(decide (a≤d.at_)&&decide (d.at_≤b)&&aC d.fs q):=rfl;rw[hin];clear hQ h1 h2 hb hF hB1 hX hA hB hin;generalize q.kind=qk at *;generalize q.name=qn at *;generalize aC d.fs q=mb at *;obtain⟨s,ta,fs⟩:=d;simp only at *;show Calls prog 101 #[.agg #[.int .i64 s,.int .i64 ta,.slice Fa fs.length fc],.pointer (some ⟨g1,0,none⟩),.pointer (some ⟨g2,0,none⟩),.pointer (some ⟨g,0,none⟩)] w _;by_cases c1:a≤ta
 ·by_cases c2:ta≤b
  ·rw[zO c1,zO c2];go_enter func101,ntmps101;go_wp2_with fail;refine CM.out.mono ?_;rintro e w2 ⟨rfl,hb2⟩;have HB2:=zt HB hb2;clear hb2 CM k0 k1 k2 k3 x1 x2 y1 y2;go_wp2;go_ret;exact⟨rfl,HB2.out⟩
  rw[zO c1,zN c2];clear CM;go_enter func101,ntmps101;go_wp2;go_ret;exact⟨rfl,HB.out⟩
 rw[zN c1];clear CM;go_enter func101,ntmps101;go_wp2;go_ret;exact⟨rfl,HB.out⟩
structure ByT (l m:List Dc):Prop where
 perm:m.Perm l
 up:m.Pairwise ltD
def nN(w:World)(L:List Dc)(e:Ending)(w':World):Prop:=∃v D,e=.returned v∧DOwn w' w.heap.size v D∧ByT L D∧zWW w w'
end Md

namespace Md
open Go.RowKit Ut Tk Qy Qp Ev
def FldOf(w:World)(S:Nat→Prop)(x:El):Prop:=ReadsS w S 2 x.F x.n (aO x.d.fs)∧x.d.fs.length=x.n∧x.n≤8796093021952∧x.n≤x.c∧(x.F=none→x.c=0)
theorem FldOf.dc{w:World}{S:Nat→Prop}{x:El}(h:FldOf w S x):DcS w S x.d (eT x):=⟨x.F,x.n,x.c,rfl,h.1,h.2.1,h.2.2.1,h.2.2.2.1,h.2.2.2.2⟩
theorem xz{w:World}{S:Nat→Prop}:∀(ds:List Dc) (vss:List (List Value)),vss.length=ds.length→(∀i (h:i<ds.length) (h':i<vss.length),DcS w S ds[i] vss[i])→∃l:List El,l.map El.d=ds∧l.map eT=vss∧∀x∈l,FldOf w S x
 | [],[],_,_=>⟨[],rfl,rfl,fun x hx=>(nomatch hx)⟩
 | d::ds,v::vss,hl,h=>by
  obtain⟨l,h1,h2,h3⟩:=xz ds vss (by simpa using hl) (fun i a b=>h (i+1) (Nat.succ_lt_succ a) (Nat.succ_lt_succ b));obtain⟨F,fn,fc,e,g⟩:=(h 0 jz jz).ex;simp only[List.getElem_cons_zero]at e g;refine⟨⟨d,F,fn,fc⟩::l,by simp[h1],by rw[List.map_cons,h2,e];rfl,fun x hx=>?_⟩;rcases List.mem_cons.1 hx with rfl|hx
  ·exact g
  exact h3 x hx
theorem IA{w:World}{base:Nat}{v:Value}{l:List El}(h:w.ownsRow base 48 3 v l.length (l.flatMap eT))(hf:∀x∈l,FldOf w (Go.Proofs.YtmomjpolkkbhnaaGreat.Ev.Fd w base) x):DOwn w base v (l.map El.d):=by
 refine⟨l.map eT,jz,by rw[List.length_map,←List.flatMap_def];exact h,fun i a b=>?_⟩;rw[List.getElem_map,List.getElem_map];exact(hf _ (za _)).dc
theorem FldOf.grown{w w':World}{base g:Nat}{x:El}(h:FldOf w (Go.Proofs.YtmomjpolkkbhnaaGreat.Ev.Fd w base) x)(hg:w.grownBy w' (some g))(ht:Tg w 48 g):FldOf w' (Go.Proofs.YtmomjpolkkbhnaaGreat.Ev.Fd w' base) x:=
 ⟨h.1.same (fun b hS=>by
  have e:w'.heap[b]?=w.heap[b]?:=hg.block b hS.2.lt (fun e=>by
   injection e with e;subst e
   exact absurd (ht.one hS.2) jd)
  exact⟨⟨hS.1,hS.2.same e⟩,e⟩),h.2⟩
theorem IB{w:World}{base:Nat}{v:Value}{ds:List Dc}(h:DOwn w base v ds)(hl:ds.length≤1048576)(h0:∀d∈ds,0≤d.seq)(hp:ds.Pairwise (fun x y=>x.seq<y.seq)) :
  Calls prog 102 #[v,.func (.func 103) #[] #[]] w fun e w'=>e=.returned (.tuple #[])∧∃D,ByT ds D∧DOwn w' base v D∧w.grownBy w' v.ownBlock:=by
 obtain⟨vss,g1,g2,g3⟩:=h.ex;obtain⟨l,rfl,rfl,hf⟩:=xz ds vss g1 g3;rw[List.length_map]at g2 hl;rw[←List.flatMap_def]at g2;have hp':l.Pairwise (fun x y=>x.d.seq<y.d.seq):=(List.pairwise_map (f:=El.d)).1 hp;have h0':∀x∈l,0≤x.d.seq:=fun x hx=>h0 _ (List.mem_map.2 ⟨x,hx,rfl⟩)
 rcases g2.2 with⟨hv,hz⟩|⟨g,cap,cur,hv,hb,hh,hc1,hc2,hc3,ht⟩
 ·have hl0:l=[]:=List.length_eq_zero_iff.1 hz;subst hl0 hv;refine(Dg w _).mono ?_;rintro e w' ⟨rfl,rfl⟩;exact⟨rfl,[],⟨List.Perm.refl _,List.Pairwise.nil⟩,h,aJ (zw _ _) _⟩
 subst hv;refine(Df base g cap l cur w hh (by first|exact ht|simpa using ht) hl hb hc1 hc2 hc3 h0' hp').mono ?_;rintro e w' ⟨rfl,m,q1,q2,q3,q4⟩;refine⟨rfl,m.map El.d,⟨q1.map _,(List.pairwise_map (f:=El.d)).2 q2⟩,?_,q4⟩;have hml:m.length=l.length:=q1.length_eq;rw[←hml]at q3;exact IA (by rw[hml]at q3 ⊢;exact q3) (fun x hx=>(hf x (q1.mem_iff.1 hx)).grown q4 ⟨_,_,hh⟩)
theorem rD{m:M}(h:Ok m):m.ds.Pairwise (fun x y=>x.seq<y.seq):=by
 rw[List.pairwise_iff_getElem];intro i j hi hj hij;have h1:=(h.doc i hi).2.1;have h2:=(h.doc j hj).2.1;omega
theorem Jf{m:M}(h:Ok m):∀d∈m.ds,0≤d.seq:=fun d hd=>by
 obtain⟨i,hi,rfl⟩:=zp.1 hd;have h1:=(h.doc i hi).2.1;omega
theorem ql{m:M}(h:Ok m):∀d∈m.ds,aM d.fs=0:=fun d hd=>by
 obtain⟨i,hi,rfl⟩:=zp.1 hd;exact(h.doc i hi).1
theorem mI{w:World}{n0 X K:Nat}{v:Value}{m:M}(h:At w n0 X K v m)(hK:K≤60000)(q:Q)(hq:QSz q)(a0 a1 a2 a3:Value)(a b:Int)(hQ:∃A n c B k d,[a0,a1,a2,a3]=[.int .i64 q.kind,.string q.name,.slice A n c,.slice B k d])(hqa:QAt w w.heap.size q [a0,a1,a2,a3]) :
  Calls prog 67 #[.pointer (some ⟨X,0,none⟩),.agg #[a0,a1,a2,a3],.int .i64 a,.int .i64 b] w (nN w (upL m (inB a b q))):=by
 obtain⟨A,n,c,B,k,d,e⟩:=hQ;simp only[zQ,and_true]at e;obtain⟨rfl,rfl,rfl,rfl⟩:=e;have hb1:zWW w (w.alloc (.cells #[.int .i64 q.kind,.string q.name,.slice A n c,.slice B k d] 60)):=zRR _;have hb2:=hb1.alloc hb1.size (.cells #[.int .i64 a] 3);have hb3:=hb2.alloc hb2.size (.cells #[.int .i64 b] 3);have z1:(w.alloc (.cells #[.int .i64 q.kind,.string q.name,.slice A n c,.slice B k d] 60)).heap.size=w.heap.size+1:=jz;have z2:((w.alloc (.cells #[.int .i64 q.kind,.string q.name,.slice A n c,.slice B k d] 60)).alloc (.cells #[.int .i64 a] 3)).heap.size=w.heap.size+2:=jz;have x1:=((Blk.new w 60 #[.int .i64 q.kind,.string q.name,.slice A n c,.slice B k d]).alloc (.cells #[.int .i64 a] 3)).alloc (.cells #[.int .i64 b] 3);have x2:=(Blk.new (w.alloc (.cells #[.int .i64 q.kind,.string q.name,.slice A n c,.slice B k d] 60)) 3 #[.int .i64 a]).alloc (.cells #[.int .i64 b] 3);have x3:=Blk.new ((w.alloc (.cells #[.int .i64 q.kind,.string q.name,.slice A n c,.slice B k d] 60)).alloc (.cells #[.int .i64 a] 3)) 3 #[.int .i64 b];rw[z1]at x2;rw[z2]at x3;generalize hw3:((w.alloc (.cells #[.int .i64 q.kind,.string q.name,.slice A n c,.slice B k d] 60)).alloc (.cells #[.int .i64 a] 3)).alloc (.cells #[.int .i64 b] 3)=w3 at *;have H3:=h.below hb3;have HQ:QBl w3 w.heap.size q:=⟨A,n,c,B,k,d,x1,hqa.grow hb3⟩
 have CU:=zh (qi H3 hK 101 #[.pointer (some ⟨w.heap.size+1,0,none⟩),.pointer (some ⟨w.heap.size+2,0,none⟩),.pointer (some ⟨w.heap.size,0,none⟩)] (inB a b q) (enters_of func101 jk rfl)
  (fun d hd wx hb Fa fc hF=>Dl d (ql h.ok d hd) q hq Fa fc _ _ _ a b wx (HQ.below hb) hF (x2.below hb x2.lt) (x3.below hb x3.lt)))
 have HLN:Hid ((upL m (inB a b q)).length≤60000∧(∀d∈upL m (inB a b q),0≤d.seq)∧(upL m (inB a b q)).Pairwise (fun x y=>x.seq<y.seq)):=zh ⟨zY (List.length_filter_le _ _) (zY h.few hK),fun d hd=>Jf h.ok d (List.mem_filter.1 hd).1,(rD h.ok).filter _⟩;have HB3:=zh hb3;have hs3:=hb3.size;generalize upL m (inB a b q)=L at *;clear h H3 HQ hqa hb1 hb2 hb3 z1 z2 x1 x2 x3;subst hw3;go_enter func67,ntmps67;go_wp2_with fail;generalize ((w.alloc (.cells #[.int .i64 q.kind,.string q.name,.slice A n c,.slice B k d] 60)).alloc (.cells #[.int .i64 a] 3)).alloc (.cells #[.int .i64 b] 3)=w3 at *;refine CU.out.mono ?_;rintro e w4 ⟨v4,rfl,hD,hb4⟩;have CS:=zh (IB hD (by have:=HLN.out.1;omega) HLN.out.2.1 HLN.out.2.2);have HB4:=zt HB3 hb4
 have HOB:Hid (∀j,v4.ownBlock=some j→w.heap.size≤j):=zh (fun j hj=>by
  obtain⟨vss,_,g2,_⟩:=hD.ex;have:=(g2.lt j hj).1
  omega)
 clear hD hb4 CU;go_wp2_with fail;refine CS.out.mono ?_;rintro e w5 ⟨rfl,D,hT,hD5,hg⟩;have FIN:Hid (nN w L (.returned v4) w5):=zh ⟨v4,D,rfl,hD5.mono hs3,hT,HB4.out.grown hg (by have:=HB4.out.size;omega) (fun j hj=>HOB.out j hj)⟩;clear hT hD5 hg CS;go_wp2;go_ret;exact FIN.out
end Md

namespace Cu
open Go.RowKit Cr Qp Qy
def IsC(a:Int)(q:ByteArray):Prop:=0≤a∧a≤1099511627776∧∃o,PrsR q.data.toList 0 o
open Classical in
noncomputable def iO (a:Int) (q:ByteArray):Bool:=decide (IsC a q)
open Classical in
theorem mM{a:Int}{q:ByteArray}(h:IsC a q):iO a q=true:=by unfold iO;exact zO h
open Classical in
theorem mW{a:Int}{q:ByteArray}(h:¬IsC a q):iO a q=false:=by unfold iO;exact zN h
theorem IsC.short{a:Int}{q:ByteArray}(h:IsC a q):q.size≤1024:=by
 obtain⟨_,_,o,hp⟩:=h;rw[←aB]
 cases hp with
 | ok h _ _ _ _=>exact h
theorem yG{a:Int}{q:ByteArray}{E:Int}{o:Option Q}(hp:PrsR q.data.toList E o):IsC a q↔(0≤a∧a≤1099511627776∧E=0):=
 ⟨fun⟨h1,h2,o',h3⟩=>⟨h1,h2,(hp.det h3).1⟩,fun⟨h1,h2,h3⟩=>⟨h1,h2,o,by rw[←h3];exact hp⟩⟩
theorem xM(a:Int)(q:ByteArray)(w:World):Calls prog 108 #[.agg #[.int .i64 a,.string q]] w fun e w'=>e=.returned (.bool (iO a q))∧zWW w w':=by
 have hb0:=(zw w.heap.size w).alloc (zG _) (.cells #[.int .i64 a,.string q] 122);have hB0:=Blk.new w 122 #[.int .i64 a,.string q];have hz0:(w.alloc (.cells #[.int .i64 a,.string q] 122)).heap.size=w.heap.size+1:=jz;have c1:=kr q (w.alloc (.cells #[.int .i64 a,.string q] 122));generalize hm:iO a q=b;have Hm:=zh hm;have Hb0:=zh hb0;have HB0:=zh hB0;have Hz0:=zh hz0;clear hm hb0 hB0 hz0;go_enter func108,ntmps108;go_wp2_with fail;refine c1.mono ?_;rintro e w1 ⟨E,oq,a0,a1,a2,a3,hp,rfl,hF,hb1⟩;have hbx:=(HB0.out.below hb1 (by rw[Hz0.out];omega)).alloc (.cells #[a0,a1,a2,a3] 60);have hz1:=hb1.size;have Hfin:=zh ((Hb0.out.trans (hb1.mono (by rw[Hz0.out];omega))).alloc (by have:=Hz0.out;omega) (.cells #[a0,a1,a2,a3] 60));have HI:=zh (yG (a:=a) hp);have hc0:=hbx.cell 0;have hc1:=hbx.cell 1;have hlt:w.heap.size<w1.heap.size:=by have:=Hz0.out;omega
 obtain⟨A',n',c',C',m',d',e4⟩:=hF.four;simp only[zQ,and_true]at e4;obtain⟨rfl,rfl,rfl,rfl⟩:=e4;simp at hc0 hc1;clear c1 hp hF hb1 hbx hz1 HB0 Hb0 Hz0;generalize (oq.getD noQ).kind=k9 at *;generalize (oq.getD noQ).name=s9 at *
 have key:Hid (∀x:Bool,(x=true↔(0≤a∧a≤1099511627776∧E=0))→x=b):=zh (fun x hx=>by
  rw[←Hm.out];by_cases h:IsC a q
  ·rw[mM h];exact hx.2 (HI.out.1 h)
  rw[mW h]
  cases x with
  | false=>rfl
  | true=>exact absurd (HI.out.2 (hx.1 rfl)) h)
 clear HI Hm;by_cases h0:0≤a
 ·by_cases h1:a≤1099511627776
  ·by_cases hE:E=0
   ·subst hE;go_wp2;go_ret;exact⟨by rw[←key.out true (by simp[h0,h1])];rfl,Hfin.out⟩
   have hE':(E==0)=false:=by rw[zM];exact hE
   have Hn:=zh (key.out false (by simp[hE]));clear hE;go_wp2;go_ret;exact⟨by rw[←Hn.out];rfl,Hfin.out⟩
  have Hn:=zh (key.out false (by simp[h1]));have h2:1099511627776<a:=jo;go_wp2;go_ret;exact⟨by rw[←Hn.out];rfl,Hfin.out⟩
 have Hn:=zh (key.out false (by simp[h0]));have h2:a<0:=jo;go_wp2;go_ret;exact⟨by rw[←Hn.out];rfl,Hfin.out⟩
end Cu

namespace Cu
open Go.RowKit Qy
def sel(a k:Int)(ds:List Dc):List Dc:=ds.filter fun d=>decide (a<d.seq)&&decide (d.seq≤k)
def cm(a k l:Int)(ds:List Dc):List Dc:=(sel a k ds).take l.toNat
def bK(a:Int)(out:List Dc):Int:=out.foldl (fun m d=>max m d.seq) a
def bL(a k l:Int)(ds:List Dc):List Dc × Int:=
 if l<1 then([],a)else(cm a k l ds,if((cm a k l ds).length:Int)<l then max a k else bK a (cm a k l ds))
theorem tV(a:Int)(out:List Dc)(d:Dc):bK a (out ++ [d])=max (bK a out) d.seq:=by unfold bK;rw[List.foldl_append];rfl
theorem qV(a k:Int)(xs ys:List Dc):sel a k (xs++ys)=sel a k xs++sel a k ys:=List.filter_append ..
theorem xN(a k:Int)(ds:List Dc)(i:Nat)(h:i<ds.length)(h1:a<ds[i].seq)(h2:ds[i].seq≤k):sel a k (ds.take (i+1))=sel a k (ds.take i) ++ [ds[i]]:=by
 rw[zL h,qV];congr 1;simp[sel,h1,h2]
theorem yL(a k:Int)(ds:List Dc)(i:Nat)(h:i<ds.length)(h1:¬(a<ds[i].seq∧ds[i].seq≤k)):sel a k (ds.take (i+1))=sel a k (ds.take i):=by
 rw[zL h,qV]
 have:sel a k [ds[i]]=[]:=by
  unfold sel;rw[List.filter_cons_of_neg (by simpa using h1)];rfl
 rw[this,List.append_nil]
theorem xO(a k:Int)(ds:List Dc):(sel a k ds).length≤ds.length:=List.length_filter_le ..
theorem wP{a k l:Int}(ds:List Dc)(h:l<1):bL a k l ds=([],a):=by unfold bL;rw[zI h]
theorem pq{a k l:Int}{ds:List Dc}(i:Nat)(h1:¬l<1)(h:((sel a k (ds.take i)).length:Int)=l):bL a k l ds=(sel a k (ds.take i),bK a (sel a k (ds.take i))):=by
 have e:cm a k l ds=sel a k (ds.take i):=by
  unfold cm
  conv=>lhs;rw[←List.take_append_drop i ds]
  rw[qV,List.take_left' jo]
 unfold bL;rw[zH h1,e,zH jo]
theorem xP{a k l:Int}{ds:List Dc}(i:Nat)(h1:¬l<1)(hi:ds.length≤i)(h:((sel a k (ds.take i)).length:Int)<l):bL a k l ds=(sel a k (ds.take i),max a k):=by
 rw[zR hi]at h ⊢
 have e:cm a k l ds=sel a k ds:=by
  unfold cm;rw[zR jo]
 unfold bL;rw[zH h1,e,zI h]
section
variable {w wr w2:World} {v v':Value} {ds:List Dc}
theorem pu(h:DocsOwn w wr v ds){g:Nat}{t:TypeId}{cs:Array Value}(hB:Blk wr g t cs)(ht:t≠48):some g≠v.ownBlock:=by
 intro e;obtain⟨vss,h1,h2,h3⟩:=h.ex;obtain⟨_,cur,hc⟩:=uJ h2 g e.symm;exact(Blk.ne_ (g:=g) hB (show Blk wr g 48 cur from hc) ht) rfl
theorem lF(h:DocsOwn w wr v ds){g:Nat}{cs:Array Value}(hB:Blk wr g 122 cs)(hg:w.heap.size≤g)(o:Nat)(u:Value):DocsOwn w (wr.setCell ⟨g,o,none⟩ u) v ds:=by
 have hrow:=pu h hB jd;obtain⟨vss,h1,h2,h3⟩:=h.ex;have hgb:∀b,b≠g→(wr.setCell ⟨g,o,none⟩ u).heap[b]?=wr.heap[b]?:=fun b hb=>vL wr ⟨g,o,none⟩ u b hb
 refine⟨⟨vss,h1,h2.kept (lZ wr g o u) ?_,fun i a b=>?_⟩,h.bel.setCell (p:=⟨g,o,none⟩) hg _⟩
 ·cases hv:v.ownBlock with
  | none=>exact .inl rfl
  | some k=>exact .inr (fun e=>hrow (by rw[hv];exact e.symm))
 obtain⟨hd,hf⟩:=h3 i a b;obtain⟨F,fn,fc,e,hR,h4⟩:=hd
 have hne:∀b' o',F=some ⟨b',o',none⟩→0<fn→b'≠g:=fun b' o' eF hp e'=>by
  obtain⟨b2,o2,e2,hc⟩:=hf F fn fc (by rw[e];rfl) hp;rw[eF]at e2;injection e2 with e2;injection e2 with e2 _;subst e2 e';rcases hc with hc|⟨cs2,fr,hc⟩
  ·omega
  unfold Blk at hB;rw[hB]at hc;injection hc with hc;injection hc with _ hc;exact absurd hc jd
 refine⟨⟨F,fn,fc,e,⟨hR.1,fun hp=>?_⟩,h4⟩,?_⟩
 ·obtain⟨b',o',eF,hlt,hc⟩:=hR.2 hp;refine⟨b',o',eF,by simpa[World.setCell]using hlt,fun j u' hu=>?_⟩;rw[vN (w:=wr) (hgb b' (hne b' o' eF hp))];exact hc j u' hu
 intro F' fn' fc' hv hp;obtain⟨b2,o2,e2,hc⟩:=hf F' fn' fc' hv hp;refine⟨b2,o2,e2,?_⟩;rcases hc with hc|⟨cs2,fr,hc⟩
 ·exact .inl hc
 refine .inr ⟨cs2,fr,?_⟩;rw[hgb b2 (fun e'=>?_)]
 ·exact hc
 subst e';unfold Blk at hB;rw[hB]at hc;injection hc with hc;injection hc with _ hc;exact absurd hc jd
end
structure Fol (w wr:World) (a:Int) (q:ByteArray) (v:Value) (out:List Dc):Prop where
 box:Blk wr w.heap.size 122 #[.int .i64 a,.string q]
 res:Blk wr (w.heap.size+1) 122 #[.int .i64 0,.string ⟨#[]⟩]
 own:DocsOwn w wr v out
section
variable {w wr w2:World} {a b:Int} {q:ByteArray} {v v':Value} {out:List Dc}
theorem Fol.alloc(h:Fol w wr a q v out)(o:Obj):Fol w (wr.alloc o) a q v out:=⟨h.box.alloc o,h.res.alloc o,h.own.below (zRR _)⟩
theorem Fol.below(h:Fol w wr a q v out)(hb:zWW wr w2):Fol w w2 a q v out:=⟨h.box.below hb h.box.lt,h.res.below hb h.res.lt,h.own.below hb⟩
theorem Fol.drew(h:Fol w wr a q v out):Fol w wr.drew a q v out:=h.below (zw _ _).drew
theorem Fol.after(h:Fol w wr a q v out)(b:Int):Fol w (wr.setCell ⟨w.heap.size,0,none⟩ (.int .i64 b)) b q v out:=
 ⟨by have:=h.box.set_ 0 (.int .i64 b);simpa using this,h.res.far jz _,lF h.own h.box (zG _) 0 _⟩
theorem Fol.put{d:Dc}{u:List Value}{xs:List Value}(h:Fol w wr a q v out)(hx:∃vss:List (List Value),vss.length=out.length∧wr.ownsRow w.heap.size 48 3 v out.length vss.flatten∧(∀i (h:i<out.length) (h':i<vss.length),DcV wr wr.heap.size out[i] vss[i]∧Far wr w.heap.size vss[i])∧xs=vss.flatten)
  (hp:w2.ownsRow w.heap.size 48 3 v' (out.length+1) (xs++u)) (hg:wr.grownBy w2 v.ownBlock) (hd:DcV wr wr.heap.size d u) (hf:Far wr w.heap.size u):Fol w w2 a q v' (out ++ [d]):=
 ⟨h.box.grown hg (pu h.own h.box jd),h.res.grown hg (pu h.own h.res jd),h.own.put hx hp hg hd hf⟩
theorem Fol.done(h:Fol w wr a q v out):Blk ((wr.drew.setCell ⟨w.heap.size+1,0,none⟩ (.int .i64 a)).setCell ⟨w.heap.size+1,1,none⟩ (.string q)) (w.heap.size+1) 122 #[.int .i64 a,.string q] ∧
  DocsOwn w ((wr.drew.setCell ⟨w.heap.size+1,0,none⟩ (.int .i64 a)).setCell ⟨w.heap.size+1,1,none⟩ (.string q)) v out:=by
 have h1:=h.drew.res.set_ 0 (.int .i64 a);have h2:=h1.set_ 1 (.string q);refine⟨by simpa using h2,lF (lF h.drew.own h.drew.res (zZ _) 0 _) h1 (zZ _) 1 _⟩
end
def nP(w:World)(p:List Dc × Int)(q:ByteArray)(e:Ending)(w':World):Prop:=∃v,e=.returned (.tuple #[v,.agg #[.int .i64 p.2,.string q]])∧DocsOwn w w' v p.1
theorem iR{fn:Func}{p1 p2:Tmp}(hf:fn.results=#[.tmp p1,.cell p2 122]){tmps:Array Value}{W:World}{b1:Nat}{a0 a1 v:Value}(h1:tmps.getD p1 undef=v)(h2:tmps.getD p2 undef=.pointer (some ⟨b1,0,none⟩))(B1:Blk W b1 122 #[a0,a1]) :
  (results fn tmps).run prog W=.ok (.tuple #[v,.agg #[a0,a1]]) W:=by
 have l1:=zr (P:=prog) W b1 122 122 #[a0,a1] (0,0) _ B1 underlying122 rfl jk;have h1':tmps[p1]?.getD undef=v:=by simpa using h1
 have h2':tmps[p2]?.getD undef=.pointer (some ⟨b1,0,none⟩):=by simpa using h2
 simp[results,hf,h1',h2',asAddr,l1]
end Cu

namespace Cu
open Go.RowKit Qy
def mkD(g:List UInt8):Int × List Dc:=g.foldl (fun p x=>(p.1+(1+(x.toNat:Int)%3),p.2 ++ [⟨p.1+(1+(x.toNat:Int)%3),0,[]⟩])) (0,[])
theorem vE(g:List UInt8)(x:UInt8):mkD (g ++ [x])=((mkD g).1+(1+(x.toNat:Int)%3),(mkD g).2 ++ [⟨(mkD g).1+(1+(x.toNat:Int)%3),0,[]⟩]):=by
 unfold mkD;rw[List.foldl_append];rfl
end Cu

namespace Hi
open Go.RowKit
theorem dP{w:World}{B size n:Nat}{b o:Nat}{xs:List Value}(h:Reads w B size (some ⟨b,o,none⟩) n xs):∀j u,xs[j]?=some u→b<B∧w.cell? ⟨b,o+j,none⟩=some u:=by
 intro j u hu;rcases Nat.eq_zero_or_pos n with rfl|hn
 ·have h1:=h.1;rw[Nat.zero_mul]at h1;have:=List.eq_nil_of_length_eq_zero h1;subst this;simp at hu
 obtain⟨b',o',e,hb,hc⟩:=h.2 hn
 cases e;exact⟨hb,hc j u hu⟩
theorem Row.app{B:Nat}{w wr w5:World}{v v5:Value}{l X:List Bk}{m:Nat}(h:Row B w wr v l)(hB:B≤wr.heap.size)(hX:X.length=m)(ho:w5.ownsRow B 91 2 v5 (l.length+m) (bkC l++bkC X))(hg:wr.grownBy w5 v.ownBlock):Row B w w5 v5 (l++X):=by
 subst hX;refine⟨?_,h.bel.trans (oH h.own hg hB)⟩;unfold OwnB;rw[zJ,mX];exact ho
theorem Row.more{B:Nat}{w wr:World}{v:Value}{l:List Bk}(h:Row B w wr v l)(hB:B≤wr.heap.size)(o:Obj):Row B w (wr.alloc o) v l:=h.below hB (zRR _)
theorem Row.empty(w:World):Row w.heap.size w (w.alloc (.cells #[] 91)) (.slice (some ⟨w.heap.size,0,none⟩) 0 0) []:=
 ⟨World.ownsRow_lit (base:=w.heap.size) (e:=91) (size:=2) w #[] 0 jz jx rfl,zRR _⟩
end Hi

namespace Md
open Go.RowKit Ut Tk Qy Ev Qp
def KX(w:World)(ds:List Dc)(e:Ending)(w':World):Prop:=∃v,e=.returned v∧DOwn w' w.heap.size v ds∧zWW w w'
theorem um{w:World}{n0 X K:Nat}{v:Value}{m:M}(h:At w n0 X K v m)(hK:K≤60000) :
  Calls prog 22 #[.pointer (some ⟨X,0,none⟩)] w (KX w m.ds):=by
 obtain⟨i0,hi0,hz0,hz1,hz2⟩:=info_parts Ev.fR;have c1:=zh (vG h.blk);obtain⟨A8,c8,rfl,hc8,hn8,hfl⟩:=h.docs;have k7:=h.blk.cell 7;simp only[mdC,zA,zB,zC]at k7
 have HG:Hid (∀wx,zWW w wx→∀i (hi':i<m.ds.length),∃g o Fa fc,A8=some ⟨g,o,none⟩∧g<wx.heap.size∧wx.cell? ⟨g,o+i*3,none⟩=some (.int .i64 m.ds[i].seq)∧wx.cell? ⟨g,o+i*3+1,none⟩=some (.int .i64 m.ds[i].at_)∧wx.cell? ⟨g,o+i*3+2,none⟩=some (.slice Fa m.ds[i].fs.length fc) ∧
   Reads wx wx.heap.size 2 Fa m.ds[i].fs.length (aO m.ds[i].fs)∧(Fa=none→fc=0)):=zh (fun wx hb i hi'=>by
  obtain⟨g,o,Fa,fc,e,hg,q0,q1,q2,hr⟩:=hfl i hi'
  exact⟨g,o,Fa,fc,e,zT hg hb.size,(hb.cell hg).trans q0,(hb.cell hg).trans q1,(hb.cell hg).trans q2,(hr.rd.below hb).more hb.size,hr.nl⟩)
 have hfew:m.ds.length≤65536:=zY h.few jo;have OK:=zh (ql h.ok);obtain⟨mc,ds,mf,mn,ma⟩:=m;simp only at *;clear h hfl;go_enter func22,ntmps22;go_wp2_with fail;refine c1.out.mono ?_;rintro e w' ⟨rfl,rfl⟩;go_wp2_with fail;go_loopw [3,13] (fun v i wr=>∃k:Nat,k≤ds.length∧i=.int .i64 (k:Nat)∧Hid (DOwn wr w.heap.size v (ds.take k))∧Hid (zWW w wr)) (fun _ i _=>ds.length-(intOf i).toNat)
 case atStart=>exact⟨0,zS _,rfl,zh (DOwn.start _ _),zh (zw _ _)⟩
 obtain⟨k,hk,rfl,hO,hB⟩:=hrel;by_cases hlt:k<ds.length
 ·have hkz:(k:Int)<(ds.length:Int):=jo;have hk0:(0:Int)≤(k:Int):=jo;obtain⟨g,go,Fa,fc,rfl,hg,q0,q1,q2,hr,hnl⟩:=HG.out wr hB.out k hlt;have htk:ds.take (k+1)=ds.take k ++ [ds[k]]:=zL hlt;have hlnk:(ds.take k).length=k:=jw;have hdk:=OK.out _ (za hlt);have hf16:=(gP hdk).1;have HTK:=zh htk;have HLK:=zh hlnk;clear htk hlnk;generalize ds[k]=d at *;have hBx:zWW wr (wr.alloc (.cells #[.int .i64 d.seq,.int .i64 d.at_,.slice Fa d.fs.length fc] 48)):=zRR _;have hbx:=Blk.new wr 48 #[.int .i64 d.seq,.int .i64 d.at_,.slice Fa d.fs.length fc];have b0:=hbx.cell 0;have b1:=hbx.cell 1;have b2:=hbx.cell 2;simp only[zA,zB,zC]at b0 b1 b2;have C2:=zh (tH d Fa d.fs.length fc _ ((hr.below hBx).more hBx.size) rfl jo hnl);have HBX:=zh hBx;have hw:=hB.out.size;clear hr hnl hbx hBx;go_wp2_with fail;refine C2.out.mono ?_;rintro e w3 ⟨A3,q3,rfl,hnq3,hnl3,hown3,hb3⟩;have hbW:zWW wr w3:=HBX.out.trans (hb3.mono HBX.out.size);have hbS:zWW wr (w3.alloc (.cells #[.int .i64 d.seq,.int .i64 d.at_,.slice A3 d.fs.length q3] 48)):=hbW.alloc hbW.size _;have hO6:=hO.out.below hbS;obtain⟨vss,g1,g2,g3⟩:=hO6.ex;have hown6:=hown3.alloc (.cells #[.int .i64 d.seq,.int .i64 d.at_,.slice A3 d.fs.length q3] 48)
  have hd6:DcS (w3.alloc (.cells #[.int .i64 d.seq,.int .i64 d.at_,.slice A3 d.fs.length q3] 48)) (Go.Proofs.YtmomjpolkkbhnaaGreat.Ev.Fd _ w.heap.size) d [.int .i64 d.seq,.int .i64 d.at_,.slice A3 d.fs.length q3]:=
   ⟨A3,_,q3,rfl,(ReadsS.of_own hown6).mono (fun b hb=>⟨by have:=hb.1;have:=HBX.out.size;omega,aY hown6 hb.2.2⟩),rfl,jo,hnq3,hnl3⟩
  have Put:Hid (∀v' w5,w5.ownsRow w.heap.size 48 3 v' (k+1) (vss.flatten ++ [.int .i64 d.seq,.int .i64 d.at_,.slice A3 d.fs.length q3])→_→DOwn w5 w.heap.size v' (ds.take (k+1))):=zh (fun v' w5 p1 p2=>by
   rw[HTK.out]
   exact DOwn.put ⟨vss,g1,g2,g3,rfl⟩ (by rw[HLK.out];exact p1) p2 hd6)
  rw[HLK.out]at g2;have G2:=zh g2;have hzs:=hbS.size;have HBS:=zh hbS;clear hown6 hbS hO6 g1 g2 g3 hd6 hown3 hnq3 hnl3 hbW q0 q1 q2 b0 b1 b2;go_wp2_with (at_builtin;refine vH _ rfl _ _ 26 rfl w.heap.size 48 i0 _ 3 40 underlying26 hi0 hz0 hz1 hz2 rfl jd _ _ _ rfl G2.out ⟨w3.heap.size,0,none⟩ 1 1 [.int .i64 d.seq,.int .i64 d.at_,.slice A3 d.fs.length q3] rfl rfl ?d1 ?d2 ?d3 ?d4 ?d5 ?_)
  case d1=>exact zy (cs:=#[.int .i64 d.seq,.int .i64 d.at_,.slice A3 d.fs.length q3]) (t:=48) (fr:=(0,0)) (vI w3 (.cells #[.int .i64 d.seq,.int .i64 d.at_,.slice A3 d.fs.length q3] 48))
  case d2=>simp[Value.oneCell']
  case d3=>unfold maxLen;omega
  case d4=>omega
  case d5=>first|omega|(simp;omega)
  intro v' w5 hown5 hg5 _;have Fin:=zh (Put.out v' w5 hown5 hg5);have hbF:Hid (zWW w w5):=zh ((hB.out.trans (HBS.out.mono hB.out.size)).grown hg5 jo (fun j hj=>(G2.out.lt j hj).1));clear hown5 hg5;go_wp2;go_roundw
  case rel=>exact⟨k+1,jo,ju,Fin,hbF⟩
  simp[intOf];omega
 obtain rfl:k=ds.length:=jo;rw[List.take_length]at hO;go_wp2;go_ret;exact⟨_,rfl,hO.out,hB.out⟩
end Md
end Go.Proofs.YtmomjpolkkbhnaaGreat
