/- Docs by times, then by numbers: the closure, the sort (printed by gen_mdc.py). -/
import Derived.Sort.Grow
import Derived.Shelf.SlSortCmp.HeapSortK
import Derived.Laws.Tables
import Derived.Test.YtmomjpolkkbhnaaGreatQModelRunsRow13
import Derived.Test.YtmomjpolkkbhnaaGreatQModelRunsRow17
set_option linter.unusedSimpArgs false
set_option linter.unusedVariables false
set_option maxRecDepth 20000
set_option maxHeartbeats 100000000
open Go.Proofs.Tryz
namespace Go.Proofs.YtmomjpolkkbhnaaGreat
namespace Md
open Go.RowKit Ut Tk Qy Qp Ev Ss Go.Sort Go.Shelf Go.Lib
def Grw(w w':World):Prop:=∃q os,w'=grow (w.drewN q) os
theorem Grw.refl(w:World):Grw w w:=⟨0,#[],by rw[grow_empty];rfl⟩
theorem Grw.trans{a b c:World}(h1:Grw a b)(h2:Grw b c):Grw a c:=by
 obtain⟨q,e,rfl⟩:=h1;obtain⟨f,d,rfl⟩:=h2;refine⟨q+f,e++d,?_⟩;rw[show ((grow (a.drewN q) e).drewN f)=grow ((a.drewN q).drewN f) e from rfl,grow_grow,World.drewN_drewN]
theorem Grw.alloc{a b:World}(h:Grw a b)(o:Obj):Grw a (b.alloc o):=h.trans ⟨0,#[o],by rw[alloc_eq_grow];rfl⟩
theorem Grw.drew{a b:World}(h:Grw a b):Grw a b.drew:=h.trans ⟨1,#[],by rw[grow_empty];rfl⟩
def cOr(a b:Int):Int:=if a=0 then b else a
theorem xW(x y:Int)(w:World):Calls prog 105 #[.int .i64 x,.int .i64 y] w fun e w'=>e=.returned (.int .i64 (Lib.compareInt x y))∧w'=w:=Tryz.cmp_Compare_int x y w
theorem Ml(A:Option Addr)(c:Nat)(a b:Int)(w:World)(hR:Reads w w.heap.size 1 A 2 [.int .i64 a,.int .i64 b]) :
  Calls prog 104 #[.slice A 2 c] w fun e w'=>e=.returned (.int .i64 (cOr a b))∧Grw w w':=by
 obtain⟨v,o,rfl,p,j⟩:=hR.2 jd;have q:=j 0 _ rfl;have n:=j 1 _ rfl;simp at q n;have Fin:Hid (cOr a b=if a=0 then b else a):=rfl;clear hR j;generalize cOr a b=r at *;go_enter func104,ntmps104;go_wp2_with fail;go_loopw [8] (fun i wr=>∃k:Nat,k≤2∧i=.int .i64 (k:Nat)∧wr=w∧Hid (1≤k→a=0)∧Hid (2≤k→b=0)) (fun i _=>2-(intOf i).toNat)
 case atStart=>exact⟨0,jo,rfl,rfl,zh (fun h=>absurd h jo),zh (fun h=>absurd h jo)⟩
 obtain⟨k,t,rfl,rfl,f,g⟩:=hrel;have m:k=0∨k=1∨k=2:=jo;rcases m with rfl|rfl|rfl
 ·by_cases e:a=0
  ·have u:=zh e;subst e;clear f g;go_wp2;go_roundw
   case rel=>exact⟨1,jo,ju,by trivial,zh (fun _=>by trivial),zh (fun h=>absurd h jo)⟩
   simp[intOf]
  have s:(a != 0)=true:=by simpa using e
  have Fin2:Hid (r=a):=zh (by rw[Fin.out,zH e]);clear f g Fin e;go_wp2;go_ret;exact⟨by rw[Fin2.out];rfl,Grw.refl _⟩
 ·have d:=f.out jo;by_cases e:b=0
  ·subst e;have l:=zh d;clear f g d;go_wp2;go_roundw
   case rel=>exact⟨2,jo,ju,by trivial,zh (fun _=>l.out),zh (fun _=>by trivial)⟩
   simp[intOf]
  have s:(b != 0)=true:=by simpa using e
  have Fin2:Hid (r=b):=zh (by rw[Fin.out,zI d]);clear f g Fin e d;go_wp2;go_ret;exact⟨by rw[Fin2.out];rfl,Grw.refl _⟩
 have Fin2:Hid (r=0):=zh (by rw[Fin.out,zI (f.out jo),g.out jo]);clear f g Fin;go_wp2;go_ret;exact⟨by rw[Fin2.out];rfl,Grw.refl _⟩
theorem Grw.size{W w:World}(h:Grw W w):W.heap.size≤w.heap.size:=by obtain⟨q,a,rfl⟩:=h;simp[grow]
theorem Grw.heap{W w:World}(h:Grw W w){b:Nat}(hb:b<W.heap.size):w.heap[b]?=W.heap[b]?:=by
 obtain⟨q,a,rfl⟩:=h;show (W.heap++a)[b]?=W.heap[b]?;rw[Array.getElem?_append_left hb]
theorem Grw.cell{W w:World}(h:Grw W w){p:Addr}(hb:p.block<W.heap.size):w.cell? p=W.cell? p:=by
 unfold World.cell?;rw[h.heap hb]
theorem Grw.blk{W w:World}(h:Grw W w){g:Nat}{t:TypeId}{cs:Array Value}(hB:Blk W g t cs):Blk w g t cs:=by
 have:=h.heap hB.lt;unfold Blk at *;rw[this];exact hB
theorem uD{P:Program}{W w:World}{f:FuncId}{args:Array Value}{c:Value}(hC:Grw W w)(h:Calls P f args w fun e w'=>e=.returned c∧Grw w w') :
  Calls P f args w fun e w'=>∃v,e=.returned v∧Grw w w'∧Grw W w'∧∃x:Unit,v=(fun _=>c) x∧True:=
 h.mono fun e w' h=>⟨c,h.1,h.2,hC.trans h.2,(),rfl,trivial⟩
structure El where
 d:Dc
 F:Option Addr
 n:Nat
 c:Nat
instance:Inhabited El:=⟨⟨⟨0,0,[]⟩,none,0,0⟩⟩
def kZ(x:El):List Value:=[.int .i64 x.d.seq,.int .i64 x.d.at_,.slice x.F x.n x.c]
def cfD(x y:Dc):Int:=cOr (Lib.compareInt x.at_ y.at_) (Lib.compareInt x.seq y.seq)
def cfE(x y:El):Int:=cfD x.d y.d
def ltD(x y:Dc):Prop:=x.at_<y.at_∨(x.at_=y.at_∧x.seq<y.seq)
instance (x y:Dc):Decidable (ltD x y):=by unfold ltD;infer_instance
theorem rV(x y:Dc):cfD x y<0↔ltD x y:=by
 unfold cfD cOr ltD Lib.compareInt;by_cases c:x.at_<y.at_
 ·simp[c]
 by_cases d:y.at_<x.at_
 ·have:x.at_≠y.at_:=jo;simp[c,d,this]
 have e:x.at_=y.at_:=jo;by_cases a:x.seq<y.seq
 ·simp[e,a]
 by_cases b:y.seq<x.seq
 ·simp[e,a,b]
 simp[e,a,b]
theorem wL(x y:El):ltOf cfE x y=decide (ltD x.d y.d):=by
 unfold ltOf cfE;by_cases h:ltD x.d y.d
 ·rw[zO h];exact zO ((rV _ _).2 h)
 rw[zN h];exact zN (fun a=>h ((rV _ _).1 a))
theorem Nz:SWO (ltOf cfE) where
 irrefl x:=by rw[wL];exact zN (by unfold ltD;omega)
 trans x y z a b:=by
  rw[wL]at *;have a:=of_decide_eq_true a;have b:=of_decide_eq_true b;exact zO (by unfold ltD at *;omega)
 ntrans x y z a b:=by
  rw[wL]at *;have a:=of_decide_eq_false a;have b:=of_decide_eq_false b;exact zN (by unfold ltD at *;omega)
theorem Gn(x y:El)(w:World) :
  Calls prog 103 #[.agg (kZ x).toArray,.agg (kZ y).toArray] w fun e w'=>e=.returned (.int .i64 (cfE x y))∧Grw w w':=by
 obtain⟨⟨s,l,M⟩,F,n,c⟩:=x;obtain⟨⟨t,o,L⟩,G,m,d⟩:=y;simp only[kZ,cfE,cfD];have z:Grw w ((w.alloc (.cells #[.int .i64 s,.int .i64 l,.slice F n c] 48)).alloc (.cells #[.int .i64 t,.int .i64 o,.slice G m d] 48)):=((Grw.refl w).alloc _).alloc _;have r:=(Blk.new w 48 #[.int .i64 s,.int .i64 l,.slice F n c]).alloc (.cells #[.int .i64 t,.int .i64 o,.slice G m d] 48);have p:=Blk.new (w.alloc (.cells #[.int .i64 s,.int .i64 l,.slice F n c] 48)) 48 #[.int .i64 t,.int .i64 o,.slice G m d];have C:(w.alloc (.cells #[.int .i64 s,.int .i64 l,.slice F n c] 48)).heap.size=w.heap.size+1:=jz;rw[C]at p
 have i:∀a,Grw ((w.alloc (.cells #[.int .i64 s,.int .i64 l,.slice F n c] 48)).alloc (.cells #[.int .i64 t,.int .i64 o,.slice G m d] 48)) a→a.cell? ⟨w.heap.size,0,none⟩=some (.int .i64 s)∧a.cell? ⟨w.heap.size,1,none⟩=some (.int .i64 l)∧a.cell? ⟨w.heap.size+1,0,none⟩=some (.int .i64 t)∧a.cell? ⟨w.heap.size+1,1,none⟩=some (.int .i64 o):=fun a b=>
  ⟨(b.blk r).cell 0,(b.blk r).cell 1,(b.blk p).cell 0,(b.blk p).cell 1⟩
 have Hcells:=zh i;have I:=zh z;clear z r p C i;go_enter func103,ntmps103
 go_upto_region 1 with(fail);generalize B:((w.alloc (.cells #[.int .i64 s,.int .i64 l,.slice F n c] 48)).alloc (.cells #[.int .i64 t,.int .i64 o,.slice G m d] 48))=D at *;clear B;refine iF (fF [(6,⟨Unit,fun _=>(.int .i64 (Lib.compareInt l o)),fun _ _=>True⟩),(11,⟨Unit,fun _=>(.int .i64 (Lib.compareInt s t)),fun _ _=>True⟩),(12,⟨Nat,fun x=>.slice (some ⟨x,0,none⟩) 2 2,fun g a=>Blk a g 3 #[.int .i64 (Lib.compareInt l o),.int .i64 (Lib.compareInt s t)]⟩),(13,⟨Unit,fun _=>(.int .i64 (cOr (Lib.compareInt l o) (Lib.compareInt s t))),fun _ _=>True⟩)]) (fun a=>Grw D a) Grw jk jk (fN (fun _ _ _ _ h=>h) (fN (fun _ _ _ _ h=>h) (fN (fun x N D z h=>z.blk h) (fN (fun _ _ _ _ h=>h) (fQ))))) (Grw.refl _).drew ?_
 iterate 6
  refine fG _ ?_ rfl jr jr (fun a b q=>?_) ?_;rotate_left
  ·have k:=Hcells.out a b;go_simp;all_goals with_reducible rfl
  try simp only[Act.put,zD,zE,zF]
 refine fo 7 _ rfl jr jr (fun a b q=>?_) (fun x=>?_)
 ·refine fZ (f:=?_) (args:=?_) ?_ ?_;rotate_left 2
  ·have k:=Hcells.out a b;go_simp;all_goals first|with_reducible rfl|(refine⟨?_,?_⟩<;>with_reducible rfl)
  exact uD b ((xW _ _ a).mono (fun e w' h=>⟨h.1,h.2 ▸ Grw.refl _⟩))
 obtain⟨⟩:=x;try simp only[Act.put,zD,zE,zF]
 iterate 4
  refine fG _ ?_ rfl jr jr (fun a b q=>?_) ?_;rotate_left
  ·have k:=Hcells.out a b;go_simp;all_goals with_reducible rfl
  try simp only[Act.put,zD,zE,zF]
 refine fo 12 _ rfl jr jr (fun a b q=>?_) (fun x=>?_)
 ·refine fZ (f:=?_) (args:=?_) ?_ ?_;rotate_left 2
  ·have k:=Hcells.out a b;go_simp;all_goals first|with_reducible rfl|(refine⟨?_,?_⟩<;>with_reducible rfl)
  exact uD b ((xW _ _ a).mono (fun e w' h=>⟨h.1,h.2 ▸ Grw.refl _⟩))
 obtain⟨⟩:=x;try simp only[Act.put,zD,zE,zF]
 refine fo 13 _ rfl jr jr (fun a b q=>?_) (fun x=>?_)
 ·refine kr (u:=?_) (w':=?_) ?_ ?_ ?_;rotate_left 2
  ·have k:=Hcells.out a b;go_simp;all_goals first|with_reducible rfl|(refine⟨?_,?_⟩<;>with_reducible rfl)
  ·exact(Grw.refl _).alloc _
  exact⟨b.alloc _,a.heap.size,rfl,Blk.new _ _ _⟩
 rename Nat=>x9
 try simp only[Act.put,zD,zE,zF]
 refine fo 14 _ rfl jr jr (fun a b q=>?_) (fun x=>?_)
 ·refine fZ (f:=?_) (args:=?_) ?_ ?_;rotate_left 2
  ·have k:=Hcells.out a b;go_simp;all_goals first|with_reducible rfl|(refine⟨?_,?_⟩<;>with_reducible rfl)
  have v:=gZ (kM q 12 jk) jd;exact uD b (Ml _ _ _ _ a ⟨jz,fun _=>⟨_,_,rfl,v.lt,fun j u E=>by rw[zi,v.cell j];simpa using E⟩⟩)
 obtain⟨⟩:=x;try simp only[Act.put,zD,zE,zF]
 refine fG 15 ?_ rfl jr jr (fun a b q=>?_) ?_;rotate_left
 ·have k:=Hcells.out a b;go_simp;all_goals with_reducible rfl
 try simp only[Act.put,zD,zE,zF]
 refine fW (fun J b H=>?_);have A:=I.out.trans b;clear H b;go_wp2;go_ret;exact⟨rfl,A⟩
theorem JM(blk off size:Nat)(w:World):CmpLays prog 103 #[] kZ 3 cfE blk off size w:=fun m a b c x y=>Gn x y _
theorem FU{l:List El}{d':Array El}(h:PermIn 0 l.length l.toArray d'):d'.toList.Perm l:=by
 obtain⟨c,_,a⟩:=h;have e:d'.size=l.length:=by simpa using c
 have b:d'.extract 0 l.length=d':=by rw[←e];simp
 have d:l.toArray.extract 0 l.length=l.toArray:=by
  have:l.length=l.toArray.size:=jz;rw[this,Array.extract_size]
 rw[b,d]at a;exact a
theorem FV{l:List El}{d':Array El}(hP:PermIn 0 l.length l.toArray d')(hs:Srt cfE (fun x=>x.d.seq.toNat) d' 0 l.length)(h0:∀x∈l,0≤x.d.seq)(hn:l.Pairwise (fun x y=>x.d.seq<y.d.seq)) :
  d'.toList.Perm l∧d'.toList.Pairwise (fun x y=>ltD x.d y.d):=by
 have c:=FU hP;refine⟨c,?_⟩;have q:d'.size=l.length:=by have:=hP.1;simpa using this
 have b:d'.toList.Pairwise (fun x y=>x.d.seq≠y.d.seq):=(c.pairwise_iff (fun h=>Ne.symm h)).2 (hn.imp (fun h=>jo));rw[List.pairwise_iff_getElem]at b ⊢;intro i j f g a;have n:i<d'.size:=by simpa using f
 have m:j<d'.size:=by simpa using g
 have e:=hs i j (zS _) a jo;rw[getElem!_pos d' i n,getElem!_pos d' j m]at e;have k:=b i j f g a;simp only[Array.getElem_toList]at k ⊢;have t:=h0 d'[i] (c.mem_iff.1 jz);have r:=h0 d'[j] (c.mem_iff.1 jz);rcases e with h|⟨h,s⟩
 ·exact(rV _ _).1 h
 have p:¬ltD d'[j].d d'[i].d:=fun o=>h ((rV _ _).2 o)
 unfold ltD at p ⊢;omega
theorem Gp(base g cap:Nat)(l:List El)(cur:Array Value)(w:World)(hb:w.heap[g]?=some (.cells cur 48 (0,0)))(ht:cur.toList.take (l.length*3)=l.flatMap kZ)(hl:l.length≤1048576)
  (hg:base≤g) (h1:l.length≤cap) (h2:cap≤maxLen) (h3:cur.size=cap*3) (h0:∀x∈l,0≤x.d.seq) (hp:l.Pairwise (fun x y=>x.d.seq<y.d.seq)) :
  Calls prog 102 #[.slice (some ⟨g,0,none⟩) l.length cap,.func (.func 103) #[] #[]] w fun e w'=>
   e=.returned (.tuple #[])∧∃m:List El,m.Perm l∧m.Pairwise (fun x y=>ltD x.d y.d)∧w'.ownsRow base 48 3 (.slice (some ⟨g,0,none⟩) l.length cap) l.length (m.flatMap kZ)∧w.grownBy w' (some g):=by
 have r:=Mj (enc:=kZ) (k:=3) (fun _=>rfl) jd hb ht;have a:l.toArray.size=l.length:=jz;have b:g<w.heap.size:=(Array.getElem?_eq_some_iff.1 hb).1
 have c:=D9 (enc:=kZ) (cf:=cfE) (tag:=fun x=>x.d.seq.toNat) Nz 3 rfl 103 #[] g 0 cap l.toArray w (enters_of func103 jk rfl) (JM g 0 _ w)
  ⟨fun _=>rfl,fun x v j=>by simp[kZ]at j;rcases j with rfl|rfl|rfl<;>rfl,r,b⟩ (SWK.start r) (by rw[a];omega) (fun x y i s=>by
   rw[a]at s;rw[getElem!_pos _ x jm,getElem!_pos _ y jm];have h:=List.pairwise_iff_getElem.1 hp x y jo s i;have o:=h0 _ (za (by omega:x<l.length));simp only[List.getElem_toArray]
   omega)
 rw[a]at c;refine c.mono ?_;rintro e w' ⟨rfl,f,⟨n,os,rfl⟩,z,u,t⟩;obtain⟨h,o⟩:=FV u t h0 hp;have p:f.toList.length=l.length:=h.length_eq;have q:=Ny (enc:=kZ) (k:=3) (fun _=>rfl) jd (base:=base) (n:=n) (os:=os) (l:=l) (m:=f.toList) p hg hb h1 h2 h3;rw[p]at q;exact⟨rfl,f.toList,h,o,by simpa using q,Mk _⟩
theorem ED(w:World)(fv:Value):Calls prog 153 #[.slice none 0 0,.int .i64 0,.int .i64 0,fv] w fun e w'=>e=.returned (.tuple #[])∧w=w':=by
 go_enter func153,ntmps153;go_wp2
 go_loop [8] (fun i=>i=.int .i64 1) (fun _=>0)
 case atStart=>rfl
 subst hrel;go_wp2
 go_end0
 exact⟨rfl,rfl⟩
theorem FW(w:World)(fv:Value):Calls prog 129 #[.slice none 0 0,.int .i64 0,fv] w fun e w'=>e=.returned (.tuple #[])∧w=w':=by
 go_enter func129,ntmps129;go_wp2
 go_loop [7,8] (fun a b=>a=.int .i64 0∧b=.int .i64 20) (fun _ _=>0)
 case atStart=>exact⟨rfl,rfl⟩
 obtain⟨rfl,rfl⟩:=hrel;go_wp2_with fail;refine(ED _ _).mono ?_;rintro e w' ⟨rfl,rfl⟩;go_wp2
 go_loop [6] (fun b=>b=.int .i64 20) (fun _=>0)
 case atStart=>rfl
 subst hrel;go_wp2
 go_end0
 exact⟨rfl,rfl⟩
theorem Gq(w:World)(fv:Value):Calls prog 102 #[.slice none 0 0,fv] w fun e w'=>e=.returned (.tuple #[])∧w=w':=by
 go_enter func102,ntmps102;go_wp2_with fail;refine(FW _ _).mono ?_;rintro e w' ⟨rfl,rfl⟩;go_wp2
 go_end0
 exact⟨rfl,rfl⟩
end Md

namespace Md
open Go.RowKit Ut Tk Qy Qp Ev
theorem De{w:World}{F:Option Addr}{fn fc:Nat}{fs:List Fl}(h:FlAt w w.heap.size F fn fc fs)(hck:fM fs=0):EvAt w F fn fs:=⟨h.rd,h.len,h.few,fun f a=>by have:=((mQ hck).2 f a).2.2;omega⟩
structure QBl (w:World) (g:Nat) (q:Q):Prop where
 ex:∃A n c B m d,Blk w g 60 #[.int .i64 q.kind,.string q.name,.slice A n c,.slice B m d]∧QAt w w.heap.size q [.int .i64 q.kind,.string q.name,.slice A n c,.slice B m d]
theorem QBl.below{w w':World}{g:Nat}{q:Q}(h:QBl w g q)(hb:zWW w w'):QBl w' g q:=by
 obtain⟨A,n,c,B,m,d,a,b⟩:=h.ex;exact⟨A,n,c,B,m,d,a.below hb a.lt,b.grow hb⟩
theorem Gv(d:Dc)(hck:fM d.fs=0)(q:Q)(hq:QSz q)(Fa:Option Addr)(fc g:Nat)(w:World)(hQ:QBl w g q)(hF:FlAt w w.heap.size Fa d.fs.length fc d.fs) :
  Calls prog 73 (#[.agg #[.int .i64 d.seq,.int .i64 d.at_,.slice Fa d.fs.length fc]] ++ #[.pointer (some ⟨g,0,none⟩)]) w fun e w'=>e=.returned (.bool (fC d.fs q))∧zWW w w':=by
 obtain⟨A,n,c,B,m,e,i,u⟩:=hQ.ex;have b:zWW w (w.alloc (.cells #[.int .i64 d.seq,.int .i64 d.at_,.slice Fa d.fs.length fc] 48)):=zRR _;have l:=zh (AR d.fs q hq (w.alloc (.cells #[.int .i64 d.seq,.int .i64 d.at_,.slice Fa d.fs.length fc] 48)) _ _ _ _ d.at_ Fa d.fs.length fc (u.grow b) (De (flg hF b) hck));have a:=i.below b i.lt;have t:=a.cell 0;have k:=a.cell 1;have o:=a.cell 2;have s:=a.cell 3;have h:=Blk.new w 48 #[.int .i64 d.seq,.int .i64 d.at_,.slice Fa d.fs.length fc];have p:=h.cell 1;have r:=h.cell 2;simp only[zA,zB,zC]at t k o s p r;have v:=zh b;clear hQ i u b hF a h;generalize q.kind=z at *;generalize q.name=x at *;generalize fC d.fs q=C at *;show Calls prog 73 #[.agg #[.int .i64 d.seq,.int .i64 d.at_,.slice Fa d.fs.length fc],.pointer (some ⟨g,0,none⟩)] w _;go_enter func73,ntmps73;go_wp2_with fail;refine l.out.mono ?_;rintro e y ⟨rfl,f⟩;have j:=zt v f;clear f l t k o s p r;go_wp2;go_ret;exact⟨rfl,j.out⟩
theorem Fc(d:Dc)(Fa:Option Addr)(fc:Nat)(w:World) :
  Calls prog 75 (#[.agg #[.int .i64 d.seq,.int .i64 d.at_,.slice Fa d.fs.length fc]] ++ #[]) w fun e w'=>e=.returned (.bool true)∧zWW w w':=by
 have a:Hid (zWW w (w.alloc (.cells #[.int .i64 d.seq,.int .i64 d.at_,.slice Fa d.fs.length fc] 48))):=zh (zRR _);show Calls prog 75 #[.agg #[.int .i64 d.seq,.int .i64 d.at_,.slice Fa d.fs.length fc]] w _;go_enter func75,ntmps75;go_wp2;go_ret;exact⟨rfl,a.out⟩
def inB(a b:Int)(q:Q)(d:Dc):Bool:=decide (a≤d.at_)&&decide (d.at_≤b)&&fC d.fs q
theorem Gw(d:Dc)(hck:fM d.fs=0)(q:Q)(hq:QSz q)(Fa:Option Addr)(fc g1 g2 g:Nat)(a b:Int)(w:World)(hQ:QBl w g q)(hF:FlAt w w.heap.size Fa d.fs.length fc d.fs)
  (hA:Blk w g1 3 #[.int .i64 a]) (hB:Blk w g2 3 #[.int .i64 b]) :
  Calls prog 101 (#[.agg #[.int .i64 d.seq,.int .i64 d.at_,.slice Fa d.fs.length fc]] ++ #[.pointer (some ⟨g1,0,none⟩),.pointer (some ⟨g2,0,none⟩),.pointer (some ⟨g,0,none⟩)]) w fun e w'=>e=.returned (.bool (inB a b q d))∧zWW w w':=by
 obtain⟨A,n,c,B,m,e,t,H⟩:=hQ.ex;have h:zWW w (w.alloc (.cells #[.int .i64 d.seq,.int .i64 d.at_,.slice Fa d.fs.length fc] 48)):=zRR _;have k:=zh (AR d.fs q hq (w.alloc (.cells #[.int .i64 d.seq,.int .i64 d.at_,.slice Fa d.fs.length fc] 48)) _ _ _ _ d.at_ Fa d.fs.length fc (H.grow h) (De (flg hF h) hck));have f:=t.below h t.lt;have F:=f.cell 0;have v:=f.cell 1;have y:=f.cell 2;have D:=f.cell 3;have l:=Blk.new w 48 #[.int .i64 d.seq,.int .i64 d.at_,.slice Fa d.fs.length fc];have z:=l.cell 1;have C:=l.cell 2;have G:=(hA.below h hA.lt).cell 0;have x:=(hB.below h hB.lt).cell 0;simp only[zA,zB,zC]at F v y D z C G x;have o:=zh h;have i:inB a b q d=(decide (a≤d.at_)&&decide (d.at_≤b)&&fC d.fs q):=rfl;rw[i];clear hQ t H h hF f l hA hB i;generalize q.kind=M at *;generalize q.name=J at *;generalize fC d.fs q=N at *;obtain⟨s,p,I⟩:=d;simp only at *;show Calls prog 101 #[.agg #[.int .i64 s,.int .i64 p,.slice Fa I.length fc],.pointer (some ⟨g1,0,none⟩),.pointer (some ⟨g2,0,none⟩),.pointer (some ⟨g,0,none⟩)] w _;by_cases r:a≤p
 ·by_cases E:p≤b
  ·rw[zO r,zO E];go_enter func101,ntmps101;go_wp2_with fail;refine k.out.mono ?_;rintro e L ⟨rfl,j⟩;have u:=zt o j;clear j k F v y D z C G x;go_wp2;go_ret;exact⟨rfl,u.out⟩
  rw[zO r,zN E];clear k;go_enter func101,ntmps101;go_wp2;go_ret;exact⟨rfl,o.out⟩
 rw[zN r];clear k;go_enter func101,ntmps101;go_wp2;go_ret;exact⟨rfl,o.out⟩
structure ByT (l m:List Dc):Prop where
 perm:m.Perm l
 up:m.Pairwise ltD
def sG(w:World)(L:List Dc)(e:Ending)(w':World):Prop:=∃v D,e=.returned v∧DOwn w' w.heap.size v D∧ByT L D∧zWW w w'
end Md

namespace Md
open Go.RowKit Ut Tk Qy Qp Ev
def FldOf(w:World)(S:Nat→Prop)(x:El):Prop:=ReadsS w S 2 x.F x.n (fJ x.d.fs)∧x.d.fs.length=x.n∧x.n≤8796093021952∧x.n≤x.c∧(x.F=none→x.c=0)
theorem FldOf.dc{w:World}{S:Nat→Prop}{x:El}(h:FldOf w S x):DcS w S x.d (kZ x):=⟨x.F,x.n,x.c,rfl,h.1,h.2.1,h.2.2.1,h.2.2.2.1,h.2.2.2.2⟩
theorem Cs{w:World}{S:Nat→Prop}:∀(ds:List Dc) (vss:List (List Value)),vss.length=ds.length→(∀i (h:i<ds.length) (h':i<vss.length),DcS w S ds[i] vss[i])→∃l:List El,l.map El.d=ds∧l.map kZ=vss∧∀x∈l,FldOf w S x
 | [],[],_,_=>⟨[],rfl,rfl,fun x hx=>(nomatch hx)⟩
 | d::ds,v::vss,hl,h=>by
  obtain⟨l,j,f,c⟩:=Cs ds vss (by simpa using hl) (fun i a b=>h (i+1) (Nat.succ_lt_succ a) (Nat.succ_lt_succ b));obtain⟨F,m,k,e,g⟩:=(h 0 jz jz).ex;simp only[List.getElem_cons_zero]at e g;refine⟨⟨d,F,m,k⟩::l,by simp[j],by rw[List.map_cons,f,e];rfl,fun x hx=>?_⟩;rcases List.mem_cons.1 hx with rfl|hx
  ·exact g
  exact c x hx
theorem K6{w:World}{base:Nat}{v:Value}{l:List El}(h:w.ownsRow base 48 3 v l.length (l.flatMap kZ))(hf:∀x∈l,FldOf w (Go.Proofs.YtmomjpolkkbhnaaGreat.Ev.Fd w base) x):DOwn w base v (l.map El.d):=by
 refine⟨l.map kZ,jz,by rw[List.length_map,←List.flatMap_def];exact h,fun i a b=>?_⟩;rw[List.getElem_map,List.getElem_map];exact(hf _ (za _)).dc
theorem FldOf.grown{w w':World}{base g:Nat}{x:El}(h:FldOf w (Go.Proofs.YtmomjpolkkbhnaaGreat.Ev.Fd w base) x)(hg:w.grownBy w' (some g))(ht:Tg w 48 g):FldOf w' (Go.Proofs.YtmomjpolkkbhnaaGreat.Ev.Fd w' base) x:=
 ⟨h.1.same (fun b a=>by
  have e:w'.heap[b]?=w.heap[b]?:=hg.block b a.2.lt (fun e=>by
   injection e with e;subst e
   exact absurd (ht.one a.2) jd)
  exact⟨⟨a.1,a.2.same e⟩,e⟩),h.2⟩
theorem K7{w:World}{base:Nat}{v:Value}{ds:List Dc}(h:DOwn w base v ds)(hl:ds.length≤1048576)(h0:∀d∈ds,0≤d.seq)(hp:ds.Pairwise (fun x y=>x.seq<y.seq)) :
  Calls prog 102 #[v,.func (.func 103) #[] #[]] w fun e w'=>e=.returned (.tuple #[])∧∃D,ByT ds D∧DOwn w' base v D∧w.grownBy w' v.ownBlock:=by
 obtain⟨p,F,s,H⟩:=h.ex;obtain⟨l,rfl,rfl,I⟩:=Cs ds p F H;rw[List.length_map]at s hl;rw[←List.flatMap_def]at s;have r:l.Pairwise (fun x y=>x.d.seq<y.d.seq):=(List.pairwise_map (f:=El.d)).1 hp;have o:∀x∈l,0≤x.d.seq:=fun x c=>h0 _ (List.mem_map.2 ⟨x,c,rfl⟩)
 rcases s.2 with⟨q,E⟩|⟨g,i,b,q,J,A,k,u,n,B⟩
 ·have t:l=[]:=List.length_eq_zero_iff.1 E;subst t q;refine(Gq w _).mono ?_;rintro e w' ⟨rfl,rfl⟩;exact⟨rfl,[],⟨List.Perm.refl _,List.Pairwise.nil⟩,h,fH (zy _ _) _⟩
 subst q;refine(Gp base g i l b w A (by first|exact B|simpa using B) hl J k u n o r).mono ?_;rintro e w' ⟨rfl,m,z,G,j,C⟩;refine⟨rfl,m.map El.d,⟨z.map _,(List.pairwise_map (f:=El.d)).2 G⟩,?_,C⟩;have a:m.length=l.length:=z.length_eq;rw[←a]at j;exact K6 (by rw[a]at j ⊢;exact j) (fun x c=>(I x (z.mem_iff.1 c)).grown C ⟨_,_,A⟩)
theorem wm{m:M}(h:Ok m):m.ds.Pairwise (fun x y=>x.seq<y.seq):=by
 rw[List.pairwise_iff_getElem];intro i j b c a;have e:=(h.doc i b).2.1;have d:=(h.doc j c).2.1;omega
theorem Mm{m:M}(h:Ok m):∀d∈m.ds,0≤d.seq:=fun d a=>by
 obtain⟨i,b,rfl⟩:=zu.1 a;have c:=(h.doc i b).2.1;omega
theorem wM{m:M}(h:Ok m):∀d∈m.ds,fM d.fs=0:=fun d a=>by
 obtain⟨i,b,rfl⟩:=zu.1 a;exact(h.doc i b).1
theorem qy{w:World}{n0 X K:Nat}{v:Value}{m:M}(h:At w n0 X K v m)(hK:K≤60000)(q:Q)(hq:QSz q)(a0 a1 a2 a3:Value)(a b:Int)(hQ:∃A n c B k d,[a0,a1,a2,a3]=[.int .i64 q.kind,.string q.name,.slice A n c,.slice B k d])(hqa:QAt w w.heap.size q [a0,a1,a2,a3]) :
  Calls prog 67 #[.pointer (some ⟨X,0,none⟩),.agg #[a0,a1,a2,a3],.int .i64 a,.int .i64 b] w (sG w (upL m (inB a b q))):=by
 obtain⟨A,n,c,B,k,d,e⟩:=hQ;simp only[zQ,and_true]at e;obtain⟨rfl,rfl,rfl,rfl⟩:=e;have i:zWW w (w.alloc (.cells #[.int .i64 q.kind,.string q.name,.slice A n c,.slice B k d] 60)):=zRR _;have l:=i.alloc i.size (.cells #[.int .i64 a] 3);have f:=l.alloc l.size (.cells #[.int .i64 b] 3);have T:(w.alloc (.cells #[.int .i64 q.kind,.string q.name,.slice A n c,.slice B k d] 60)).heap.size=w.heap.size+1:=jz;have V:((w.alloc (.cells #[.int .i64 q.kind,.string q.name,.slice A n c,.slice B k d] 60)).alloc (.cells #[.int .i64 a] 3)).heap.size=w.heap.size+2:=jz;have N:=((Blk.new w 60 #[.int .i64 q.kind,.string q.name,.slice A n c,.slice B k d]).alloc (.cells #[.int .i64 a] 3)).alloc (.cells #[.int .i64 b] 3);have t:=(Blk.new (w.alloc (.cells #[.int .i64 q.kind,.string q.name,.slice A n c,.slice B k d] 60)) 3 #[.int .i64 a]).alloc (.cells #[.int .i64 b] 3);have s:=Blk.new ((w.alloc (.cells #[.int .i64 q.kind,.string q.name,.slice A n c,.slice B k d] 60)).alloc (.cells #[.int .i64 a] 3)) 3 #[.int .i64 b];rw[T]at t;rw[V]at s;generalize I:((w.alloc (.cells #[.int .i64 q.kind,.string q.name,.slice A n c,.slice B k d] 60)).alloc (.cells #[.int .i64 a] 3)).alloc (.cells #[.int .i64 b] 3)=P at *;have O:=h.below f;have W:QBl P w.heap.size q:=⟨A,n,c,B,k,d,N,hqa.grow f⟩
 have U:=zh (wK O hK 101 #[.pointer (some ⟨w.heap.size+1,0,none⟩),.pointer (some ⟨w.heap.size+2,0,none⟩),.pointer (some ⟨w.heap.size,0,none⟩)] (inB a b q) (enters_of func101 jk rfl)
  (fun d H wx J Fa fc hF=>Gw d (wM h.ok d H) q hq Fa fc _ _ _ a b wx (W.below J) hF (t.below J t.lt) (s.below J s.lt)))
 have g:Hid ((upL m (inB a b q)).length≤60000∧(∀d∈upL m (inB a b q),0≤d.seq)∧(upL m (inB a b q)).Pairwise (fun x y=>x.seq<y.seq)):=zh ⟨zY (List.length_filter_le _ _) (zY h.few hK),fun d H=>Mm h.ok d (List.mem_filter.1 H).1,(wm h.ok).filter _⟩;have z:=zh f;have E:=f.size;generalize upL m (inB a b q)=L at *;clear h O W hqa i l f T V N t s;subst I;go_enter func67,ntmps67;go_wp2_with fail;generalize ((w.alloc (.cells #[.int .i64 q.kind,.string q.name,.slice A n c,.slice B k d] 60)).alloc (.cells #[.int .i64 a] 3)).alloc (.cells #[.int .i64 b] 3)=P at *;refine U.out.mono ?_;rintro e w4 ⟨F,rfl,G,r⟩;have Y:=zh (K7 G (by have:=g.out.1;omega) g.out.2.1 g.out.2.2);have p:=zt z r
 have C:Hid (∀j,F.ownBlock=some j→w.heap.size≤j):=zh (fun j u=>by
  obtain⟨aa,_,g2,_⟩:=G.ex;have:=(g2.lt j u).1
  omega)
 clear G r U;go_wp2_with fail;refine Y.out.mono ?_;rintro e Z ⟨rfl,D,S,o,R⟩;have FIN:Hid (sG w L (.returned F) Z):=zh ⟨F,D,rfl,o.mono E,S,p.out.grown R (by have:=p.out.size;omega) (fun j u=>C.out j u)⟩;clear S o R Y;go_wp2;go_ret;exact FIN.out
end Md

namespace Md
open Go.RowKit Ut Tk Qy Qp Ev
structure Rq where
 op:Int
 evs:List Evn
 dur:Bool
 now:Int
 q:ByteArray
 frm:Int
 til:Int
 lim:Int
 width:Int
 after:Int
 cur:List UInt8
structure Rw where
 E:Option Addr
 en:Nat
 ec:Nat
 C:Option Addr
 cn:Nat
 cc:Nat
abbrev rqC(r:Rq)(z:Rw):Array Value:=#[.int .i64 r.op,.slice z.E z.en z.ec,.bool r.dur,.int .i64 r.now,.string r.q,.int .i64 r.frm,.int .i64 r.til,.int .i64 r.lim,.int .i64 r.width,.int .i64 r.after,.slice z.C z.cn z.cc]
abbrev rs0:Array Value:=rsC 0 0 0 nil nil nil 0 0 0 0
theorem l8{w w':World}{n0:Nat}{v:Value}{ds:List Dc}(h:DOwn w n0 v ds)(hk:∀b,(Tg w 48 b∨Tg w 85 b)→w'.heap[b]?=w.heap[b]?):DOwn w' n0 v ds:=by
 obtain⟨d,g,e,f⟩:=h.ex;exact⟨d,g,gz e (fun b j=>hk b (.inl (fO e j))),fun i a b=>(f i a b).same (fun b c=>⟨⟨c.1,c.2.same (hk b (.inr c.2))⟩,hk b (.inr c.2)⟩)⟩
theorem At.kp{w w':World}{n0 X K:Nat}{v:Value}{m:M}(h:At w n0 X K v m)(hs:w.heap.size≤w'.heap.size)(hk:∀b,(Tg w 81 b∨Tg w 48 b∨Tg w 85 b)→w'.heap[b]?=w.heap[b]?):At w' n0 X K v m:=
 ⟨(hk X (.inl ⟨_,_,h.blk⟩)).trans h.blk,l8 h.own (fun b a=>hk b (.inr a)),zY h.n0 hs,h.ok,h.few⟩
theorem At.row{w:World}{n0 X K g:Nat}{v:Value}{m:M}{cs:Array Value}(h:At w n0 X K v m)(hg:Blk w g 42 cs)(cs':Array Value):At (w.setRow g cs') n0 X K v m:=
 h.kp jz (fun b hb=>vL w g b cs' (fun e=>by
  subst e;rcases hb with hb|hb|hb
  ·exact absurd (hb.one ⟨_,_,hg⟩) jd
  ·exact absurd (hb.one ⟨_,_,hg⟩) jd
  exact absurd (hb.one ⟨_,_,hg⟩) jd))
theorem At.set{w:World}{n0 X K:Nat}{v u:Value}{m m':M}{i:Nat}(h:At w n0 X K v m)(hb:Blk (w.setCell ⟨X,i,none⟩ u) X 81 (mdC m' v))(hd:m'.ds=m.ds)(ok:Ok m'):At (w.setCell ⟨X,i,none⟩ u) n0 X K v m':=by
 refine⟨hb,?_,by simpa[World.setCell]using h.n0,ok,by rw[hd];exact h.few⟩;rw[hd];refine l8 h.own (fun b hT=>vN _ _ _ _ (fun e=>?_));have e:b=X:=e;subst e;rcases hT with hT|hT
 ·exact absurd (hT.one ⟨_,_,h.blk⟩) jd
 exact absurd (hT.one ⟨_,_,h.blk⟩) jd
theorem qH(w:World)(X i:Nat)(u:Value):Chg (fun b=>b=X) w (w.setCell ⟨X,i,none⟩ u):=⟨rfl,rfl,rfl,by simp[World.setCell],fun k c a=>vN _ _ _ _ (fun e=>a e)⟩
theorem iA{O:Nat→Prop}{w W:World}{g:Nat}(h:Chg O w W)(hg:w.heap.size≤g)(cs:Array Value):Chg O w (W.setRow g cs):=
 h.trans (O':=fun b=>b=g) ⟨rfl,rfl,rfl,jz,fun k d a=>vL _ _ _ _ (fun e=>a e)⟩ (fun x c=>.inr (by rw[c];exact hg))
def StP(n0 X K:Nat)(v:Value)(m':M)(w:World)(cs:Array Value)(e:Ending)(w':World):Prop:=e=.returned (.agg cs)∧At w' n0 X K v m'∧Chg (fun b=>b=X) w w'
theorem iG{O:Nat→Prop}{w w':World}(h:zWW w w'):Chg O w w':=Chg.of_new h
theorem lV{B:Nat}{w0 w:World}(h:Below B w0 w)(n:Nat):Below B w0 (w.drewN n):=⟨h.os,h.tape,h.output,h.size,h.block⟩
section
variable {w:World} {n0 X K:Nat} {v:Value} {m:M}
theorem xu(h:At w n0 X K v m)(r:Rq)(z:Rw):Calls prog 31 #[.pointer (some ⟨X,0,none⟩),.agg (rqC r z)] w (StP n0 X K v m w rs0):=by
 have b:zWW w ((w.alloc (.cells (rqC r z) 37)).alloc (.cells rs0 42)):=(zRR _).alloc jz _;have e:=(Blk.new w 37 (rqC r z)).alloc (.cells rs0 42);have d:=Blk.new (w.alloc (.cells (rqC r z) 37)) 42 rs0;have f:(w.alloc (.cells (rqC r z) 37)).heap.size=w.heap.size+1:=jz;rw[f]at d;have g:=zh (h.below b);have l:=zh e;have c:=zh d;have i:=zh b;have k:w.heap.size+2≤(World.heap ((w.alloc (.cells (rqC r z) 37)).alloc (.cells rs0 42))).size:=jz;have j:=h.blk.lt;clear h b e d f;go_enter func31,ntmps31
 go_upto_region 1 with(fail);generalize ((w.alloc (.cells (rqC r z) 37)).alloc (.cells rs0 42))=n at *;have a:=zh (zz _ (w.heap.size+1) _ (rs0) _ _ c.out);go_wp2_with (refine zx (o:=⟨none,.store 42 _ _,_,_,_,_⟩) rfl 42 _ _ rfl (w.heap.size+1) (rs0) rfl rfl 42 rs0 c.out jk rfl (by simp[rsC,Value.oneCell']) ?_);refine zw (fA rfl rfl (zv _ (w.heap.size+1) 42 42 _ (0,0) _ a.out underlying42 rfl jk)) rfl ?_;exact⟨rfl,g.out.row c.out _,iA (iG i.out) (zZ _) _⟩
theorem JU(h:At w n0 X K v m)(r:Rq)(z:Rw):Calls prog 29 #[.pointer (some ⟨X,0,none⟩),.agg (rqC r z)] w (StP n0 X K v { m with acked:=(m.ds.length:Nat) } w rs0):=by
 obtain⟨J,I,G,_,_,_⟩:=h.docs;subst G;have s:zWW w ((w.alloc (.cells (rqC r z) 37)).alloc (.cells rs0 42)):=(zRR _).alloc jz _;have y:=(Blk.new w 37 (rqC r z)).alloc (.cells rs0 42);have q:=Blk.new (w.alloc (.cells (rqC r z) 37)) 42 rs0;have t:(w.alloc (.cells (rqC r z) 37)).heap.size=w.heap.size+1:=jz;rw[t]at q;have e:=zh (h.below s);have L:=zh y;have H:=zh q;have B:=zh s;have E:w.heap.size+2≤(World.heap ((w.alloc (.cells (rqC r z) 37)).alloc (.cells rs0 42))).size:=jz;have D:=h.blk.lt;have A:=e.out.blk.cell 7;have f:=e.out.blk.cell 10;have g:=e.out.blk.frozen 10;have a:=h.ok;simp only[mdC,zA,zB,zC]at A f;have l:=zh (e.out.set (i:=10) (u:=.int .i64 (m.ds.length:Nat)) (m':={ m with acked:=(m.ds.length:Nat) }) (by have:=e.out.blk.set_ 10 (.int .i64 (m.ds.length:Nat));simpa[mdC]using this) rfl ⟨a.c,a.ret,a.doc,a.fl,a.nw,⟨Int.natCast_nonneg _,Int.le_refl _⟩⟩);have n:w.heap.size+1≠X:=jo;have d:=zh (H.out.far (p:=⟨X,10,none⟩) n (.int .i64 (m.ds.length:Nat)));have k:=zh ((iG (O:=fun b=>b=X) B.out).trans (qH _ X 10 (.int .i64 (m.ds.length:Nat))) (fun x C=>.inl C));clear h s y q t a;go_enter func29,ntmps29
 go_upto_region 1 with(fail);generalize ((w.alloc (.cells (rqC r z) 37)).alloc (.cells rs0 42))=F at *
 go_upto_region 2 with(fail);generalize F.setCell ⟨X,10,none⟩ (.int .i64 (m.ds.length:Nat))=N at *;clear A f g;have j:=zh (zz _ (w.heap.size+1) _ (rs0) _ _ d.out);go_wp2_with (refine zx (o:=⟨none,.store 42 _ _,_,_,_,_⟩) rfl 42 _ _ rfl (w.heap.size+1) (rs0) rfl rfl 42 rs0 d.out jk rfl (by simp[rsC,Value.oneCell']) ?_);refine zw (fA rfl rfl (zv _ (w.heap.size+1) 42 42 _ (0,0) _ j.out underlying42 rfl jk)) rfl ?_;exact⟨rfl,l.out.row d.out _,iA k.out (zZ _) _⟩
def mE(m:M)(n:Int):Int:=if n≤m.now then 271 else 0
def nP(m:M)(n:Int):M:=if n≤m.now then m else { m with now:=n }
theorem JV(h:At w n0 X K v m)(r:Rq)(z:Rw)(hn:I64 r.now):Calls prog 30 #[.pointer (some ⟨X,0,none⟩),.agg (rqC r z)] w (StP n0 X K v (nP m r.now) w (rsC (mE m r.now) 0 0 nil nil nil 0 0 0 0)):=by
 have E:zWW w ((w.alloc (.cells (rqC r z) 37)).alloc (.cells rs0 42)):=(zRR _).alloc jz _;have N:=(Blk.new w 37 (rqC r z)).alloc (.cells rs0 42);have D:=Blk.new (w.alloc (.cells (rqC r z) 37)) 42 rs0;have J:(w.alloc (.cells (rqC r z) 37)).heap.size=w.heap.size+1:=jz;rw[J]at D;have n:=zh (h.below E);have T:=zh N;have F:=zh D;have A:=zh E;have W:w.heap.size+2≤(World.heap ((w.alloc (.cells (rqC r z) 37)).alloc (.cells rs0 42))).size:=jz;have V:=h.blk.lt;have C:=n.out.blk.cell 9;have q:=n.out.blk.frozen 9;have B:=T.out.cell 3;simp only[mdC,rqC,zA,zB,zC]at C B;have f:=h.ok;by_cases g:r.now≤m.now
 ·have y:mE m r.now=271:=zI g;have s:nP m r.now=m:=zI g;rw[y,s];clear h E N D J f y s;go_enter func30,ntmps30
  go_upto_region 1 with(fail);generalize ((w.alloc (.cells (rqC r z) 37)).alloc (.cells rs0 42))=l at *;go_quiet (fail);have a:=zh (lV (zy l.heap.size l) nq);generalize l.drewN nq=R at *;go_wp2_with fail;refine(iy 271 R).mono ?_;rintro e Z ⟨rfl,t⟩;have k:=zt a t;have Y:=zh (n.out.below k.out);have d:=zh (F.out.below k.out F.out.lt);clear t;have j:=zh (zz _ (w.heap.size+1) _ (rsC 271 0 0 nil nil nil 0 0 0 0) _ _ d.out);go_wp2_with (refine zx (o:=⟨none,.store 42 _ _,_,_,_,_⟩) rfl 42 _ _ rfl (w.heap.size+1) (rsC 271 0 0 nil nil nil 0 0 0 0) rfl rfl 42 rs0 d.out jk rfl (by simp[rsC,Value.oneCell']) ?_);refine zw (fA rfl rfl (zv _ (w.heap.size+1) 42 42 _ (0,0) _ j.out underlying42 rfl jk)) rfl ?_;exact⟨rfl,Y.out.row d.out _,iA (iG (A.out.trans (k.out.mono A.out.size))) (zZ _) _⟩
 have y:mE m r.now=0:=zH g;have s:nP m r.now={ m with now:=r.now }:=zH g;rw[y,s];clear h E N D J y s;go_enter func30,ntmps30
 go_upto_region 1 with(fail);generalize ((w.alloc (.cells (rqC r z) 37)).alloc (.cells rs0 42))=l at *;go_quiet (fail);have a:=zh (lV (zy l.heap.size l) nq);have C:=(a.out.cell (p:=⟨X,9,none⟩) n.out.blk.lt).trans C;have q:=(n.out.below a.out).blk.frozen 9;have B:=(a.out.cell (p:=⟨w.heap.size,3,none⟩) T.out.lt).trans B;have S:=zh (n.out.below a.out);have L:=zh (F.out.below a.out F.out.lt);have P:=zh (A.out.trans (a.out.mono A.out.size));generalize l.drewN nq=R at *;have H:w.heap.size+1≠X:=jo;have I:=zh (S.out.set (i:=9) (u:=.int .i64 r.now) (m':={ m with now:=r.now }) (by have:=S.out.blk.set_ 9 (.int .i64 r.now);simpa[mdC]using this) rfl ⟨f.c,f.ret,f.doc,f.fl,hn,f.ak⟩);have d:=zh (L.out.far (p:=⟨X,9,none⟩) H (.int .i64 r.now));have G:=zh ((iG (O:=fun b=>b=X) P.out).trans (qH _ X 9 (.int .i64 r.now)) (fun x U=>.inl U));clear f
 go_upto_region 4 with(fail);generalize R.setCell ⟨X,9,none⟩ (.int .i64 r.now)=Z at *;clear C q B;have j:=zh (zz _ (w.heap.size+1) _ (rs0) _ _ d.out);go_wp2_with (refine zx (o:=⟨none,.store 42 _ _,_,_,_,_⟩) rfl 42 _ _ rfl (w.heap.size+1) (rs0) rfl rfl 42 rs0 d.out jk rfl (by simp[rsC,Value.oneCell']) ?_);refine zw (fA rfl rfl (zv _ (w.heap.size+1) 42 42 _ (0,0) _ j.out underlying42 rfl jk)) rfl ?_;exact⟨rfl,I.out.row d.out _,iA G.out (zZ _) _⟩
end
end Md
end Go.Proofs.YtmomjpolkkbhnaaGreat
