/- What is read of pieces is not too great: plain. -/
import Derived.Defers
import Derived.Test.YtmomjpolkkbhnaaGreatQModelRunsRow22
set_option linter.unusedSimpArgs false
set_option maxRecDepth 20000
set_option maxHeartbeats 100000000
open Go.Proofs.Tryz
namespace Go.Proofs.YtmomjpolkkbhnaaGreat
namespace Qp
open Go.RowKit Ut Tk Qy
theorem uI(s:P):(words s).length≤s.length:=by
 have:=nY (str s);rw[gM,←fB,gM]at this;exact this
theorem BM(nm:P)(l:List P)(q:Q)(hl:l.length≤1048576)(h:gW nm l=some q):QW 1 q:=by
 unfold gW at h
 split at h
 ·cases h
 split at h
 ·injection h with h;subst h;exact .mk (by rw[List.length_map];omega) jz jz
 injection h with h;subst h;exact .mk (by rw[List.length_map];omega) jz jz
theorem Jb(s:P):(gK s).length≤s.length:=by
 unfold gK
 split
 ·rw[zP];omega
 exact zG _
theorem LF(s:P)(q:Q)(hl:s.length≤1048576)(h:fU s=some q):QW 1 q:=by
 unfold fU at h;have a:=Jb s
 split at h
 ·injection h with h;subst h;exact .mk jz jz jz
 split at h
 ·cases h
 split at h
 ·refine BM _ _ q ?_ h;have:=uI (((gK s).take ((gK s).length-1)).drop 1);rw[zP,zK]at this;omega
 split at h
 ·split at h
  ·injection h with h;subst h;exact .mk jz jz jz
  split at h
  ·injection h with h;subst h;have:=uI (gK s).dropLast;rw[List.length_dropLast]at this;exact .mk (by rw[List.length_map];omega) jz jz
  cases h
 refine BM _ _ q ?_ h;have:=uI (gK s);omega
theorem Cw(k:Int)(a:List Q)(K:Nat)(hl:a.length≤8796093021952)(h:∀x∈a,QW K x):QW (K+1) (fg k a):=by
 match a,hl,h with
 | [q],_,h=>exact(h q jz).more _ jo
 | [],hl,h=>exact .mk jz hl h
 | q::q'::a,hl,h=>exact .mk jz hl h
def N7(m:Md)(l:List P)(q:Q):Prop:=
 match m with
 | .part=>∀K,4*l.length≤K+3→QW K q
 | .and a=>∀K,4*l.length≤K+3→(∀x∈a,QW K x)→a.length+l.length≤1048577→QW (K+1) q
 | .andT a=>∀K,4*l.length≤K+3→(∀x∈a,QW K x)→a.length+l.length≤1048577→QW (K+1) q
 | .or a=>∀K,4*l.length≤K+3→(∀x∈a,QW (K+1) x)→a.length+l.length≤1048577→QW (K+2) q
 | .orT a=>∀K,4*l.length≤K+3→(∀x∈a,QW (K+1) x)→a.length+l.length≤1048577→QW (K+2) q
theorem R.wide{m:Md}{l:List P}{o:Option (Q × List P)}(h:R m l o)(hp:∀x∈l,x.length≤1048576)(hm:l.length≤1048576):∀q r,o=some (q,r)→N7 m l q:=by
 induction h with
 | pnil=>intro q r e;cases e
 | pnot hs h ih=>
  intro q r e K hK;obtain⟨⟨c,j⟩,f,d⟩:=Option.map_eq_some_iff.1 e;simp only[Prod.mk.injEq]at d;obtain⟨rfl,_⟩:=d;rw[zV]at hK hm;have:=ih (fun x hx=>hp x (by simp[hx])) jo c j f;obtain⟨u,rfl⟩:∃u,K=u+1:=⟨K-1,jo⟩;exact .mk jz jz fun x hx=>by rw[List.mem_singleton]at hx;rw[hx];exact this u jo
 | @plp s t o hs h ih=>
  intro q r e K hK
  match o,e,h,ih with
  | some (c,s'::j),e,h,ih=>
   by_cases g:s'=RP
   ·have v:closed (some (c,s'::j))=some (c,j):=zI g;rw[v]at e;simp only[Option.some.injEq,Prod.mk.injEq]at e;obtain⟨rfl,_⟩:=e;rw[zV]at hK hm;obtain⟨k,i,y,p⟩:=h.less _ _ rfl;have w:1≤k:=p (.inr (.inr ⟨_,rfl⟩));have:=ih (fun x hx=>hp x (by simp[hx])) jo c _ rfl (4*t.length-3) jo jz jm;exact this.more _ jo
   have v:closed (some (c,s'::j))=none:=zH g;rw[v]at e
   cases e
  | some (c,[]),e,_,_=>cases e
  | none,e,_,_=>cases e
 | pbad hs=>intro q r e;cases e
 | pleaf hs=>
  intro q r e K hK;obtain⟨c,f,d⟩:=Option.map_eq_some_iff.1 e;simp only[Prod.mk.injEq]at d;obtain⟨rfl,_⟩:=d;rw[zV]at hK;exact(LF _ _ (hp _ jz) f).more _ jo
 | and0 h ih=>intro q r e;cases e
 | and1 h d ih ih2=>
  intro q r e K hK a b;obtain⟨k,rfl,z,f⟩:=h.less _ _ rfl;have i:=f (.inl rfl);have n:=ih hp hm _ _ rfl K hK;rw[zP]at ih2
  have:=ih2 (fun x hx=>hp x (List.mem_of_mem_drop hx)) jo q r e K (by rw[zP];omega) (fun x hx=>by
   rcases List.mem_append.1 hx with hx|hx
   ·exact a x hx
   rw[List.mem_singleton]at hx;rw[hx];exact n) (by rw[zJ,zm,zP];omega)
  exact this
 | andE h=>
  intro q r e K hK a b;simp only[Option.some.injEq,Prod.mk.injEq]at e;obtain⟨rfl,_⟩:=e;exact Cw _ _ K jo a
 | andA hs h ih=>
  intro q r e K hK a b;rw[zV]at hK hm b;exact ih (fun x hx=>hp x (by simp[hx])) jo q r e K jo a jo
 | andN hs b h ih=>
  intro q r e K hK a b;exact ih hp hm q r e K hK a b
 | or0 h ih=>intro q r e;cases e
 | or1 h d ih ih2=>
  intro q r e K hK a b;obtain⟨k,rfl,z,f⟩:=h.less _ _ rfl;have i:=f (.inr (.inl ⟨_,rfl⟩));have n:=ih hp hm _ _ rfl K hK jz jm;rw[zP]at ih2
  exact ih2 (fun x hx=>hp x (List.mem_of_mem_drop hx)) jo q r e K (by rw[zP];omega) (fun x hx=>by
   rcases List.mem_append.1 hx with hx|hx
   ·exact a x hx
   rw[List.mem_singleton]at hx;rw[hx];exact n) (by rw[zJ,zm,zP];omega)
 | orE h=>
  intro q r e K hK a b;simp only[Option.some.injEq,Prod.mk.injEq]at e;obtain⟨rfl,_⟩:=e;exact Cw _ _ (K+1) jo a
 | orO hs h ih=>
  intro q r e K hK a b;rw[zV]at hK hm b;exact ih (fun x hx=>hp x (by simp[hx])) jo q r e K jo a jo
theorem vB{l:List P}{q:Q}{r:List P}(h:R (.or []) l (some (q,r)))(hp:∀x∈l,x.length≤1048576)(hm:l.length≤1048576):∃K,K≤16777216∧QW K q:=
 ⟨4*l.length+2,jo,h.wide hp hm q r rfl (4*l.length) jo jz jm⟩
inductive PrsR:P→Int→Option Q→Prop
 | long {s} (h:1024<s.length):PrsR s 2 none
 | noPieces {s} (h:s.length≤1024) (hp:fI s=none):PrsR s 170 none
 | bad {s l} (h:s.length≤1024) (hp:fI s=some l) (hr:R (.or []) l none):PrsR s 170 none
 | left {s l q r} (h:s.length≤1024) (hp:fI s=some l) (hr:R (.or []) l (some (q,r))) (hl:r≠[]):PrsR s 170 none
 | many {s l q} (h:s.length≤1024) (hp:fI s=some l) (hr:R (.or []) l (some (q,[]))) (hm:gy q=true):PrsR s 3 none
 | deep {s l q} (h:s.length≤1024) (hp:fI s=some l) (hr:R (.or []) l (some (q,[]))) (hm:gy q=false) (hd:16<gL q):PrsR s 171 none
 | ok {s l q} (h:s.length≤1024) (hp:fI s=some l) (hr:R (.or []) l (some (q,[]))) (hm:gy q=false) (hd:gL q≤16):PrsR s 0 (some q)
theorem PrsR.det{s:P}{e e':Int}{o o':Option Q}(h:PrsR s e o)(h':PrsR s e' o'):e=e'∧o=o':=by
 have c:∀ {l l':List P} {x x':Option (Q × List P)},fI s=some l→fI s=some l'→R (.or []) l x→R (.or []) l' x'→x=x':=fun d a f b=>by
  rw[d]at a;injection a with a;subst a;exact f.det _ b
 cases h with
 | long h=>cases h' with
  | long _=>exact⟨rfl,rfl⟩
  | _=>omega
 | noPieces h d=>cases h' with
  | long _=>omega
  | noPieces _ _=>exact⟨rfl,rfl⟩
  | bad _ _ _=>exact⟨rfl,rfl⟩
  | left _ _ _ _=>exact⟨rfl,rfl⟩
  | many _ a _ _=>rw[d]at a;cases a
  | deep _ a _ _ _=>rw[d]at a;cases a
  | ok _ a _ _ _=>rw[d]at a;cases a
 | bad h d f=>cases h' with
  | long _=>omega
  | noPieces _ _=>exact⟨rfl,rfl⟩
  | bad _ _ _=>exact⟨rfl,rfl⟩
  | left _ _ _ _=>exact⟨rfl,rfl⟩
  | many _ a b _=>exact absurd (c d a f b) jz
  | deep _ a b _ _=>exact absurd (c d a f b) jz
  | ok _ a b _ _=>exact absurd (c d a f b) jz
 | left h d f hl=>cases h' with
  | long _=>omega
  | noPieces _ _=>exact⟨rfl,rfl⟩
  | bad _ _ _=>exact⟨rfl,rfl⟩
  | left _ _ _ _=>exact⟨rfl,rfl⟩
  | many _ a b _=>have:=c d a f b;simp at this;exact absurd this.2 hl
  | deep _ a b _ _=>have:=c d a f b;simp at this;exact absurd this.2 hl
  | ok _ a b _ _=>have:=c d a f b;simp at this;exact absurd this.2 hl
 | many h d f hm=>cases h' with
  | long _=>omega
  | noPieces _ a=>rw[d]at a;cases a
  | bad _ a b=>exact absurd (c d a f b) jz
  | left _ a b hl=>have:=c d a f b;simp at this;exact absurd this.2 hl
  | many _ _ _ _=>exact⟨rfl,rfl⟩
  | deep _ a b hm' _=>have:=c d a f b;simp at this;subst this;rw[hm]at hm';cases hm'
  | ok _ a b hm' _=>have:=c d a f b;simp at this;subst this;rw[hm]at hm';cases hm'
 | deep h d f hm hd=>cases h' with
  | long _=>omega
  | noPieces _ a=>rw[d]at a;cases a
  | bad _ a b=>exact absurd (c d a f b) jz
  | left _ a b hl=>have:=c d a f b;simp at this;exact absurd this.2 hl
  | many _ a b hm'=>have:=c d a f b;simp at this;subst this;rw[hm]at hm';cases hm'
  | deep _ _ _ _ _=>exact⟨rfl,rfl⟩
  | ok _ a b _ hd'=>have:=c d a f b;simp at this;subst this;omega
 | ok h d f hm hd=>cases h' with
  | long _=>omega
  | noPieces _ a=>rw[d]at a;cases a
  | bad _ a b=>exact absurd (c d a f b) jz
  | left _ a b hl=>have:=c d a f b;simp at this;exact absurd this.2 hl
  | many _ a b hm'=>have:=c d a f b;simp at this;subst this;rw[hm]at hm';cases hm'
  | deep _ a b _ hd'=>have:=c d a f b;simp at this;subst this;omega
  | ok _ a b _ _=>have:=c d a f b;simp at this;subst this;exact⟨rfl,rfl⟩
end Qp

namespace Qp
open Go.RowKit Ut Tk Qy
theorem Mv(v:Value)(xT:TypeId)(w:World):(Instr.typeAssert (.iface 149 v) xT 149 true).run prog w=.ok (.tuple #[v,.bool true]) w:=by
 have a:=underlying149;simp[Instr.typeAssert,run_underlying a,go_sem,Result.andThen]
theorem tT(p1 p2:Addr)(w:World) :
  CallsD prog 96 #[.pointer (some p1),.pointer (some p2)] .returning w fun e u' w'=>e=.returned (.tuple #[])∧u'=.returning∧w'=w:=by
 refine callsD_of_wpS func96 rfl fun b c a=>?_
 apply wpS_seq;apply wpS_region;simp[wpOpsS,go_sem,recoverD,a,ntmps96,Exit.thenS];refine wpS_of_wp ?_;go_wp2
 cases b
 simp_all[bodyPostS,results,Tryz.results96]
theorem AX(b1 b2:Nat)(x0 x1 x2 x3 x4:Value)(z:Int)(older:List PanicEntry)(w:World)
  (h1:Blk w b1 60 #[x0,x1,x2,x3]) (h2:Blk w b2 39 #[x4]) :
  CallsD prog 96 #[.pointer (some ⟨b1,0,none⟩),.pointer (some ⟨b2,0,none⟩)] (.panicking ({ v:=.iface 149 (.agg #[.int .i64 z]),recovered:=false }::older)) w fun e u' w'=>
   e=.returned (.tuple #[])∧u'=.panicking ({ v:=.iface 149 (.agg #[.int .i64 z]),recovered:=true }::older) ∧
   Blk w' b1 60 #[.int .i64 0,.string ⟨#[]⟩,.slice none 0 0,.slice none 0 0]∧Blk w' b2 39 #[.int .i64 z]∧(∀B,B≤b1→B≤b2→B≤w.heap.size→Below B w w'):=by
 refine callsD_of_wpS func96 rfl fun A D j=>?_
 apply wpS_seq;apply wpS_region;simp[wpOpsS,go_sem,recoverD,j,ntmps96,Exit.thenS];refine wpS_of_wp ?_;obtain⟨E,F,u,r,C,t,y,x⟩:=h1.four;have q:=h2.cell 0;have s:=h2.frozen 0;simp at q;have m:=Mv;have l:=h1.lt;have i:=h2.lt;have a:=h1.ne_ h2 jd;have g:b1≠w.heap.size:=jo;have d:b2≠w.heap.size:=jo;have k:=zh h1;have n:=zh h2;clear h1 h2;simp only[show Array.replicate 12 undef=#[undef,undef,undef,undef,undef,undef,undef,undef,undef,undef,undef,undef]from rfl,zD,zF,zE,List.append_toArray,List.cons_append,List.nil_append];go_wp2;go_region;have b:=(((k.out.set4 (.int .i64 0) (.string ⟨#[]⟩) (.slice none 0 0) (.slice none 0 0)).far (p:=⟨b2,0,none⟩) a (.int .i64 z)).alloc (.cells #[.int .i64 z] 149)).drew;have o:Blk (set4 w b1 (.int .i64 0) (.string ⟨#[]⟩) (.slice none 0 0) (.slice none 0 0)) b2 39 #[x4]:=(kL w b1 b2 _ _ _ _ (fun e=>a e.symm)).trans n.out;have f:=((o.set_ 0 (.int .i64 z)).alloc (.cells #[.int .i64 z] 149)).drew
 have c:∀B,B≤b1→B≤b2→B≤w.heap.size→Below B w (((set4 w b1 (.int .i64 0) (.string ⟨#[]⟩) (.slice none 0 0) (.slice none 0 0)).setCell ⟨b2,0,none⟩ (.int .i64 z)).alloc (.cells #[.int .i64 z] 149)).drew:=fun B h1 h2 h=>
  ((((gY (zy B w) h1 _ _ _ _).setCell (p:=⟨b2,0,none⟩) h2 _).alloc (by simpa[World.setCell,jb]using h) _).drew)
 unfold set4 at b f c;generalize (World.alloc _ (.cells #[.int .i64 z] 149)).drew=X at *;rename_i QQ;simp[QQ,Exit.inBlock,bodyPostS,results,Tryz.results96];exact⟨b,by simpa using f,c⟩
end Qp

namespace Qp
open Go.RowKit Ut Tk Qy
def noQ:Q:=.mk 0 ByteArray.empty [] []
def Br(w:World)(s:P)(e:Ending)(w':World):Prop:=
 ∃(E:Int) (o:Option Q) (a0 a1 a2 a3:Value),PrsR s E o∧e=.returned (.tuple #[.agg #[a0,a1,a2,a3],.int .i64 E])∧QF w' (fun b=>w.heap.size≤b∧b<w'.heap.size) (o.getD noQ) [a0,a1,a2,a3]∧zWW w w'
theorem lJ(w:World)(S:Nat→Prop):QF w S noQ [.int .i64 0,.string ⟨#[]⟩,.slice none 0 0,.slice none 0 0]:=
 .mk (nm:=⟨#[]⟩) [] rfl (by simpa using ReadsS.none_) rfl rfl jz ReadsS.none_ (fun i a=>absurd a jz)
theorem Bs{w:World}{base:Nat}{e:TypeId}{size n:Nat}{v:Value}{xs:List Value}(h:w.ownsRow base e size v n xs):∃A c,v=.slice A n c∧n≤c:=by
 rcases h.2 with⟨rfl,rfl⟩|⟨g,a,b,rfl,_,_,d,_⟩
 ·exact⟨_,_,rfl,zG _⟩
 exact⟨_,_,rfl,d⟩
theorem En{tmps:Array Value}{W:World}{b1 b2:Nat}{a0 a1 a2 a3:Value}{z:Int}(h1:tmps.getD 2 undef=.pointer (some ⟨b1,0,none⟩))(h2:tmps.getD 3 undef=.pointer (some ⟨b2,0,none⟩))(B1:Blk W b1 60 #[a0,a1,a2,a3])(B2:Blk W b2 39 #[.int .i64 z]) :
  (results Tryz.f65 tmps).run prog W=.ok (.tuple #[.agg #[a0,a1,a2,a3],.int .i64 z]) W:=by
 have d:=zv (P:=prog) W b1 60 60 #[a0,a1,a2,a3] (0,0) _ B1 underlying60 rfl jk
 have e:(loadVar 39 ⟨b2,0,none⟩).run prog W=.ok (.int .i64 z) W:=by
  have c:=B2.cell 0;simp at c;simp[go_sem,c]
 have b:tmps[2]?.getD undef=.pointer (some ⟨b1,0,none⟩):=by simpa using h1
 have a:tmps[3]?.getD undef=.pointer (some ⟨b2,0,none⟩):=by simpa using h2
 simp[results,Tryz.results65,b,a,asAddr,d,e]
theorem nZ{tmps:Array Value}{W:World}{b1 b2:Nat}{a0 a1 a2 a3:Value}{z:Int}{R:Ending→World→Prop}(B1:Blk W b1 60 #[a0,a1,a2,a3])(B2:Blk W b2 39 #[.int .i64 z])(h1:tmps.getD 2 undef=.pointer (some ⟨b1,0,none⟩))(h2:tmps.getD 3 undef=.pointer (some ⟨b2,0,none⟩))
  (hR:R (.returned (.tuple #[.agg #[a0,a1,a2,a3],.int .i64 z])) W):Leaves prog Tryz.f65 tmps R [] .returning W:=⟨_,En h1 h2 B1 B2,hR⟩
theorem pg(s:ByteArray)(w:World):Calls prog 65 #[.string s] w (Br w s.data.toList):=by
 have aX:∀(fn:Fn) (first cap:Array Value) (w:World),(Instr.makeFunc fn first cap).run prog w=.ok (.func fn first cap) w:=fun _ _ _ _=>rfl
 by_cases hs:1024<s.size
 ·have aJ:(1024:Int)<(s.size:Int):=jo;have L:=zh (PrsR.long (s:=s.data.toList) (by rw[fB];exact hs));have aK:=zh (((zy w.heap.size w).alloc (zG _) (.cells #[.int .i64 0,.string ⟨#[]⟩,.slice none 0 0,.slice none 0 0] 60)).alloc jz (.cells #[.int .i64 2] 39));clear hs
  go_enter_defers func65,ntmps65
  go_wp2;exact nZ (Blk.alloc (Blk.new w 60 #[.int .i64 0,.string ⟨#[]⟩,.slice none 0 0,.slice none 0 0]) _) (by have:=Blk.new (w.alloc (.cells #[.int .i64 0,.string ⟨#[]⟩,.slice none 0 0,.slice none 0 0] 60)) 39 #[.int .i64 2];rw[vM]at this;exact this) rfl rfl ⟨2,none,_,_,_,_,L.out,rfl,lJ _ _,aK.out⟩
 have aJ:(s.size:Int)≤1024:=jo;have aC:s.data.toList.length≤1024:=by rw[fB];omega
 have c0:=Fg s ((w.alloc (.cells #[.int .i64 0,.string ByteArray.empty,.slice none 0 0,.slice none 0 0] 60)).alloc (.cells #[.int .i64 0] 39)) jo;have ak:=uF s.data.toList.length s.data.toList;have al:=tF s.data.toList.length s.data.toList;have B1:=zh ((Blk.new w 60 #[.int .i64 0,.string ByteArray.empty,.slice none 0 0,.slice none 0 0]).alloc (.cells #[.int .i64 0] 39));have B2:Hid (Blk ((w.alloc (.cells #[.int .i64 0,.string ByteArray.empty,.slice none 0 0,.slice none 0 0] 60)).alloc (.cells #[.int .i64 0] 39)) (w.heap.size+1) 39 #[.int .i64 0]):=zh (by have:=Blk.new (w.alloc (.cells #[.int .i64 0,.string ByteArray.empty,.slice none 0 0,.slice none 0 0] 60)) 39 #[.int .i64 0];rw[vM]at this;exact this);have Hb:=zh (((zy w.heap.size w).alloc (zG _) (.cells #[.int .i64 0,.string ByteArray.empty,.slice none 0 0,.slice none 0 0] 60)).alloc jz (.cells #[.int .i64 0] 39));have hz:(World.heap ((w.alloc (.cells #[.int .i64 0,.string ByteArray.empty,.slice none 0 0,.slice none 0 0] 60)).alloc (.cells #[.int .i64 0] 39))).size=w.heap.size+2:=jz;have Hz:=zh hz;have D:=zh aC;clear hz hs aC
 go_enter_defers func65,ntmps65
 go_wp2_with fail;refine c0.mono ?_;intro e y a;clear c0
 match hpp:fI s.data.toList,a with
 | none,a=>
  obtain⟨rfl,d⟩:=a;have L:=zh (PrsR.noPieces D.out hpp);have aD:=d.size;have J:=B1.out.below d (by rw[Hz.out];omega);have E:=B2.out.below d (by rw[Hz.out];omega);have ac:=zh (Hb.out.trans (d.mono (by rw[Hz.out];omega)));obtain⟨q0,q1,q2,q3,f0,Z,f2,f3⟩:=J.four;have q4:=E.cell 0;have f4:=E.frozen 0;simp at q4;have aL:=zh ((J.set4 (.int .i64 0) (.string ⟨#[]⟩) (.slice none 0 0) (.slice none 0 0)).far (p:=⟨w.heap.size+1,0,none⟩) jz (.int .i64 170))
  have aH:Hid (Blk ((set4 y w.heap.size (.int .i64 0) (.string ⟨#[]⟩) (.slice none 0 0) (.slice none 0 0)).setCell ⟨w.heap.size+1,0,none⟩ (.int .i64 170)) (w.heap.size+1) 39 #[.int .i64 170]):=
   zh (by have:=(show Blk (set4 y w.heap.size (.int .i64 0) (.string ⟨#[]⟩) (.slice none 0 0) (.slice none 0 0)) (w.heap.size+1) 39 #[.int .i64 0]from(kL y w.heap.size _ _ _ _ _ jo).trans E).set_ 0 (.int .i64 170);simpa using this)
  have T:=zh ((gY ac.out (zG _) (.int .i64 0) (.string ⟨#[]⟩) (.slice none 0 0) (.slice none 0 0)).setCell (p:=⟨w.heap.size+1,0,none⟩) jz (.int .i64 170));clear d aD J E ak al hpp;go_wp2_with fail;exact nZ aL.out aH.out rfl rfl ⟨170,none,_,_,_,_,L.out,rfl,lJ _ _,T.out⟩
 | some l,a=>
  obtain⟨v,rfl,H,d⟩:=a;rw[Hz.out]at H;obtain⟨A,c,rfl,aP⟩:=Bs H;have aA:=ReadsS.of_own H;have aD:w.heap.size+2≤y.heap.size:=by have:=d.size;rw[Hz.out]at this;exact this
  have J:=B1.out.below d (by rw[Hz.out];omega);have E:=B2.out.below d (by rw[Hz.out];omega);have ac:=Hb.out.trans (d.mono (by rw[Hz.out];omega));have aE:=(zy y.heap.size y).alloc (zG _) (.cells #[.slice A l.length c] 154);have ad:pE l:=fun x hx=>by have:=ak l (zG _) hpp x hx;exact⟨this.1,by have:=this.2;have:=D.out;omega⟩
  have aY:l.length≤1024:=by have:=al l (zG _) hpp;have:=D.out;omega
  have aG:Rd y.heap.size (y.alloc (.cells #[.slice A l.length c] 154)) y.heap.size l:=
   ⟨⟨A,_,c,Blk.new _ _ _,rfl,aP,(aA.keep fun b o B=>aE.cell (p:=⟨b,o,none⟩) B.2.1).mono fun b B=>⟨B.2.1,by have:=B.2.1;omega⟩⟩,by rw[vM];omega,fun x hx=>(ad x hx).1.ne,jo⟩
  have c1:=(Mt l.length l (zG _) ad).2.2 y.heap.size _ y.heap.size aG;have W:=zh (J.alloc (.cells #[.slice A l.length c] 154));have X:=zh (E.alloc (.cells #[.slice A l.length c] 154));have T:=zh (ac.alloc jo (.cells #[.slice A l.length c] 154));have ag:(y.alloc (.cells #[.slice A l.length c] 154)).heap.size=y.heap.size+1:=jz;have Hsz4:=zh ag;have Hpp:=zh hpp;have Hpa:=zh ad;clear H aA J E ac aE d ad aG ak al hpp B1 B2 Hb ag;go_wp2_with fail;refine c1.mono ?_;rintro e F ⟨o,ay,a⟩;have C:=zh ay;clear c1 ay
  match o,a,C with
  | none,a,C=>
   obtain⟨rfl,z⟩:=a;have M:=W.out.keep4 z jo;have ab:=X.out.keep4 z jo;have V:=xO T.out z jo;unfold lC;refine leaves_cons (f:=96) (args:=#[.pointer (some ⟨w.heap.size,0,none⟩),.pointer (some ⟨w.heap.size+1,0,none⟩)]) jz (by simp[go_sem]) ?_;refine(AX w.heap.size (w.heap.size+1) _ _ _ _ _ 170 [] _ M ab).mono ?_;rintro e u' w9 ⟨rfl,rfl,g1,g2,g3⟩;exact nZ g1 g2 rfl rfl ⟨170,none,_,_,_,_,PrsR.bad D.out Hpp.out C.out,rfl,lJ _ _,(V).trans (g3 w.heap.size (zG _) jo (V).size)⟩
  | some (q,r),a,C=>
   obtain⟨a0,a1,a2,a3,rfl,hF,aF,z⟩:=a;have M:=W.out.keep4 z jo;have ab:=X.out.keep4 z jo;have V:=xO T.out z jo;have aU:y.heap.size+1≤F.heap.size:=by have:=z.size;rw[Hsz4.out]at this;exact this
   obtain⟨K,hK,az⟩:=vB C.out (fun x hx=>(Hpa.out x hx).2) jo;obtain⟨u,k,j,h,m,n,e4⟩:=hF.four;simp only[zQ,and_true]at e4;obtain⟨rfl,rfl,rfl,rfl⟩:=e4;obtain⟨q0,q1,q2,q3,f0,Z,f2,f3⟩:=M.four;rw[Hsz4.out]at hF
   have aB:Hid (QF (set4 F w.heap.size (.int .i64 q.kind) (.string q.name) (.slice u k j) (.slice h m n)) (fun b=>y.heap.size+1≤b∧b<(set4 F w.heap.size (.int .i64 q.kind) (.string q.name) (.slice u k j) (.slice h m n)).heap.size) q [.int .i64 q.kind,.string q.name,.slice u k j,.slice h m n]):=zh
    ((hF.keep fun b _ B=>vP (w:=F) (kL F w.heap.size b _ _ _ _ (by have:=B.1;omega))).mono fun b B=>⟨B.1,by rw[jb];exact B.2⟩)
   have P:=zh (M.set4 (.int .i64 q.kind) (.string q.name) (.slice u k j) (.slice h m n));have R:Hid (Blk (set4 F w.heap.size (.int .i64 q.kind) (.string q.name) (.slice u k j) (.slice h m n)) (w.heap.size+1) 39 #[.int .i64 0]):=zh ((kL F w.heap.size _ _ _ _ _ jo).trans ab);have aN:=mJ F w.heap.size (.int .i64 q.kind) (.string q.name) (.slice u k j) (.slice h m n);obtain⟨A2,n2,c2,av,ar,_,_⟩:=aF.ex;have ai:Blk (set4 F w.heap.size (.int .i64 q.kind) (.string q.name) (.slice u k j) (.slice h m n)) y.heap.size 154 #[.slice A2 n2 c2]:=(kL F w.heap.size _ _ _ _ _ jo).trans av;have aj:=zh (gY V (zG _) (.int .i64 q.kind) (.string q.name) (.slice u k j) (.slice h m n));have aV:=jb F w.heap.size (.int .i64 q.kind) (.string q.name) (.slice u k j) (.slice h m n);have ao:=zh az;clear hF aF z M ab V aN av W X T az;go_wp2_with fail;have ew:set4 F w.heap.size (.int .i64 q.kind) (.string q.name) (.slice u k j) (.slice h m n)=(((F.setCell ⟨w.heap.size,0,none⟩ (.int .i64 q.kind)).setCell ⟨w.heap.size,1,none⟩ (.string q.name)).setCell ⟨w.heap.size,2,none⟩ (.slice u k j)).setCell ⟨w.heap.size,3,none⟩ (.slice h m n):=rfl;rw[←ew];clear ew q0 q1 q2 q3 f0 Z f2 f3;generalize set4 F w.heap.size (.int .i64 q.kind) (.string q.name) (.slice u k j) (.slice h m n)=w6 at *;have aM:y.heap.size<w6.heap.size:=jo
   have G:∀S,zWW w6 S→S.cell? ⟨y.heap.size,0,none⟩=some (.slice A2 n2 c2):=fun S hb=>by
    rw[hb.cell (p:=⟨y.heap.size,0,none⟩) aM];exact ai.cell 0
   have Hcells:=zh G;clear G ai;by_cases h0:r=[]
   case' neg=>
    have aT:((n2:Int)==0)=false:=by
     have:=List.length_pos_iff.2 h0;rw[zM];omega
    have L:=zh (PrsR.left D.out Hpp.out C.out h0);clear h0 ar;refine kJ 10 (fF []) (fun S=>zWW w6 S) (fun w1 w2=>zWW w1 w2) jk jk (fQ) ((zy _ _).drew) ?_;simp only[zX,List.take_zero,zo,List.drop_zero]
    iterate 10
     refine fG _ ?_ rfl jr jr (fun S hC hD=>?_) ?_;rotate_left
     ·have aQ:=Hcells.out S hC;go_simp;all_goals with_reducible rfl
     try simp only[Act.put,zD,zE,zF]
    refine fW (fun wn hC hF=>?_);have g:=zh hC;clear hF hC;go_wp2_with (go_at_call 98;refine(lY _ _).mono ?_;rintro e w' ⟨rfl,rfl⟩);have an:w.heap.size+1<w6.heap.size:=jo;have U:=P.out.below g.out jo;have aa:=R.out.below g.out an;have O:=aj.out.trans (g.out.mono jo);refine leaves_cons (f:=96) (args:=#[.pointer (some ⟨w.heap.size,0,none⟩),.pointer (some ⟨w.heap.size+1,0,none⟩)]) jz (by simp[go_sem]) ?_;refine(AX w.heap.size (w.heap.size+1) _ _ _ _ _ 170 [] _ U aa).mono ?_;rintro e u' w9 ⟨rfl,rfl,g1,g2,g3⟩;exact nZ g1 g2 rfl rfl ⟨170,none,_,_,_,_,L.out,rfl,lJ _ _,(O).trans (g3 w.heap.size (zG _) jo (O).size)⟩
   case' pos=>
    subst h0;obtain rfl:n2=0:=by simpa using ar.symm
    clear ar;refine kJ 10 (fF []) (fun S=>zWW w6 S) (fun w1 w2=>zWW w1 w2) jk jk (fQ) ((zy _ _).drew) ?_;simp only[zX,List.take_zero,zo,List.drop_zero]
    iterate 10
     refine fG _ ?_ rfl jr jr (fun S hC hD=>?_) ?_;rotate_left
     ·have aQ:=Hcells.out S hC;go_simp;all_goals with_reducible rfl
     try simp only[Act.put,zD,zE,zF]
    refine fW (fun wn hC hF=>?_);have g:=zh hC;clear hF hC;have an:w.heap.size+1<w6.heap.size:=jo;have U:=P.out.below g.out jo;have aa:=R.out.below g.out an;have O:=aj.out.trans (g.out.mono jo);have aq:QF wn (fun b=>y.heap.size+1≤b∧b<wn.heap.size) q [.int .i64 q.kind,.string q.name,.slice u k j,.slice h m n]:=aB.out.grow g.out;have aR:=g.out.size;have c8:=LD ao.out wn _ _ _ _ (aq.at_ fun b B=>B.2);obtain⟨q0,q1,q2,q3,f0,Z,f2,f3⟩:=U.four;have ah:=zh U;have af:=zh aa;have ae:=zh aq;have aw:=zh O;clear U aa aq O P R aB aj Hcells g
    go_wp2_with (first
     | (go_at_call 98;refine(mO _ _).mono ?_;rintro e w' ⟨rfl,rfl⟩))
    refine c8.mono ?_;rintro e w8 ⟨rfl,I⟩;clear c8 q0 q1 q2 q3 f0 Z f2 f3;have i:=ah.out.below I jo;have t:=af.out.below I jo;have au:=zh (aw.out.trans (I.mono jo));have am:=zh (ae.out.grow I);have aS:=I.size;clear I ah af ae aw
    cases hmq:gy q with
    | true=>
     have L:=zh (PrsR.many D.out Hpp.out C.out hmq);obtain⟨q0,q1,q2,q3,f0,Z,f2,f3⟩:=i.four;have q4:=t.cell 0;have f4:=t.frozen 0;simp at q4;have BW1:=zh ((i.set4 (.int .i64 0) (.string ⟨#[]⟩) (.slice none 0 0) (.slice none 0 0)).far (p:=⟨w.heap.size+1,0,none⟩) jz (.int .i64 3))
     have BW2:Hid (Blk ((set4 w8 w.heap.size (.int .i64 0) (.string ⟨#[]⟩) (.slice none 0 0) (.slice none 0 0)).setCell ⟨w.heap.size+1,0,none⟩ (.int .i64 3)) (w.heap.size+1) 39 #[.int .i64 3]):=
      zh (by have:=(show Blk (set4 w8 w.heap.size (.int .i64 0) (.string ⟨#[]⟩) (.slice none 0 0) (.slice none 0 0)) (w.heap.size+1) 39 #[.int .i64 0]from(kL w8 w.heap.size _ _ _ _ _ jo).trans t).set_ 0 (.int .i64 3);simpa using this)
     have BWb:=zh ((gY au.out (zG _) (.int .i64 0) (.string ⟨#[]⟩) (.slice none 0 0) (.slice none 0 0)).setCell (p:=⟨w.heap.size+1,0,none⟩) jz (.int .i64 3));clear i t hmq;go_wp2_with fail;refine leaves_cons (f:=96) (args:=#[.pointer (some ⟨w.heap.size,0,none⟩),.pointer (some ⟨w.heap.size+1,0,none⟩)]) jz (by simp[go_sem]) ?_;refine(tT ⟨w.heap.size,0,none⟩ ⟨w.heap.size+1,0,none⟩ _).mono ?_;rintro e u' w9 ⟨rfl,rfl,rfl⟩;exact nZ BW1.out BW2.out rfl rfl ⟨3,none,_,_,_,_,L.out,rfl,lJ _ _,BWb.out⟩
    | false=>
     have Hmq:=zh hmq;have c9:=Ja ao.out hK w8 _ _ _ _ (am.out.at_ fun b B=>B.2);obtain⟨q0,q1,q2,q3,f0,Z,f2,f3⟩:=i.four;have aW:gL q≤16777216:=zY ao.out.depth hK;have H1:=zh i;have H2:=zh t;clear hmq i t;go_wp2_with fail;refine c9.mono ?_;rintro e Y ⟨rfl,N⟩;clear c9 q0 q1 q2 q3 f0 Z f2 f3;have BD1:=H1.out.below N jo;have BD2:=H2.out.below N jo;have Hbd:=zh (au.out.trans (N.mono jo));have aO:=zh (am.out.grow N);clear N H1 H2 am au;by_cases ap:16<gL q
     ·have ax:(16:Int)<(gL q:Int):=jo;have L:=zh (PrsR.deep D.out Hpp.out C.out Hmq.out ap);clear ap;generalize gL q=dq at *;obtain⟨q0,q1,q2,q3,f0,Z,f2,f3⟩:=BD1.four;have q4:=BD2.cell 0;have f4:=BD2.frozen 0;simp at q4;have BW1:=zh ((BD1.set4 (.int .i64 0) (.string ⟨#[]⟩) (.slice none 0 0) (.slice none 0 0)).far (p:=⟨w.heap.size+1,0,none⟩) jz (.int .i64 171))
      have BW2:Hid (Blk ((set4 Y w.heap.size (.int .i64 0) (.string ⟨#[]⟩) (.slice none 0 0) (.slice none 0 0)).setCell ⟨w.heap.size+1,0,none⟩ (.int .i64 171)) (w.heap.size+1) 39 #[.int .i64 171]):=
       zh (by have:=(show Blk (set4 Y w.heap.size (.int .i64 0) (.string ⟨#[]⟩) (.slice none 0 0) (.slice none 0 0)) (w.heap.size+1) 39 #[.int .i64 0]from(kL Y w.heap.size _ _ _ _ _ jo).trans BD2).set_ 0 (.int .i64 171);simpa using this)
      have BWb:=zh ((gY Hbd.out (zG _) (.int .i64 0) (.string ⟨#[]⟩) (.slice none 0 0) (.slice none 0 0)).setCell (p:=⟨w.heap.size+1,0,none⟩) jz (.int .i64 171));clear BD1 BD2;go_wp2_with fail;refine leaves_cons (f:=96) (args:=#[.pointer (some ⟨w.heap.size,0,none⟩),.pointer (some ⟨w.heap.size+1,0,none⟩)]) jz (by simp[go_sem]) ?_;refine(tT ⟨w.heap.size,0,none⟩ ⟨w.heap.size+1,0,none⟩ _).mono ?_;rintro e u' w9 ⟨rfl,rfl,rfl⟩;exact nZ BW1.out BW2.out rfl rfl ⟨171,none,_,_,_,_,L.out,rfl,lJ _ _,BWb.out⟩
     have ax:(gL q:Int)≤16:=jo;have L:=zh (PrsR.ok D.out Hpp.out C.out Hmq.out jo);clear ap;generalize gL q=dq at *;obtain⟨q0,q1,q2,q3,f0,Z,f2,f3⟩:=BD1.four;have q4:=BD2.cell 0;have f4:=BD2.frozen 0;simp at q4;have BW1:=zh ((BD1.set4 (.int .i64 q.kind) (.string q.name) (.slice u k j) (.slice h m n)).far (p:=⟨w.heap.size+1,0,none⟩) jz (.int .i64 0))
     have BW2:Hid (Blk ((set4 Y w.heap.size (.int .i64 q.kind) (.string q.name) (.slice u k j) (.slice h m n)).setCell ⟨w.heap.size+1,0,none⟩ (.int .i64 0)) (w.heap.size+1) 39 #[.int .i64 0]):=
      zh (by have:=(show Blk (set4 Y w.heap.size (.int .i64 q.kind) (.string q.name) (.slice u k j) (.slice h m n)) (w.heap.size+1) 39 #[.int .i64 0]from(kL Y w.heap.size _ _ _ _ _ jo).trans BD2).set_ 0 (.int .i64 0);simpa using this)
     have BWb:=zh ((gY Hbd.out (zG _) (.int .i64 q.kind) (.string q.name) (.slice u k j) (.slice h m n)).setCell (p:=⟨w.heap.size+1,0,none⟩) jz (.int .i64 0))
     have aI:Hid (QF ((set4 Y w.heap.size (.int .i64 q.kind) (.string q.name) (.slice u k j) (.slice h m n)).setCell ⟨w.heap.size+1,0,none⟩ (.int .i64 0)) (fun b=>w.heap.size≤b∧b<((set4 Y w.heap.size (.int .i64 q.kind) (.string q.name) (.slice u k j) (.slice h m n)).setCell ⟨w.heap.size+1,0,none⟩ (.int .i64 0)).heap.size) q [.int .i64 q.kind,.string q.name,.slice u k j,.slice h m n]):=zh
      ((aO.out.keep fun b o B=>vP (w:=Y) ((vN _ ⟨w.heap.size+1,0,none⟩ _ b (by show b≠w.heap.size+1;have:=B.1;omega)).trans (kL Y w.heap.size b _ _ _ _ (by have:=B.1;omega)))).mono fun b B=>⟨by have:=B.1;omega,by simpa[World.setCell,jb]using B.2⟩)
     clear BD1 BD2;go_wp2_with fail;refine leaves_cons (f:=96) (args:=#[.pointer (some ⟨w.heap.size,0,none⟩),.pointer (some ⟨w.heap.size+1,0,none⟩)]) jz (by simp[go_sem]) ?_;refine(tT ⟨w.heap.size,0,none⟩ ⟨w.heap.size+1,0,none⟩ _).mono ?_;rintro e u' w9 ⟨rfl,rfl,rfl⟩;exact nZ BW1.out BW2.out rfl rfl ⟨0,some q,_,_,_,_,L.out,rfl,aI.out,BWb.out⟩
end Qp
end Go.Proofs.YtmomjpolkkbhnaaGreat
