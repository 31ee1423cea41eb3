/- What is read of pieces is not too great: plain. -/
import Derived.Defers
import Derived.Test.YtmomjpolkkbhnaaGreatQModelCountsRow22
set_option linter.unusedSimpArgs false
set_option maxRecDepth 20000
set_option maxHeartbeats 100000000
open Go.Proofs.Tryz
namespace Go.Proofs.YtmomjpolkkbhnaaGreat
namespace Qp
open Go.RowKit Ut Tk Qy
theorem pF(s:P):(words s).length≤s.length:=by
 have:=iW (str s);rw[bE,←aB,bE]at this;exact this
theorem wJ(nm:P)(l:List P)(q:Q)(hl:l.length≤1048576)(h:bN nm l=some q):QW 1 q:=by
 unfold bN at h
 split at h
 ·cases h
 split at h
 ·injection h with h;subst h;exact .mk (by rw[List.length_map];omega) jz jz
 injection h with h;subst h;exact .mk (by rw[List.length_map];omega) jz jz
theorem Fc(s:P):(bB s).length≤s.length:=by
 unfold bB
 split
 ·rw[zP];omega
 exact zG _
theorem IK(s:P)(q:Q)(hl:s.length≤1048576)(h:aV s=some q):QW 1 q:=by
 unfold aV at h;have hr:=Fc s
 split at h
 ·injection h with h;subst h;exact .mk jz jz jz
 split at h
 ·cases h
 split at h
 ·refine wJ _ _ q ?_ h;have:=pF (((bB s).take ((bB s).length-1)).drop 1);rw[zP,zK]at this;omega
 split at h
 ·split at h
  ·injection h with h;subst h;exact .mk jz jz jz
  split at h
  ·injection h with h;subst h;have:=pF (bB s).dropLast;rw[List.length_dropLast]at this;exact .mk (by rw[List.length_map];omega) jz jz
  cases h
 refine wJ _ _ q ?_ h;have:=pF (bB s);omega
theorem yC(k:Int)(a:List Q)(K:Nat)(hl:a.length≤8796093021952)(h:∀x∈a,QW K x):QW (K+1) (af k a):=by
 match a,hl,h with
 | [q],_,h=>exact(h q jz).more _ jo
 | [],hl,h=>exact .mk jz hl h
 | q::q'::a,hl,h=>exact .mk jz hl h
def Kb(m:Md)(l:List P)(q:Q):Prop:=
 match m with
 | .part=>∀K,4*l.length≤K+3→QW K q
 | .and a=>∀K,4*l.length≤K+3→(∀x∈a,QW K x)→a.length+l.length≤1048577→QW (K+1) q
 | .andT a=>∀K,4*l.length≤K+3→(∀x∈a,QW K x)→a.length+l.length≤1048577→QW (K+1) q
 | .or a=>∀K,4*l.length≤K+3→(∀x∈a,QW (K+1) x)→a.length+l.length≤1048577→QW (K+2) q
 | .orT a=>∀K,4*l.length≤K+3→(∀x∈a,QW (K+1) x)→a.length+l.length≤1048577→QW (K+2) q
theorem R.wide{m:Md}{l:List P}{o:Option (Q × List P)}(h:R m l o)(hp:∀x∈l,x.length≤1048576)(hm:l.length≤1048576):∀q r,o=some (q,r)→Kb m l q:=by
 induction h with
 | pnil=>intro q r e;cases e
 | pnot hs h ih=>
  intro q r e K hK;obtain⟨⟨q',r'⟩,h1,h2⟩:=Option.map_eq_some_iff.1 e;simp only[Prod.mk.injEq]at h2;obtain⟨rfl,_⟩:=h2;rw[zV]at hK hm;have:=ih (fun x hx=>hp x (by simp[hx])) jo q' r' h1;obtain⟨K2,rfl⟩:∃K2,K=K2+1:=⟨K-1,jo⟩;exact .mk jz jz fun x hx=>by rw[List.mem_singleton]at hx;rw[hx];exact this K2 jo
 | @plp s t o hs h ih=>
  intro q r e K hK
  match o,e,h,ih with
  | some (q',s'::r'),e,h,ih=>
   by_cases hp':s'=RP
   ·have e2:closed (some (q',s'::r'))=some (q',r'):=zI hp';rw[e2]at e;simp only[Option.some.injEq,Prod.mk.injEq]at e;obtain⟨rfl,_⟩:=e;rw[zV]at hK hm;obtain⟨k,hk1,hk2,hk3⟩:=h.less _ _ rfl;have hk4:1≤k:=hk3 (.inr (.inr ⟨_,rfl⟩));have:=ih (fun x hx=>hp x (by simp[hx])) jo q' _ rfl (4*t.length-3) jo jz jm;exact this.more _ jo
   have e2:closed (some (q',s'::r'))=none:=zH hp';rw[e2]at e
   cases e
  | some (q',[]),e,_,_=>cases e
  | none,e,_,_=>cases e
 | pbad hs=>intro q r e;cases e
 | pleaf hs=>
  intro q r e K hK;obtain⟨q',h1,h2⟩:=Option.map_eq_some_iff.1 e;simp only[Prod.mk.injEq]at h2;obtain⟨rfl,_⟩:=h2;rw[zV]at hK;exact(IK _ _ (hp _ jz) h1).more _ jo
 | and0 h ih=>intro q r e;cases e
 | and1 h h2 ih ih2=>
  intro q r e K hK ha hn;obtain⟨k,rfl,hk,h1⟩:=h.less _ _ rfl;have hk1:=h1 (.inl rfl);have hq:=ih hp hm _ _ rfl K hK;rw[zP]at ih2
  have:=ih2 (fun x hx=>hp x (List.mem_of_mem_drop hx)) jo q r e K (by rw[zP];omega) (fun x hx=>by
   rcases List.mem_append.1 hx with hx|hx
   ·exact ha x hx
   rw[List.mem_singleton]at hx;rw[hx];exact hq) (by rw[zJ,zj,zP];omega)
  exact this
 | andE h=>
  intro q r e K hK ha hn;simp only[Option.some.injEq,Prod.mk.injEq]at e;obtain⟨rfl,_⟩:=e;exact yC _ _ K jo ha
 | andA hs h ih=>
  intro q r e K hK ha hn;rw[zV]at hK hm hn;exact ih (fun x hx=>hp x (by simp[hx])) jo q r e K jo ha jo
 | andN hs hn h ih=>
  intro q r e K hK ha hn;exact ih hp hm q r e K hK ha hn
 | or0 h ih=>intro q r e;cases e
 | or1 h h2 ih ih2=>
  intro q r e K hK ha hn;obtain⟨k,rfl,hk,h1⟩:=h.less _ _ rfl;have hk1:=h1 (.inr (.inl ⟨_,rfl⟩));have hq:=ih hp hm _ _ rfl K hK jz jm;rw[zP]at ih2
  exact ih2 (fun x hx=>hp x (List.mem_of_mem_drop hx)) jo q r e K (by rw[zP];omega) (fun x hx=>by
   rcases List.mem_append.1 hx with hx|hx
   ·exact ha x hx
   rw[List.mem_singleton]at hx;rw[hx];exact hq) (by rw[zJ,zj,zP];omega)
 | orE h=>
  intro q r e K hK ha hn;simp only[Option.some.injEq,Prod.mk.injEq]at e;obtain⟨rfl,_⟩:=e;exact yC _ _ (K+1) jo ha
 | orO hs h ih=>
  intro q r e K hK ha hn;rw[zV]at hK hm hn;exact ih (fun x hx=>hp x (by simp[hx])) jo q r e K jo ha jo
theorem qK{l:List P}{q:Q}{r:List P}(h:R (.or []) l (some (q,r)))(hp:∀x∈l,x.length≤1048576)(hm:l.length≤1048576):∃K,K≤16777216∧QW K q:=
 ⟨4*l.length+2,jo,h.wide hp hm q r rfl (4*l.length) jo jz jm⟩
inductive PrsR:P→Int→Option Q→Prop
 | long {s} (h:1024<s.length):PrsR s 2 none
 | noPieces {s} (h:s.length≤1024) (hp:aK s=none):PrsR s 170 none
 | bad {s l} (h:s.length≤1024) (hp:aK s=some l) (hr:R (.or []) l none):PrsR s 170 none
 | left {s l q r} (h:s.length≤1024) (hp:aK s=some l) (hr:R (.or []) l (some (q,r))) (hl:r≠[]):PrsR s 170 none
 | many {s l q} (h:s.length≤1024) (hp:aK s=some l) (hr:R (.or []) l (some (q,[]))) (hm:bV q=true):PrsR s 3 none
 | deep {s l q} (h:s.length≤1024) (hp:aK s=some l) (hr:R (.or []) l (some (q,[]))) (hm:bV q=false) (hd:16<bC q):PrsR s 171 none
 | ok {s l q} (h:s.length≤1024) (hp:aK s=some l) (hr:R (.or []) l (some (q,[]))) (hm:bV q=false) (hd:bC q≤16):PrsR s 0 (some q)
theorem PrsR.det{s:P}{e e':Int}{o o':Option Q}(h:PrsR s e o)(h':PrsR s e' o'):e=e'∧o=o':=by
 have key:∀ {l l':List P} {x x':Option (Q × List P)},aK s=some l→aK s=some l'→R (.or []) l x→R (.or []) l' x'→x=x':=fun hp hp' hr hr'=>by
  rw[hp]at hp';injection hp' with hp';subst hp';exact hr.det _ hr'
 cases h with
 | long h=>cases h' with
  | long _=>exact⟨rfl,rfl⟩
  | _=>omega
 | noPieces h hp=>cases h' with
  | long _=>omega
  | noPieces _ _=>exact⟨rfl,rfl⟩
  | bad _ _ _=>exact⟨rfl,rfl⟩
  | left _ _ _ _=>exact⟨rfl,rfl⟩
  | many _ hp' _ _=>rw[hp]at hp';cases hp'
  | deep _ hp' _ _ _=>rw[hp]at hp';cases hp'
  | ok _ hp' _ _ _=>rw[hp]at hp';cases hp'
 | bad h hp hr=>cases h' with
  | long _=>omega
  | noPieces _ _=>exact⟨rfl,rfl⟩
  | bad _ _ _=>exact⟨rfl,rfl⟩
  | left _ _ _ _=>exact⟨rfl,rfl⟩
  | many _ hp' hr' _=>exact absurd (key hp hp' hr hr') jz
  | deep _ hp' hr' _ _=>exact absurd (key hp hp' hr hr') jz
  | ok _ hp' hr' _ _=>exact absurd (key hp hp' hr hr') jz
 | left h hp hr hl=>cases h' with
  | long _=>omega
  | noPieces _ _=>exact⟨rfl,rfl⟩
  | bad _ _ _=>exact⟨rfl,rfl⟩
  | left _ _ _ _=>exact⟨rfl,rfl⟩
  | many _ hp' hr' _=>have:=key hp hp' hr hr';simp at this;exact absurd this.2 hl
  | deep _ hp' hr' _ _=>have:=key hp hp' hr hr';simp at this;exact absurd this.2 hl
  | ok _ hp' hr' _ _=>have:=key hp hp' hr hr';simp at this;exact absurd this.2 hl
 | many h hp hr hm=>cases h' with
  | long _=>omega
  | noPieces _ hp'=>rw[hp]at hp';cases hp'
  | bad _ hp' hr'=>exact absurd (key hp hp' hr hr') jz
  | left _ hp' hr' hl=>have:=key hp hp' hr hr';simp at this;exact absurd this.2 hl
  | many _ _ _ _=>exact⟨rfl,rfl⟩
  | deep _ hp' hr' hm' _=>have:=key hp hp' hr hr';simp at this;subst this;rw[hm]at hm';cases hm'
  | ok _ hp' hr' hm' _=>have:=key hp hp' hr hr';simp at this;subst this;rw[hm]at hm';cases hm'
 | deep h hp hr hm hd=>cases h' with
  | long _=>omega
  | noPieces _ hp'=>rw[hp]at hp';cases hp'
  | bad _ hp' hr'=>exact absurd (key hp hp' hr hr') jz
  | left _ hp' hr' hl=>have:=key hp hp' hr hr';simp at this;exact absurd this.2 hl
  | many _ hp' hr' hm'=>have:=key hp hp' hr hr';simp at this;subst this;rw[hm]at hm';cases hm'
  | deep _ _ _ _ _=>exact⟨rfl,rfl⟩
  | ok _ hp' hr' _ hd'=>have:=key hp hp' hr hr';simp at this;subst this;omega
 | ok h hp hr hm hd=>cases h' with
  | long _=>omega
  | noPieces _ hp'=>rw[hp]at hp';cases hp'
  | bad _ hp' hr'=>exact absurd (key hp hp' hr hr') jz
  | left _ hp' hr' hl=>have:=key hp hp' hr hr';simp at this;exact absurd this.2 hl
  | many _ hp' hr' hm'=>have:=key hp hp' hr hr';simp at this;subst this;rw[hm]at hm';cases hm'
  | deep _ hp' hr' _ hd'=>have:=key hp hp' hr hr';simp at this;subst this;omega
  | ok _ hp' hr' _ _=>have:=key hp hp' hr hr';simp at this;subst this;exact⟨rfl,rfl⟩
end Qp

namespace Qp
open Go.RowKit Ut Tk Qy
theorem Jl(v:Value)(xT:TypeId)(w:World):(Instr.typeAssert (.iface 149 v) xT 149 true).run prog w=.ok (.tuple #[v,.bool true]) w:=by
 have hu:=underlying149;simp[Instr.typeAssert,run_underlying hu,go_sem,Result.andThen]
theorem oQ(p1 p2:Addr)(w:World) :
  CallsD prog 96 #[.pointer (some p1),.pointer (some p2)] .returning w fun e u' w'=>e=.returned (.tuple #[])∧u'=.returning∧w'=w:=by
 refine callsD_of_wpS func96 rfl fun c₀ cs hu=>?_
 apply wpS_seq;apply wpS_region;simp[wpOpsS,go_sem,recoverD,hu,ntmps96,Exit.thenS];refine wpS_of_wp ?_;go_wp2
 cases c₀
 simp_all[bodyPostS,results,Tryz.results96]
theorem uT(b1 b2:Nat)(x0 x1 x2 x3 x4:Value)(z:Int)(older:List PanicEntry)(w:World)
  (h1:Blk w b1 60 #[x0,x1,x2,x3]) (h2:Blk w b2 39 #[x4]) :
  CallsD prog 96 #[.pointer (some ⟨b1,0,none⟩),.pointer (some ⟨b2,0,none⟩)] (.panicking ({ v:=.iface 149 (.agg #[.int .i64 z]),recovered:=false }::older)) w fun e u' w'=>
   e=.returned (.tuple #[])∧u'=.panicking ({ v:=.iface 149 (.agg #[.int .i64 z]),recovered:=true }::older) ∧
   Blk w' b1 60 #[.int .i64 0,.string ⟨#[]⟩,.slice none 0 0,.slice none 0 0]∧Blk w' b2 39 #[.int .i64 z]∧(∀B,B≤b1→B≤b2→B≤w.heap.size→Below B w w'):=by
 refine callsD_of_wpS func96 rfl fun c₀ cs hu=>?_
 apply wpS_seq;apply wpS_region;simp[wpOpsS,go_sem,recoverD,hu,ntmps96,Exit.thenS];refine wpS_of_wp ?_;obtain⟨q0,q1,q2,q3,f0,f1,f2,f3⟩:=h1.four;have q4:=h2.cell 0;have f4:=h2.frozen 0;simp at q4;have hta:=Jl;have hl1:=h1.lt;have hl2:=h2.lt;have hne:=h1.ne_ h2 jd;have hne1:b1≠w.heap.size:=jo;have hne2:b2≠w.heap.size:=jo;have H1:=zh h1;have H2:=zh h2;clear h1 h2;simp only[show Array.replicate 12 undef=#[undef,undef,undef,undef,undef,undef,undef,undef,undef,undef,undef,undef]from rfl,zD,zF,zE,List.append_toArray,List.cons_append,List.nil_append];go_wp2;go_region;have g1:=(((H1.out.set4 (.int .i64 0) (.string ⟨#[]⟩) (.slice none 0 0) (.slice none 0 0)).far (p:=⟨b2,0,none⟩) hne (.int .i64 z)).alloc (.cells #[.int .i64 z] 149)).drew;have g2:Blk (set4 w b1 (.int .i64 0) (.string ⟨#[]⟩) (.slice none 0 0) (.slice none 0 0)) b2 39 #[x4]:=(dw w b1 b2 _ _ _ _ (fun e=>hne e.symm)).trans H2.out;have g3:=((g2.set_ 0 (.int .i64 z)).alloc (.cells #[.int .i64 z] 149)).drew
 have g4:∀B,B≤b1→B≤b2→B≤w.heap.size→Below B w (((set4 w b1 (.int .i64 0) (.string ⟨#[]⟩) (.slice none 0 0) (.slice none 0 0)).setCell ⟨b2,0,none⟩ (.int .i64 z)).alloc (.cells #[.int .i64 z] 149)).drew:=fun B h1 h2 h3=>
  ((((bP (zw B w) h1 _ _ _ _).setCell (p:=⟨b2,0,none⟩) h2 _).alloc (by simpa[World.setCell,dQ]using h3) _).drew)
 unfold set4 at g1 g3 g4;generalize (World.alloc _ (.cells #[.int .i64 z] 149)).drew=X at *;rename_i QQ;simp[QQ,Exit.inBlock,bodyPostS,results,Tryz.results96];exact⟨g1,by simpa using g3,g4⟩
end Qp

namespace Qp
open Go.RowKit Ut Tk Qy
def noQ:Q:=.mk 0 ByteArray.empty [] []
def xH(w:World)(s:P)(e:Ending)(w':World):Prop:=
 ∃(E:Int) (o:Option Q) (a0 a1 a2 a3:Value),PrsR s E o∧e=.returned (.tuple #[.agg #[a0,a1,a2,a3],.int .i64 E])∧QF w' (fun b=>w.heap.size≤b∧b<w'.heap.size) (o.getD noQ) [a0,a1,a2,a3]∧zWW w w'
theorem fF(w:World)(S:Nat→Prop):QF w S noQ [.int .i64 0,.string ⟨#[]⟩,.slice none 0 0,.slice none 0 0]:=
 .mk (nm:=⟨#[]⟩) [] rfl (by simpa using ReadsS.none_) rfl rfl jz ReadsS.none_ (fun i hi=>absurd hi jz)
theorem xI{w:World}{base:Nat}{e:TypeId}{size n:Nat}{v:Value}{xs:List Value}(h:w.ownsRow base e size v n xs):∃A c,v=.slice A n c∧n≤c:=by
 rcases h.2 with⟨rfl,rfl⟩|⟨g,cap,cur,rfl,_,_,hc,_⟩
 ·exact⟨_,_,rfl,zG _⟩
 exact⟨_,_,rfl,hc⟩
theorem BB{tmps:Array Value}{W:World}{b1 b2:Nat}{a0 a1 a2 a3:Value}{z:Int}(h1:tmps.getD 2 undef=.pointer (some ⟨b1,0,none⟩))(h2:tmps.getD 3 undef=.pointer (some ⟨b2,0,none⟩))(B1:Blk W b1 60 #[a0,a1,a2,a3])(B2:Blk W b2 39 #[.int .i64 z]) :
  (results Tryz.f65 tmps).run prog W=.ok (.tuple #[.agg #[a0,a1,a2,a3],.int .i64 z]) W:=by
 have l1:=zr (P:=prog) W b1 60 60 #[a0,a1,a2,a3] (0,0) _ B1 underlying60 rfl jk
 have l2:(loadVar 39 ⟨b2,0,none⟩).run prog W=.ok (.int .i64 z) W:=by
  have c:=B2.cell 0;simp at c;simp[go_sem,c]
 have h1':tmps[2]?.getD undef=.pointer (some ⟨b1,0,none⟩):=by simpa using h1
 have h2':tmps[3]?.getD undef=.pointer (some ⟨b2,0,none⟩):=by simpa using h2
 simp[results,Tryz.results65,h1',h2',asAddr,l1,l2]
theorem iX{tmps:Array Value}{W:World}{b1 b2:Nat}{a0 a1 a2 a3:Value}{z:Int}{R:Ending→World→Prop}(B1:Blk W b1 60 #[a0,a1,a2,a3])(B2:Blk W b2 39 #[.int .i64 z])(h1:tmps.getD 2 undef=.pointer (some ⟨b1,0,none⟩))(h2:tmps.getD 3 undef=.pointer (some ⟨b2,0,none⟩))
  (hR:R (.returned (.tuple #[.agg #[a0,a1,a2,a3],.int .i64 z])) W):Leaves prog Tryz.f65 tmps R [] .returning W:=⟨_,BB h1 h2 B1 B2,hR⟩
theorem kr(s:ByteArray)(w:World):Calls prog 65 #[.string s] w (xH w s.data.toList):=by
 have hmf:∀(fn:Fn) (first cap:Array Value) (w:World),(Instr.makeFunc fn first cap).run prog w=.ok (.func fn first cap) w:=fun _ _ _ _=>rfl
 by_cases hs:1024<s.size
 ·have hs':(1024:Int)<(s.size:Int):=jo;have HP:=zh (PrsR.long (s:=s.data.toList) (by rw[aB];exact hs));have hbl:=zh (((zw w.heap.size w).alloc (zG _) (.cells #[.int .i64 0,.string ⟨#[]⟩,.slice none 0 0,.slice none 0 0] 60)).alloc jz (.cells #[.int .i64 2] 39));clear hs
  go_enter_defers func65,ntmps65
  go_wp2;exact iX (Blk.alloc (Blk.new w 60 #[.int .i64 0,.string ⟨#[]⟩,.slice none 0 0,.slice none 0 0]) _) (by have:=Blk.new (w.alloc (.cells #[.int .i64 0,.string ⟨#[]⟩,.slice none 0 0,.slice none 0 0] 60)) 39 #[.int .i64 2];rw[vK]at this;exact this) rfl rfl ⟨2,none,_,_,_,_,HP.out,rfl,fF _ _,hbl.out⟩
 have hs':(s.size:Int)≤1024:=jo;have hs1:s.data.toList.length≤1024:=by rw[aB];omega
 have c0:=Bz s ((w.alloc (.cells #[.int .i64 0,.string ByteArray.empty,.slice none 0 0,.slice none 0 0] 60)).alloc (.cells #[.int .i64 0] 39)) jo;have hpc:=o7 s.data.toList.length s.data.toList;have hpm:=oG s.data.toList.length s.data.toList;have B1:=zh ((Blk.new w 60 #[.int .i64 0,.string ByteArray.empty,.slice none 0 0,.slice none 0 0]).alloc (.cells #[.int .i64 0] 39));have B2:Hid (Blk ((w.alloc (.cells #[.int .i64 0,.string ByteArray.empty,.slice none 0 0,.slice none 0 0] 60)).alloc (.cells #[.int .i64 0] 39)) (w.heap.size+1) 39 #[.int .i64 0]):=zh (by have:=Blk.new (w.alloc (.cells #[.int .i64 0,.string ByteArray.empty,.slice none 0 0,.slice none 0 0] 60)) 39 #[.int .i64 0];rw[vK]at this;exact this);have Hb:=zh (((zw w.heap.size w).alloc (zG _) (.cells #[.int .i64 0,.string ByteArray.empty,.slice none 0 0,.slice none 0 0] 60)).alloc jz (.cells #[.int .i64 0] 39));have hz:(World.heap ((w.alloc (.cells #[.int .i64 0,.string ByteArray.empty,.slice none 0 0,.slice none 0 0] 60)).alloc (.cells #[.int .i64 0] 39))).size=w.heap.size+2:=jz;have Hz:=zh hz;have Hs1:=zh hs1;clear hz hs hs1
 go_enter_defers func65,ntmps65
 go_wp2_with fail;refine c0.mono ?_;intro e w3 hpost;clear c0
 match hpp:aK s.data.toList,hpost with
 | none,hpost=>
  obtain⟨rfl,hb3⟩:=hpost;have HP:=zh (PrsR.noPieces Hs1.out hpp);have hsz:=hb3.size;have B13:=B1.out.below hb3 (by rw[Hz.out];omega);have B23:=B2.out.below hb3 (by rw[Hz.out];omega);have Hb3:=zh (Hb.out.trans (hb3.mono (by rw[Hz.out];omega)));obtain⟨q0,q1,q2,q3,f0,f1,f2,f3⟩:=B13.four;have q4:=B23.cell 0;have f4:=B23.frozen 0;simp at q4;have B14:=zh ((B13.set4 (.int .i64 0) (.string ⟨#[]⟩) (.slice none 0 0) (.slice none 0 0)).far (p:=⟨w.heap.size+1,0,none⟩) jz (.int .i64 170))
  have B24:Hid (Blk ((set4 w3 w.heap.size (.int .i64 0) (.string ⟨#[]⟩) (.slice none 0 0) (.slice none 0 0)).setCell ⟨w.heap.size+1,0,none⟩ (.int .i64 170)) (w.heap.size+1) 39 #[.int .i64 170]):=
   zh (by have:=(show Blk (set4 w3 w.heap.size (.int .i64 0) (.string ⟨#[]⟩) (.slice none 0 0) (.slice none 0 0)) (w.heap.size+1) 39 #[.int .i64 0]from(dw w3 w.heap.size _ _ _ _ _ jo).trans B23).set_ 0 (.int .i64 170);simpa using this)
  have Hb4:=zh ((bP Hb3.out (zG _) (.int .i64 0) (.string ⟨#[]⟩) (.slice none 0 0) (.slice none 0 0)).setCell (p:=⟨w.heap.size+1,0,none⟩) jz (.int .i64 170));clear hb3 hsz B13 B23 hpc hpm hpp;go_wp2_with fail;exact iX B14.out B24.out rfl rfl ⟨170,none,_,_,_,_,HP.out,rfl,fF _ _,Hb4.out⟩
 | some l,hpost=>
  obtain⟨v,rfl,hown,hb3⟩:=hpost;rw[Hz.out]at hown;obtain⟨A,c,rfl,hnc⟩:=xI hown;have hR0:=ReadsS.of_own hown;have hsz:w.heap.size+2≤w3.heap.size:=by have:=hb3.size;rw[Hz.out]at this;exact this
  have B13:=B1.out.below hb3 (by rw[Hz.out];omega);have B23:=B2.out.below hb3 (by rw[Hz.out];omega);have Hb3:=Hb.out.trans (hb3.mono (by rw[Hz.out];omega));have hbx:=(zw w3.heap.size w3).alloc (zG _) (.cells #[.slice A l.length c] 154);have hpa:kM l:=fun x hx=>by have:=hpc l (zG _) hpp x hx;exact⟨this.1,by have:=this.2;have:=Hs1.out;omega⟩
  have hlm:l.length≤1024:=by have:=hpm l (zG _) hpp;have:=Hs1.out;omega
  have hRd:Rd w3.heap.size (w3.alloc (.cells #[.slice A l.length c] 154)) w3.heap.size l:=
   ⟨⟨A,_,c,Blk.new _ _ _,rfl,hnc,(hR0.keep fun b o hS=>hbx.cell (p:=⟨b,o,none⟩) hS.2.1).mono fun b hS=>⟨hS.2.1,by have:=hS.2.1;omega⟩⟩,by rw[vK];omega,fun x hx=>(hpa x hx).1.ne,jo⟩
  have c1:=(Jk l.length l (zG _) hpa).2.2 w3.heap.size _ w3.heap.size hRd;have HB14:=zh (B13.alloc (.cells #[.slice A l.length c] 154));have HB24:=zh (B23.alloc (.cells #[.slice A l.length c] 154));have Hb4:=zh (Hb3.alloc jo (.cells #[.slice A l.length c] 154));have hsz4:(w3.alloc (.cells #[.slice A l.length c] 154)).heap.size=w3.heap.size+1:=jz;have Hsz4:=zh hsz4;have Hpp:=zh hpp;have Hpa:=zh hpa;clear hown hR0 B13 B23 Hb3 hbx hb3 hpa hRd hpc hpm hpp B1 B2 Hb hsz4;go_wp2_with fail;refine c1.mono ?_;rintro e w5 ⟨o,hRo,hpost⟩;have HRo:=zh hRo;clear c1 hRo
  match o,hpost,HRo with
  | none,hpost,HRo=>
   obtain⟨rfl,hg5⟩:=hpost;have B15:=HB14.out.keep4 hg5 jo;have B25:=HB24.out.keep4 hg5 jo;have Hb5:=rP Hb4.out hg5 jo;unfold eu;refine leaves_cons (f:=96) (args:=#[.pointer (some ⟨w.heap.size,0,none⟩),.pointer (some ⟨w.heap.size+1,0,none⟩)]) jz (by simp[go_sem]) ?_;refine(uT w.heap.size (w.heap.size+1) _ _ _ _ _ 170 [] _ B15 B25).mono ?_;rintro e u' w9 ⟨rfl,rfl,g1,g2,g3⟩;exact iX g1 g2 rfl rfl ⟨170,none,_,_,_,_,PrsR.bad Hs1.out Hpp.out HRo.out,rfl,fF _ _,(Hb5).trans (g3 w.heap.size (zG _) jo (Hb5).size)⟩
  | some (q,r),hpost,HRo=>
   obtain⟨a0,a1,a2,a3,rfl,hF,hR5,hg5⟩:=hpost;have B15:=HB14.out.keep4 hg5 jo;have B25:=HB24.out.keep4 hg5 jo;have Hb5:=rP Hb4.out hg5 jo;have hsz5:w3.heap.size+1≤w5.heap.size:=by have:=hg5.size;rw[Hsz4.out]at this;exact this
   obtain⟨K,hK,hQW⟩:=qK HRo.out (fun x hx=>(Hpa.out x hx).2) jo;obtain⟨A',n',c',C',m',d',e4⟩:=hF.four;simp only[zQ,and_true]at e4;obtain⟨rfl,rfl,rfl,rfl⟩:=e4;obtain⟨q0,q1,q2,q3,f0,f1,f2,f3⟩:=B15.four;rw[Hsz4.out]at hF
   have HF6:Hid (QF (set4 w5 w.heap.size (.int .i64 q.kind) (.string q.name) (.slice A' n' c') (.slice C' m' d')) (fun b=>w3.heap.size+1≤b∧b<(set4 w5 w.heap.size (.int .i64 q.kind) (.string q.name) (.slice A' n' c') (.slice C' m' d')).heap.size) q [.int .i64 q.kind,.string q.name,.slice A' n' c',.slice C' m' d']):=zh
    ((hF.keep fun b _ hS=>vN (w:=w5) (dw w5 w.heap.size b _ _ _ _ (by have:=hS.1;omega))).mono fun b hS=>⟨hS.1,by rw[dQ];exact hS.2⟩)
   have HB16:=zh (B15.set4 (.int .i64 q.kind) (.string q.name) (.slice A' n' c') (.slice C' m' d'));have HB26:Hid (Blk (set4 w5 w.heap.size (.int .i64 q.kind) (.string q.name) (.slice A' n' c') (.slice C' m' d')) (w.heap.size+1) 39 #[.int .i64 0]):=zh ((dw w5 w.heap.size _ _ _ _ _ jo).trans B25);have hg6:=gH w5 w.heap.size (.int .i64 q.kind) (.string q.name) (.slice A' n' c') (.slice C' m' d');obtain⟨A2,n2,c2,hBr,hn2,_,_⟩:=hR5.ex;have hBr6:Blk (set4 w5 w.heap.size (.int .i64 q.kind) (.string q.name) (.slice A' n' c') (.slice C' m' d')) w3.heap.size 154 #[.slice A2 n2 c2]:=(dw w5 w.heap.size _ _ _ _ _ jo).trans hBr;have Hb6:=zh (bP Hb5 (zG _) (.int .i64 q.kind) (.string q.name) (.slice A' n' c') (.slice C' m' d'));have hsz6:=dQ w5 w.heap.size (.int .i64 q.kind) (.string q.name) (.slice A' n' c') (.slice C' m' d');have HQW:=zh hQW;clear hF hR5 hg5 B15 B25 Hb5 hg6 hBr HB14 HB24 Hb4 hQW;go_wp2_with fail;have ew:set4 w5 w.heap.size (.int .i64 q.kind) (.string q.name) (.slice A' n' c') (.slice C' m' d')=(((w5.setCell ⟨w.heap.size,0,none⟩ (.int .i64 q.kind)).setCell ⟨w.heap.size,1,none⟩ (.string q.name)).setCell ⟨w.heap.size,2,none⟩ (.slice A' n' c')).setCell ⟨w.heap.size,3,none⟩ (.slice C' m' d'):=rfl;rw[←ew];clear ew q0 q1 q2 q3 f0 f1 f2 f3;generalize set4 w5 w.heap.size (.int .i64 q.kind) (.string q.name) (.slice A' n' c') (.slice C' m' d')=w6 at *;have hl6:w3.heap.size<w6.heap.size:=jo
   have hcells:∀wx,zWW w6 wx→wx.cell? ⟨w3.heap.size,0,none⟩=some (.slice A2 n2 c2):=fun wx hb=>by
    rw[hb.cell (p:=⟨w3.heap.size,0,none⟩) hl6];exact hBr6.cell 0
   have Hcells:=zh hcells;clear hcells hBr6;by_cases h0:r=[]
   case' neg=>
    have hn2':((n2:Int)==0)=false:=by
     have:=List.length_pos_iff.2 h0;rw[zM];omega
    have HP:=zh (PrsR.left Hs1.out Hpp.out HRo.out h0);clear h0 hn2;refine dm 10 (aI []) (fun wx=>zWW w6 wx) (fun w1 w2=>zWW w1 w2) jk jk (aX) ((zw _ _).drew) ?_;simp only[zX,List.take_zero,zm,List.drop_zero]
    iterate 10
     refine aH _ ?_ rfl jr jr (fun wx hC hD=>?_) ?_;rotate_left
     ·have hSw:=Hcells.out wx hC;go_simp;all_goals with_reducible rfl
     try simp only[Act.put,zD,zE,zF]
    refine ah (fun wn hC hF=>?_);have hbn:=zh hC;clear hF hC;go_wp2_with (go_at_call 98;refine(fU _ _).mono ?_;rintro e w' ⟨rfl,rfl⟩);have hz6:w.heap.size+1<w6.heap.size:=jo;have B17:=HB16.out.below hbn.out jo;have B27:=HB26.out.below hbn.out hz6;have Hb7:=Hb6.out.trans (hbn.out.mono jo);refine leaves_cons (f:=96) (args:=#[.pointer (some ⟨w.heap.size,0,none⟩),.pointer (some ⟨w.heap.size+1,0,none⟩)]) jz (by simp[go_sem]) ?_;refine(uT w.heap.size (w.heap.size+1) _ _ _ _ _ 170 [] _ B17 B27).mono ?_;rintro e u' w9 ⟨rfl,rfl,g1,g2,g3⟩;exact iX g1 g2 rfl rfl ⟨170,none,_,_,_,_,HP.out,rfl,fF _ _,(Hb7).trans (g3 w.heap.size (zG _) jo (Hb7).size)⟩
   case' pos=>
    subst h0;obtain rfl:n2=0:=by simpa using hn2.symm
    clear hn2;refine dm 10 (aI []) (fun wx=>zWW w6 wx) (fun w1 w2=>zWW w1 w2) jk jk (aX) ((zw _ _).drew) ?_;simp only[zX,List.take_zero,zm,List.drop_zero]
    iterate 10
     refine aH _ ?_ rfl jr jr (fun wx hC hD=>?_) ?_;rotate_left
     ·have hSw:=Hcells.out wx hC;go_simp;all_goals with_reducible rfl
     try simp only[Act.put,zD,zE,zF]
    refine ah (fun wn hC hF=>?_);have hbn:=zh hC;clear hF hC;have hz6:w.heap.size+1<w6.heap.size:=jo;have B17:=HB16.out.below hbn.out jo;have B27:=HB26.out.below hbn.out hz6;have Hb7:=Hb6.out.trans (hbn.out.mono jo);have HF7:QF wn (fun b=>w3.heap.size+1≤b∧b<wn.heap.size) q [.int .i64 q.kind,.string q.name,.slice A' n' c',.slice C' m' d']:=HF6.out.grow hbn.out;have hszn:=hbn.out.size;have c8:=IJ HQW.out wn _ _ _ _ (HF7.at_ fun b hS=>hS.2);obtain⟨q0,q1,q2,q3,f0,f1,f2,f3⟩:=B17.four;have HB17:=zh B17;have HB27:=zh B27;have HF7':=zh HF7;have HB7:=zh Hb7;clear B17 B27 HF7 Hb7 HB16 HB26 HF6 Hb6 Hcells hbn
    go_wp2_with (first
     | (go_at_call 98;refine(gM _ _).mono ?_;rintro e w' ⟨rfl,rfl⟩))
    refine c8.mono ?_;rintro e w8 ⟨rfl,hb8⟩;clear c8 q0 q1 q2 q3 f0 f1 f2 f3;have HB18:=HB17.out.below hb8 jo;have HB28:=HB27.out.below hb8 jo;have Hb8:=zh (HB7.out.trans (hb8.mono jo));have HF8:=zh (HF7'.out.grow hb8);have hsz8:=hb8.size;clear hb8 HB17 HB27 HF7' HB7
    cases hmq:bV q with
    | true=>
     have HP:=zh (PrsR.many Hs1.out Hpp.out HRo.out hmq);obtain⟨q0,q1,q2,q3,f0,f1,f2,f3⟩:=HB18.four;have q4:=HB28.cell 0;have f4:=HB28.frozen 0;simp at q4;have BW1:=zh ((HB18.set4 (.int .i64 0) (.string ⟨#[]⟩) (.slice none 0 0) (.slice none 0 0)).far (p:=⟨w.heap.size+1,0,none⟩) jz (.int .i64 3))
     have BW2:Hid (Blk ((set4 w8 w.heap.size (.int .i64 0) (.string ⟨#[]⟩) (.slice none 0 0) (.slice none 0 0)).setCell ⟨w.heap.size+1,0,none⟩ (.int .i64 3)) (w.heap.size+1) 39 #[.int .i64 3]):=
      zh (by have:=(show Blk (set4 w8 w.heap.size (.int .i64 0) (.string ⟨#[]⟩) (.slice none 0 0) (.slice none 0 0)) (w.heap.size+1) 39 #[.int .i64 0]from(dw w8 w.heap.size _ _ _ _ _ jo).trans HB28).set_ 0 (.int .i64 3);simpa using this)
     have BWb:=zh ((bP Hb8.out (zG _) (.int .i64 0) (.string ⟨#[]⟩) (.slice none 0 0) (.slice none 0 0)).setCell (p:=⟨w.heap.size+1,0,none⟩) jz (.int .i64 3));clear HB18 HB28 hmq;go_wp2_with fail;refine leaves_cons (f:=96) (args:=#[.pointer (some ⟨w.heap.size,0,none⟩),.pointer (some ⟨w.heap.size+1,0,none⟩)]) jz (by simp[go_sem]) ?_;refine(oQ ⟨w.heap.size,0,none⟩ ⟨w.heap.size+1,0,none⟩ _).mono ?_;rintro e u' w9 ⟨rfl,rfl,rfl⟩;exact iX BW1.out BW2.out rfl rfl ⟨3,none,_,_,_,_,HP.out,rfl,fF _ _,BWb.out⟩
    | false=>
     have Hmq:=zh hmq;have c9:=FZ HQW.out hK w8 _ _ _ _ (HF8.out.at_ fun b hS=>hS.2);obtain⟨q0,q1,q2,q3,f0,f1,f2,f3⟩:=HB18.four;have hK2:bC q≤16777216:=zY HQW.out.depth hK;have H1:=zh HB18;have H2:=zh HB28;clear hmq HB18 HB28;go_wp2_with fail;refine c9.mono ?_;rintro e wd ⟨rfl,hbd⟩;clear c9 q0 q1 q2 q3 f0 f1 f2 f3;have BD1:=H1.out.below hbd jo;have BD2:=H2.out.below hbd jo;have Hbd:=zh (Hb8.out.trans (hbd.mono jo));have HFd:=zh (HF8.out.grow hbd);clear hbd H1 H2 HF8 Hb8;by_cases hdp:16<bC q
     ·have hdp':(16:Int)<(bC q:Int):=jo;have HP:=zh (PrsR.deep Hs1.out Hpp.out HRo.out Hmq.out hdp);clear hdp;generalize bC q=dq at *;obtain⟨q0,q1,q2,q3,f0,f1,f2,f3⟩:=BD1.four;have q4:=BD2.cell 0;have f4:=BD2.frozen 0;simp at q4;have BW1:=zh ((BD1.set4 (.int .i64 0) (.string ⟨#[]⟩) (.slice none 0 0) (.slice none 0 0)).far (p:=⟨w.heap.size+1,0,none⟩) jz (.int .i64 171))
      have BW2:Hid (Blk ((set4 wd w.heap.size (.int .i64 0) (.string ⟨#[]⟩) (.slice none 0 0) (.slice none 0 0)).setCell ⟨w.heap.size+1,0,none⟩ (.int .i64 171)) (w.heap.size+1) 39 #[.int .i64 171]):=
       zh (by have:=(show Blk (set4 wd w.heap.size (.int .i64 0) (.string ⟨#[]⟩) (.slice none 0 0) (.slice none 0 0)) (w.heap.size+1) 39 #[.int .i64 0]from(dw wd w.heap.size _ _ _ _ _ jo).trans BD2).set_ 0 (.int .i64 171);simpa using this)
      have BWb:=zh ((bP Hbd.out (zG _) (.int .i64 0) (.string ⟨#[]⟩) (.slice none 0 0) (.slice none 0 0)).setCell (p:=⟨w.heap.size+1,0,none⟩) jz (.int .i64 171));clear BD1 BD2;go_wp2_with fail;refine leaves_cons (f:=96) (args:=#[.pointer (some ⟨w.heap.size,0,none⟩),.pointer (some ⟨w.heap.size+1,0,none⟩)]) jz (by simp[go_sem]) ?_;refine(oQ ⟨w.heap.size,0,none⟩ ⟨w.heap.size+1,0,none⟩ _).mono ?_;rintro e u' w9 ⟨rfl,rfl,rfl⟩;exact iX BW1.out BW2.out rfl rfl ⟨171,none,_,_,_,_,HP.out,rfl,fF _ _,BWb.out⟩
     have hdp':(bC q:Int)≤16:=jo;have HP:=zh (PrsR.ok Hs1.out Hpp.out HRo.out Hmq.out jo);clear hdp;generalize bC q=dq at *;obtain⟨q0,q1,q2,q3,f0,f1,f2,f3⟩:=BD1.four;have q4:=BD2.cell 0;have f4:=BD2.frozen 0;simp at q4;have BW1:=zh ((BD1.set4 (.int .i64 q.kind) (.string q.name) (.slice A' n' c') (.slice C' m' d')).far (p:=⟨w.heap.size+1,0,none⟩) jz (.int .i64 0))
     have BW2:Hid (Blk ((set4 wd w.heap.size (.int .i64 q.kind) (.string q.name) (.slice A' n' c') (.slice C' m' d')).setCell ⟨w.heap.size+1,0,none⟩ (.int .i64 0)) (w.heap.size+1) 39 #[.int .i64 0]):=
      zh (by have:=(show Blk (set4 wd w.heap.size (.int .i64 q.kind) (.string q.name) (.slice A' n' c') (.slice C' m' d')) (w.heap.size+1) 39 #[.int .i64 0]from(dw wd w.heap.size _ _ _ _ _ jo).trans BD2).set_ 0 (.int .i64 0);simpa using this)
     have BWb:=zh ((bP Hbd.out (zG _) (.int .i64 q.kind) (.string q.name) (.slice A' n' c') (.slice C' m' d')).setCell (p:=⟨w.heap.size+1,0,none⟩) jz (.int .i64 0))
     have HFe:Hid (QF ((set4 wd w.heap.size (.int .i64 q.kind) (.string q.name) (.slice A' n' c') (.slice C' m' d')).setCell ⟨w.heap.size+1,0,none⟩ (.int .i64 0)) (fun b=>w.heap.size≤b∧b<((set4 wd w.heap.size (.int .i64 q.kind) (.string q.name) (.slice A' n' c') (.slice C' m' d')).setCell ⟨w.heap.size+1,0,none⟩ (.int .i64 0)).heap.size) q [.int .i64 q.kind,.string q.name,.slice A' n' c',.slice C' m' d']):=zh
      ((HFd.out.keep fun b o hS=>vN (w:=wd) ((vL _ ⟨w.heap.size+1,0,none⟩ _ b (by show b≠w.heap.size+1;have:=hS.1;omega)).trans (dw wd w.heap.size b _ _ _ _ (by have:=hS.1;omega)))).mono fun b hS=>⟨by have:=hS.1;omega,by simpa[World.setCell,dQ]using hS.2⟩)
     clear BD1 BD2;go_wp2_with fail;refine leaves_cons (f:=96) (args:=#[.pointer (some ⟨w.heap.size,0,none⟩),.pointer (some ⟨w.heap.size+1,0,none⟩)]) jz (by simp[go_sem]) ?_;refine(oQ ⟨w.heap.size,0,none⟩ ⟨w.heap.size+1,0,none⟩ _).mono ?_;rintro e u' w9 ⟨rfl,rfl,rfl⟩;exact iX BW1.out BW2.out rfl rfl ⟨0,some q,_,_,_,_,HP.out,rfl,HFe.out,BWb.out⟩
end Qp
end Go.Proofs.YtmomjpolkkbhnaaGreat
