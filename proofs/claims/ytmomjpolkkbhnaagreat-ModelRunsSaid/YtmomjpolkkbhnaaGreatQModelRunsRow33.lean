/- (*Model).Do (printed by gen_mdn.py). -/
import Derived.Test.YtmomjpolkkbhnaaGreatQModelRunsRow28
import Derived.Test.YtmomjpolkkbhnaaGreatQModelRunsRow32
set_option linter.unusedSimpArgs false
set_option linter.unusedVariables false
set_option maxRecDepth 20000
set_option maxHeartbeats 100000000
open Go.Proofs.Tryz
namespace Go.Proofs.YtmomjpolkkbhnaaGreat
namespace Md
open Go.RowKit Ut Tk Qy Qp Ev Cu
open Hi (OwnB)
structure RqAt (w:World) (r:Rq) (z:Rw):Prop where
 ev:EvsAt w w.heap.size z.E z.en z.ec r.evs
 cur:Reads w w.heap.size 1 z.C z.cn (bv r.cur)
 cn:z.cn≤140737488351232∧z.cn≤z.cc∧(z.C=none→z.cc=0)
 ti:∀e∈r.evs,I64 e.1
 nw:I64 r.now
 wd:r.width≤9223372036854775807
theorem RqAt.below{w w':World}{r:Rq}{z:Rw}(h:RqAt w r z)(hb:zWW w w'):RqAt w' r z:=⟨h.ev.grow hb,(h.cur.below hb).more hb.size,h.cn,h.ti,h.nw,h.wd⟩
def Ten(cs:Array Value):Prop:=cs.size=10∧cs.all (·.oneCell')=true
theorem ten(e s f:Int)(A B C:Option Addr)(a1 a2 b1 b2 c1 c2:Nat)(p q r t:Int):Ten (rsC e s f (.slice A a1 a2) (.slice B b1 b2) (.slice C c1 c2) p q r t):=⟨rfl,by simp[rsC,Value.oneCell']⟩
theorem wE{w:World}{g base k n:Nat}{T:TypeId}{v:Value}{xs:List Value}(h:w.ownsRow base T k v n xs)(hT:T≠42)(hg:Blk w g 42 rs0)(cs:Array Value){b':Nat}(hb:b'≤base):(w.setRow g cs).ownsRow b' T k v n xs:=
 lH (gz h (fun b hb=>vL w g b cs (fun e=>by
  subst e
  exact hT ((fO h hb).one ⟨_,_,hg⟩)))) hb
section
variable {w:World} {b b' g:Nat} {m:M} {r:Rq} {cs ds:Array Value}
theorem SeR.row(h:SeR b w m r cs)(hb:b'≤b)(hg:Blk w g 42 rs0):SeR b' (w.setRow g ds) m r cs:=by
 obtain⟨E,o,a,h|h|⟨q,D,A,c,j,i,d,f,l,k⟩⟩:=h
 ·exact⟨E,o,a,.inl h⟩
 ·exact⟨E,o,a,.inr (.inl h)⟩
 exact⟨E,o,a,.inr (.inr ⟨q,D,A,c,j,i,d,f,l8 (l.mono hb) (fun b hb=>vL w g b _ (fun e=>by
  subst e;rcases hb with hb|hb
  ·exact absurd (hb.one ⟨_,_,hg⟩) jd
  exact absurd (hb.one ⟨_,_,hg⟩) jd)),k⟩)⟩
theorem SeR.ten(h:SeR b w m r cs):Ten cs:=by
 obtain⟨E,o,f,⟨_,rfl⟩|⟨_,_,rfl⟩|⟨q,D,A,c,i,e,a,d,j,rfl⟩⟩:=h<;>exact Md.ten ..
theorem OpR.row(h:OpR b w r cs)(hb:b'≤b)(hg:Blk w g 42 rs0):OpR b' (w.setRow g ds) r cs:=by
 obtain⟨E,o,a,h|h|⟨v,f,e,c,d⟩⟩:=h
 ·exact⟨E,o,a,.inl h⟩
 ·exact⟨E,o,a,.inr (.inl h)⟩
 exact⟨E,o,a,.inr (.inr ⟨v,f,e,wE c jd hg _ hb,d⟩)⟩
theorem OpR.ten(h:OpR b w r cs):Ten cs:=by
 obtain⟨E,o,f,⟨_,rfl⟩|⟨_,_,rfl⟩|⟨v,d,e,a,rfl⟩⟩:=h
 ·exact Md.ten ..
 ·exact Md.ten ..
 obtain⟨A,c,rfl,_⟩:=Ev.fP a;exact Md.ten ..
theorem HgR.row(h:HgR w m r b cs)(hb:b'≤b)(hg:Blk w g 42 rs0):HgR (w.setRow g ds) m r b' cs:=by
 obtain⟨E,o,a,h|h|⟨q,D,i,f,d,e,c|⟨c,v,k,j⟩⟩⟩:=h
 ·exact⟨E,o,a,.inl h⟩
 ·exact⟨E,o,a,.inr (.inl h)⟩
 ·exact⟨E,o,a,.inr (.inr ⟨q,D,i,f,d,e,.inl c⟩)⟩
 exact⟨E,o,a,.inr (.inr ⟨q,D,i,f,d,e,.inr ⟨c,v,wE k jd hg _ hb,j⟩⟩)⟩
theorem HgR.ten(h:HgR w m r b cs):Ten cs:=by
 obtain⟨E,o,i,⟨_,rfl⟩|⟨_,_,rfl⟩|⟨q,D,j,f,d,e,⟨_,rfl⟩|⟨k,v,a,rfl⟩⟩⟩:=h
 ·exact Md.ten ..
 ·exact Md.ten ..
 ·exact Md.ten ..
 obtain⟨A,c,rfl,_⟩:=Ev.fP a;exact Md.ten ..
theorem TlR.row(h:TlR w m r b cs)(hb:b'≤b)(hg:Blk w g 42 rs0):TlR (w.setRow g ds) m r b' cs:=by
 obtain⟨a,q,E,d,h|h|⟨n,p,l,k,i,j,f|⟨f,A,c,v,s,o,t⟩⟩⟩:=h
 ·exact⟨a,q,E,d,.inl h⟩
 ·exact⟨a,q,E,d,.inr (.inl h)⟩
 ·exact⟨a,q,E,d,.inr (.inr ⟨n,p,l,k,i,j,.inl f⟩)⟩
 exact⟨a,q,E,d,.inr (.inr ⟨n,p,l,k,i,j,.inr ⟨f,A,c,v,l8 (s.mono hb) (fun b hb=>vL w g b _ (fun e=>by
  subst e;rcases hb with hb|hb
  ·exact absurd (hb.one ⟨_,_,hg⟩) jd
  exact absurd (hb.one ⟨_,_,hg⟩) jd)),wE o jd hg _ hb,t⟩⟩)⟩
theorem TlR.ten(h:TlR w m r b cs):Ten cs:=by
 obtain⟨a,q,E,n,⟨_,rfl⟩|⟨_,_,rfl⟩|⟨o,p,k,j,f,i,⟨_,rfl⟩|⟨t,A,c,v,l,d,rfl⟩⟩⟩:=h
 ·exact Md.ten ..
 ·exact Md.ten ..
 ·exact Md.ten ..
 obtain⟨e,s,rfl,_⟩:=Ev.fP d;exact Md.ten ..
end
def DoR(base:Nat)(w':World)(m:M)(r:Rq)(m':M)(cs:Array Value):Prop:=
 (r.op=1∧m'=(ing m r).1∧cs=(ing m r).2)∨(r.op=2∧m'={ m with acked:=(m.ds.length:Nat) }∧cs=rs0)∨(r.op=3∧m'=nP m r.now∧cs=rsC (mE m r.now) 0 0 nil nil nil 0 0 0 0)∨((r.op=4∨r.op=5)∧m'=m∧cs=rs0) ∨
 (r.op=6∧m'=nS m∧cs=kz m)∨(r.op=7∧m'=m∧SeR base w' m r cs)∨(r.op=8∧m'=m∧HgR w' m r base cs)∨(r.op=9∧m'=m∧OpR base w' r cs)∨(r.op=10∧m'=m∧TlR w' m r base cs)∨(r.op=11∧m'=m∧cs=mh m) ∨
 (¬(1≤r.op∧r.op≤11)∧m'=m∧cs=rsC 272 0 0 nil nil nil 0 0 0 0)
def DoP(n0 X K:Nat)(v:Value)(m:M)(r:Rq)(w:World)(e:Ending)(w':World):Prop:=∃v' m' cs,e=.returned (.agg cs)∧DoR w.heap.size w' m r m' cs∧At w' n0 X (K+64) v' m'∧Chg (fun b=>b=X∨v.ownBlock=some b) w w'∧((7≤r.op→zWW w w'∧v'=v)∧OwnN w v v')
theorem oC{O:Nat→Prop}{w w':World}{g:Nat}{T:TypeId}{cs:Array Value}(h:Chg O w w')(hb:Blk w g T cs)(hn:¬O g):Blk w' g T cs:=(h.block g hb.lt hn).trans hb
theorem Ld(m:M)(r:Rq):Ten (ing m r).2:=by
 unfold ing
 split
 ·exact ten ..
 split
 ·exact ten ..
 split
 ·exact ten ..
 exact ten ..
theorem Le(m:M):Ten (kz m):=by
 unfold kz
 split
 ·exact ten ..
 exact ten ..
section
variable {w:World} {n0 X K:Nat} {v:Value} {m:M}
theorem qO(h:At w n0 X K v m)(hK:K≤59000)(hX:n0≤X)(r:Rq)(z:Rw)(hr0:RqAt w r z) :
  Calls prog 11 #[.pointer (some ⟨X,0,none⟩),.agg (rqC r z)] w (DoP n0 X K v m r w):=by
 have hb:zWW w ((w.alloc (.cells (rqC r z) 37)).alloc (.cells rs0 42)):=(zRR _).alloc jz _;have hq:=(Blk.new w 37 (rqC r z)).alloc (.cells rs0 42);have hr:=Blk.new (w.alloc (.cells (rqC r z) 37)) 42 rs0;have z1:(w.alloc (.cells (rqC r z) 37)).heap.size=w.heap.size+1:=jz;rw[z1]at hr;have t:=zh (h.below hb);have Z:=zh hq;have S:=zh hr;have n:=zh hb;have ai:w.heap.size+2≤(World.heap ((w.alloc (.cells (rqC r z) 37)).alloc (.cells rs0 42))).size:=jz;have ah:=h.blk.lt;have I:=zh (hr0.below hb);have N:¬(w.heap.size+1=X):=jo
 have ac:Hid (¬(v.ownBlock=some (w.heap.size+1))):=zh (fun e=>by
  obtain⟨aj,_,g2,_⟩:=h.own.ex;have:=(fO g2 e).lt
  omega)
 have HN:Hid (∀wx,zWW w wx→Calls prog 26 #[.pointer (some ⟨X,0,none⟩)] wx fun e w'=>e=.returned (.bool false)∧wx=w'):=zh (fun wx hb=>qz (h.below hb).blk);have T:Hid (∀(e:Ending) (w':World),(∃v' m' cs,e=.returned (.agg cs)∧DoR w.heap.size w' m r m' cs∧At w' n0 X (K+64) v' m'∧Chg (fun b=>b=X∨v.ownBlock=some b) w w'∧((7≤r.op→zWW w w'∧v'=v)∧OwnN w v v'))→DoP n0 X K v m r w e w'):=zh (fun e w' h=>h);clear h hb hq hr z1 hr0;go_enter func11,ntmps11
 go_upto_region 1 with(fail);generalize ((w.alloc (.cells (rqC r z) 37)).alloc (.cells rs0 42))=w1 at *;go_wp2_with fail;refine(HN.out w1 n.out).mono ?_;rintro e s ⟨rfl,rfl⟩;have D:=Z.out.cell 0;have O:=Z.out.cell 1;have H:=Z.out.cell 2;have E:=Z.out.cell 3;have P:=Z.out.cell 4;have G:=Z.out.cell 5;have B:=Z.out.cell 6;have F:=Z.out.cell 7;have A:=Z.out.cell 8;have J:=Z.out.cell 9;have q:=Z.out.cell 10;simp only[rqC,zA,zB,zC]at D O H E P G B F A J q;have aa:=n.out.size;have ag:∀(fn:Fn) (first cap:Array Value) (w:World),(Instr.makeFunc fn first cap).run prog w=.ok (.func fn first cap) w:=fun _ _ _ _=>rfl
 clear HN
 go_upto_region 4 with(fail);by_cases u:r.op=1
 ·have e1:(r.op==1)=true:=by rw[u];rfl
  have f:=zh u;clear u;go_wp2_with fail;refine(Fw t.out jo r z I.out.ev I.out.ti hX).mono ?_;rintro e s ⟨v2,rfl,l,i,ab⟩;have c:Hid (Blk s (w.heap.size+1) 42 rs0):=zh (oC i S.out (fun e=>e.elim N ac.out));have a:Hid (Ten ((ing m r).2)):=zh (Ld m r);have d:=zh (And.intro l (And.intro i ab));clear l i ab D O H E P G B F A J q;have j:=zh (zz _ (w.heap.size+1) _ ((ing m r).2) _ _ c.out);go_wp2_with (refine zx (o:=⟨none,.store 42 _ _,_,_,_,_⟩) rfl 42 _ _ rfl (w.heap.size+1) ((ing m r).2) rfl rfl 42 rs0 c.out (a.out.1 ▸ (by kernel_rfl:(prog.info? 42).map (·.size)=some 10)) a.out.1.symm a.out.2 ?_);refine zw (fA rfl rfl (zv _ (w.heap.size+1) 42 42 _ (0,0) _ j.out underlying42 rfl (a.out.1 ▸ (by kernel_rfl:(prog.info? 42).map (·.size)=some 10)))) rfl ?_;exact T.out _ _ ⟨_,_,_,rfl,.inl ⟨f.out,rfl,rfl⟩,d.out.1.row c.out _,iA ((iG n.out).trans d.out.2.1 (fun x V=>.inl V)) (zZ _) _,⟨fun U=>by rw[f.out]at U;omega,d.out.2.2.of n.out.size⟩⟩
 have e1:(r.op==1)=false:=by rw[zM];exact u
 by_cases y:r.op=2
 ·have e2:(r.op==2)=true:=by rw[y];rfl
  have f:=zh y;clear u y;go_wp2_with fail;refine(JU t.out r z).mono ?_;rintro e s ⟨rfl,l,i⟩;have c:Hid (Blk s (w.heap.size+1) 42 rs0):=zh (oC i S.out (N));have a:Hid (Ten (rs0)):=zh (ten ..);have d:=zh (And.intro l i);clear l i D O H E P G B F A J q;have j:=zh (zz _ (w.heap.size+1) _ (rs0) _ _ c.out);go_wp2_with (refine zx (o:=⟨none,.store 42 _ _,_,_,_,_⟩) rfl 42 _ _ rfl (w.heap.size+1) (rs0) rfl rfl 42 rs0 c.out (a.out.1 ▸ (by kernel_rfl:(prog.info? 42).map (·.size)=some 10)) a.out.1.symm a.out.2 ?_);refine zw (fA rfl rfl (zv _ (w.heap.size+1) 42 42 _ (0,0) _ j.out underlying42 rfl (a.out.1 ▸ (by kernel_rfl:(prog.info? 42).map (·.size)=some 10)))) rfl ?_;exact T.out _ _ ⟨_,_,_,rfl,.inr (.inl ⟨f.out,rfl,rfl⟩),(d.out.1.row c.out _).more (Nat.le_add_right _ _),iA ((iG n.out).trans d.out.2 (fun x V=>.inl (.inl V))) (zZ _) _,⟨fun U=>by rw[f.out]at U;omega,.inl rfl⟩⟩
 have e2:(r.op==2)=false:=by rw[zM];exact y
 by_cases C:r.op=3
 ·have e3:(r.op==3)=true:=by rw[C];rfl
  have f:=zh C;clear u y C;go_wp2_with fail;refine(JV t.out r z I.out.nw).mono ?_;rintro e s ⟨rfl,l,i⟩;have c:Hid (Blk s (w.heap.size+1) 42 rs0):=zh (oC i S.out (N));have a:Hid (Ten (rsC (mE m r.now) 0 0 nil nil nil 0 0 0 0)):=zh (ten ..);have d:=zh (And.intro l i);clear l i D O H E P G B F A J q;have j:=zh (zz _ (w.heap.size+1) _ (rsC (mE m r.now) 0 0 nil nil nil 0 0 0 0) _ _ c.out);go_wp2_with (refine zx (o:=⟨none,.store 42 _ _,_,_,_,_⟩) rfl 42 _ _ rfl (w.heap.size+1) (rsC (mE m r.now) 0 0 nil nil nil 0 0 0 0) rfl rfl 42 rs0 c.out (a.out.1 ▸ (by kernel_rfl:(prog.info? 42).map (·.size)=some 10)) a.out.1.symm a.out.2 ?_);refine zw (fA rfl rfl (zv _ (w.heap.size+1) 42 42 _ (0,0) _ j.out underlying42 rfl (a.out.1 ▸ (by kernel_rfl:(prog.info? 42).map (·.size)=some 10)))) rfl ?_;exact T.out _ _ ⟨_,_,_,rfl,.inr (.inr (.inl ⟨f.out,rfl,rfl⟩)),(d.out.1.row c.out _).more (Nat.le_add_right _ _),iA ((iG n.out).trans d.out.2 (fun x V=>.inl (.inl V))) (zZ _) _,⟨fun U=>by rw[f.out]at U;omega,.inl rfl⟩⟩
 have e3:(r.op==3)=false:=by rw[zM];exact C
 by_cases R:r.op=4
 ·have e4:(r.op==4)=true:=by rw[R];rfl
  have f:=zh R;clear u y C R;go_wp2_with fail;refine(xu t.out r z).mono ?_;rintro e s ⟨rfl,l,i⟩;have c:Hid (Blk s (w.heap.size+1) 42 rs0):=zh (oC i S.out (N));have a:Hid (Ten (rs0)):=zh (ten ..);have d:=zh (And.intro l i);clear l i D O H E P G B F A J q;have j:=zh (zz _ (w.heap.size+1) _ (rs0) _ _ c.out);go_wp2_with (refine zx (o:=⟨none,.store 42 _ _,_,_,_,_⟩) rfl 42 _ _ rfl (w.heap.size+1) (rs0) rfl rfl 42 rs0 c.out (a.out.1 ▸ (by kernel_rfl:(prog.info? 42).map (·.size)=some 10)) a.out.1.symm a.out.2 ?_);refine zw (fA rfl rfl (zv _ (w.heap.size+1) 42 42 _ (0,0) _ j.out underlying42 rfl (a.out.1 ▸ (by kernel_rfl:(prog.info? 42).map (·.size)=some 10)))) rfl ?_;exact T.out _ _ ⟨_,_,_,rfl,.inr (.inr (.inr (.inl ⟨.inl f.out,rfl,rfl⟩))),(d.out.1.row c.out _).more (Nat.le_add_right _ _),iA ((iG n.out).trans d.out.2 (fun x V=>.inl (.inl V))) (zZ _) _,⟨fun U=>by rw[f.out]at U;omega,.inl rfl⟩⟩
 have e4:(r.op==4)=false:=by rw[zM];exact R
 by_cases W:r.op=5
 ·have e5:(r.op==5)=true:=by rw[W];rfl
  have f:=zh W;clear u y C R W;go_wp2_with fail;refine(xu t.out r z).mono ?_;rintro e s ⟨rfl,l,i⟩;have c:Hid (Blk s (w.heap.size+1) 42 rs0):=zh (oC i S.out (N));have a:Hid (Ten (rs0)):=zh (ten ..);have d:=zh (And.intro l i);clear l i D O H E P G B F A J q;have j:=zh (zz _ (w.heap.size+1) _ (rs0) _ _ c.out);go_wp2_with (refine zx (o:=⟨none,.store 42 _ _,_,_,_,_⟩) rfl 42 _ _ rfl (w.heap.size+1) (rs0) rfl rfl 42 rs0 c.out (a.out.1 ▸ (by kernel_rfl:(prog.info? 42).map (·.size)=some 10)) a.out.1.symm a.out.2 ?_);refine zw (fA rfl rfl (zv _ (w.heap.size+1) 42 42 _ (0,0) _ j.out underlying42 rfl (a.out.1 ▸ (by kernel_rfl:(prog.info? 42).map (·.size)=some 10)))) rfl ?_;exact T.out _ _ ⟨_,_,_,rfl,.inr (.inr (.inr (.inl ⟨.inr f.out,rfl,rfl⟩))),(d.out.1.row c.out _).more (Nat.le_add_right _ _),iA ((iG n.out).trans d.out.2 (fun x V=>.inl (.inl V))) (zZ _) _,⟨fun U=>by rw[f.out]at U;omega,.inl rfl⟩⟩
 have e5:(r.op==5)=false:=by rw[zM];exact W
 by_cases h6:r.op=6
 ·have e6:(r.op==6)=true:=by rw[h6];rfl
  have f:=zh h6;clear u y C R W h6;go_wp2_with fail;refine(Fe t.out r z).mono ?_;rintro e s ⟨rfl,l,i⟩;have c:Hid (Blk s (w.heap.size+1) 42 rs0):=zh (oC i S.out (N));have a:Hid (Ten (kz m)):=zh (Le m);have d:=zh (And.intro l i);clear l i D O H E P G B F A J q;have j:=zh (zz _ (w.heap.size+1) _ (kz m) _ _ c.out);go_wp2_with (refine zx (o:=⟨none,.store 42 _ _,_,_,_,_⟩) rfl 42 _ _ rfl (w.heap.size+1) (kz m) rfl rfl 42 rs0 c.out (a.out.1 ▸ (by kernel_rfl:(prog.info? 42).map (·.size)=some 10)) a.out.1.symm a.out.2 ?_);refine zw (fA rfl rfl (zv _ (w.heap.size+1) 42 42 _ (0,0) _ j.out underlying42 rfl (a.out.1 ▸ (by kernel_rfl:(prog.info? 42).map (·.size)=some 10)))) rfl ?_;exact T.out _ _ ⟨_,_,_,rfl,.inr (.inr (.inr (.inr (.inl ⟨f.out,rfl,rfl⟩)))),(d.out.1.row c.out _).more (Nat.le_add_right _ _),iA ((iG n.out).trans d.out.2 (fun x V=>.inl (.inl V))) (zZ _) _,⟨fun U=>by rw[f.out]at U;omega,.inl rfl⟩⟩
 have e6:(r.op==6)=false:=by rw[zM];exact h6
 by_cases h7:r.op=7
 ·have e7:(r.op==7)=true:=by rw[h7];rfl
  have f:=zh h7;clear u y C R W h6 h7;go_wp2_with fail;refine(tV t.out jo r z).mono ?_;rintro e s ⟨cs,rfl,k,p⟩;have c:Hid (Blk s (w.heap.size+1) 42 rs0):=zb S k;have a:Hid (Ten (cs)):=zh (p.ten);have d:=zh (And.intro k p);clear k p D O H E P G B F A J q;have j:=zh (zz _ (w.heap.size+1) _ (cs) _ _ c.out);go_wp2_with (refine zx (o:=⟨none,.store 42 _ _,_,_,_,_⟩) rfl 42 _ _ rfl (w.heap.size+1) (cs) rfl rfl 42 rs0 c.out (a.out.1 ▸ (by kernel_rfl:(prog.info? 42).map (·.size)=some 10)) a.out.1.symm a.out.2 ?_);refine zw (fA rfl rfl (zv _ (w.heap.size+1) 42 42 _ (0,0) _ j.out underlying42 rfl (a.out.1 ▸ (by kernel_rfl:(prog.info? 42).map (·.size)=some 10)))) rfl ?_;exact T.out _ _ ⟨v,m,_,rfl,.inr (.inr (.inr (.inr (.inr (.inl ⟨f.out,rfl,d.out.2.row aa c.out⟩))))),(((t.out.below d.out.1).row c.out _).more (Nat.le_add_right _ _)),iA (iG (n.out.trans (d.out.1.mono n.out.size))) (zZ _) _,⟨fun _=>⟨vI (n.out.trans (d.out.1.mono n.out.size)) (zZ _) _,rfl⟩,.inl rfl⟩⟩
 have e7:(r.op==7)=false:=by rw[zM];exact h7
 by_cases h8:r.op=8
 ·have e8:(r.op==8)=true:=by rw[h8];rfl
  have f:=zh h8;clear u y C R W h6 h7 h8;go_wp2_with fail;refine(Jq t.out jo r z I.out.wd).mono ?_;rintro e s ⟨cs,rfl,k,p⟩;have c:Hid (Blk s (w.heap.size+1) 42 rs0):=zb S k;have a:Hid (Ten (cs)):=zh (p.ten);have d:=zh (And.intro k p);clear k p D O H E P G B F A J q;have j:=zh (zz _ (w.heap.size+1) _ (cs) _ _ c.out);go_wp2_with (refine zx (o:=⟨none,.store 42 _ _,_,_,_,_⟩) rfl 42 _ _ rfl (w.heap.size+1) (cs) rfl rfl 42 rs0 c.out (a.out.1 ▸ (by kernel_rfl:(prog.info? 42).map (·.size)=some 10)) a.out.1.symm a.out.2 ?_);refine zw (fA rfl rfl (zv _ (w.heap.size+1) 42 42 _ (0,0) _ j.out underlying42 rfl (a.out.1 ▸ (by kernel_rfl:(prog.info? 42).map (·.size)=some 10)))) rfl ?_;exact T.out _ _ ⟨v,m,_,rfl,.inr (.inr (.inr (.inr (.inr (.inr (.inl ⟨f.out,rfl,d.out.2.row aa c.out⟩)))))),(((t.out.below d.out.1).row c.out _).more (Nat.le_add_right _ _)),iA (iG (n.out.trans (d.out.1.mono n.out.size))) (zZ _) _,⟨fun _=>⟨vI (n.out.trans (d.out.1.mono n.out.size)) (zZ _) _,rfl⟩,.inl rfl⟩⟩
 have e8:(r.op==8)=false:=by rw[zM];exact h8
 by_cases h9:r.op=9
 ·have e9:(r.op==9)=true:=by rw[h9];rfl
  have f:=zh h9;clear u y C R W h6 h7 h8 h9;go_wp2_with fail;refine(Jk t.out r z).mono ?_;rintro e s ⟨cs,rfl,k,p⟩;have c:Hid (Blk s (w.heap.size+1) 42 rs0):=zb S k;have a:Hid (Ten (cs)):=zh (p.ten);have d:=zh (And.intro k p);clear k p D O H E P G B F A J q;have j:=zh (zz _ (w.heap.size+1) _ (cs) _ _ c.out);go_wp2_with (refine zx (o:=⟨none,.store 42 _ _,_,_,_,_⟩) rfl 42 _ _ rfl (w.heap.size+1) (cs) rfl rfl 42 rs0 c.out (a.out.1 ▸ (by kernel_rfl:(prog.info? 42).map (·.size)=some 10)) a.out.1.symm a.out.2 ?_);refine zw (fA rfl rfl (zv _ (w.heap.size+1) 42 42 _ (0,0) _ j.out underlying42 rfl (a.out.1 ▸ (by kernel_rfl:(prog.info? 42).map (·.size)=some 10)))) rfl ?_;exact T.out _ _ ⟨v,m,_,rfl,.inr (.inr (.inr (.inr (.inr (.inr (.inr (.inl ⟨f.out,rfl,d.out.2.row aa c.out⟩))))))),(((t.out.below d.out.1).row c.out _).more (Nat.le_add_right _ _)),iA (iG (n.out.trans (d.out.1.mono n.out.size))) (zZ _) _,⟨fun _=>⟨vI (n.out.trans (d.out.1.mono n.out.size)) (zZ _) _,rfl⟩,.inl rfl⟩⟩
 have e9:(r.op==9)=false:=by rw[zM];exact h9
 by_cases L:r.op=10
 ·have ae:(r.op==10)=true:=by rw[L];rfl
  have f:=zh L;clear u y C R W h6 h7 h8 h9 L;go_wp2_with fail;refine(Jl t.out jo r z I.out.cur I.out.cn).mono ?_;rintro e s ⟨cs,rfl,k,p⟩;have c:Hid (Blk s (w.heap.size+1) 42 rs0):=zb S k;have a:Hid (Ten (cs)):=zh (p.ten);have d:=zh (And.intro k p);clear k p D O H E P G B F A J q;have j:=zh (zz _ (w.heap.size+1) _ (cs) _ _ c.out);go_wp2_with (refine zx (o:=⟨none,.store 42 _ _,_,_,_,_⟩) rfl 42 _ _ rfl (w.heap.size+1) (cs) rfl rfl 42 rs0 c.out (a.out.1 ▸ (by kernel_rfl:(prog.info? 42).map (·.size)=some 10)) a.out.1.symm a.out.2 ?_);refine zw (fA rfl rfl (zv _ (w.heap.size+1) 42 42 _ (0,0) _ j.out underlying42 rfl (a.out.1 ▸ (by kernel_rfl:(prog.info? 42).map (·.size)=some 10)))) rfl ?_;exact T.out _ _ ⟨v,m,_,rfl,.inr (.inr (.inr (.inr (.inr (.inr (.inr (.inr (.inl ⟨f.out,rfl,d.out.2.row aa c.out⟩)))))))),(((t.out.below d.out.1).row c.out _).more (Nat.le_add_right _ _)),iA (iG (n.out.trans (d.out.1.mono n.out.size))) (zZ _) _,⟨fun _=>⟨vI (n.out.trans (d.out.1.mono n.out.size)) (zZ _) _,rfl⟩,.inl rfl⟩⟩
 have ae:(r.op==10)=false:=by rw[zM];exact L
 by_cases Y:r.op=11
 ·have ad:(r.op==11)=true:=by rw[Y];rfl
  have f:=zh Y;clear u y C R W h6 h7 h8 h9 L Y;go_wp2_with fail;refine(Gy t.out jo r z).mono ?_;rintro e s ⟨rfl,k⟩;have c:Hid (Blk s (w.heap.size+1) 42 rs0):=zb S k;have a:Hid (Ten (mh m)):=zh (ten ..);have d:=zh (And.intro k trivial);clear k D O H E P G B F A J q;have j:=zh (zz _ (w.heap.size+1) _ (mh m) _ _ c.out);go_wp2_with (refine zx (o:=⟨none,.store 42 _ _,_,_,_,_⟩) rfl 42 _ _ rfl (w.heap.size+1) (mh m) rfl rfl 42 rs0 c.out (a.out.1 ▸ (by kernel_rfl:(prog.info? 42).map (·.size)=some 10)) a.out.1.symm a.out.2 ?_);refine zw (fA rfl rfl (zv _ (w.heap.size+1) 42 42 _ (0,0) _ j.out underlying42 rfl (a.out.1 ▸ (by kernel_rfl:(prog.info? 42).map (·.size)=some 10)))) rfl ?_;exact T.out _ _ ⟨v,m,_,rfl,.inr (.inr (.inr (.inr (.inr (.inr (.inr (.inr (.inr (.inl ⟨f.out,rfl,rfl⟩))))))))),(((t.out.below d.out.1).row c.out _).more (Nat.le_add_right _ _)),iA (iG (n.out.trans (d.out.1.mono n.out.size))) (zZ _) _,⟨fun _=>⟨vI (n.out.trans (d.out.1.mono n.out.size)) (zZ _) _,rfl⟩,.inl rfl⟩⟩
 have ad:(r.op==11)=false:=by rw[zM];exact Y
 have af:Hid (¬(1≤r.op∧r.op≤11)):=zh jo;clear u y C R W h6 h7 h8 h9 L Y;go_wp2_with fail;refine(iy 272 w1).mono ?_;rintro e s ⟨rfl,k⟩;have c:=zb S k;have d:=zh (And.intro k trivial);clear k D O H E P G B F A J q;have j:=zh (zz _ (w.heap.size+1) _ (rsC 272 0 0 nil nil nil 0 0 0 0) _ _ c.out);go_wp2_with (refine zx (o:=⟨none,.store 42 _ _,_,_,_,_⟩) rfl 42 _ _ rfl (w.heap.size+1) (rsC 272 0 0 nil nil nil 0 0 0 0) rfl rfl 42 rs0 c.out jk rfl (by simp[rsC,Value.oneCell']) ?_);refine zw (fA rfl rfl (zv _ (w.heap.size+1) 42 42 _ (0,0) _ j.out underlying42 rfl jk)) rfl ?_;exact T.out _ _ ⟨v,m,_,rfl,.inr (.inr (.inr (.inr (.inr (.inr (.inr (.inr (.inr (.inr (⟨af.out,rfl,rfl⟩)))))))))),(((t.out.below d.out.1).row c.out _).more (Nat.le_add_right _ _)),iA (iG (n.out.trans (d.out.1.mono n.out.size))) (zZ _) _,⟨fun _=>⟨vI (n.out.trans (d.out.1.mono n.out.size)) (zZ _) _,rfl⟩,.inl rfl⟩⟩
end
end Md
end Go.Proofs.YtmomjpolkkbhnaaGreat
