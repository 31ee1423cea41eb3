/- (*Model).Do (printed by gen_mdn.py). -/
import Derived.Deep.CutRange
import Derived.Test.YtmomjpolkkbhnaaGreatQModelCountsRow30
import Derived.Test.YtmomjpolkkbhnaaGreatQModelCountsRow32
set_option linter.unusedSimpArgs false
set_option linter.unusedVariables false
set_option maxRecDepth 20000
set_option maxHeartbeats 100000000
open Go.Proofs.Tryz
namespace Go.Proofs.YtmomjpolkkbhnaaGreat
namespace Md
open Go.RowKit Ut Tk Qy Qp Ev Cu
open Hi (OwnB)
structure RqAt (w:World) (r:Rq) (z:Rw):Prop where
 ev:EvsAt w w.heap.size z.E z.en z.ec r.evs
 cur:Reads w w.heap.size 1 z.C z.cn (bv r.cur)
 cn:z.cn≤140737488351232∧z.cn≤z.cc∧(z.C=none→z.cc=0)
 ti:∀e∈r.evs,I64 e.1
 nw:I64 r.now
 wd:r.width≤9223372036854775807
theorem RqAt.below{w w':World}{r:Rq}{z:Rw}(h:RqAt w r z)(hb:zWW w w'):RqAt w' r z:=⟨h.ev.grow hb,(h.cur.below hb).more hb.size,h.cn,h.ti,h.nw,h.wd⟩
def Ten(cs:Array Value):Prop:=cs.size=10∧cs.all (·.oneCell')=true
theorem ten(e s f:Int)(A B C:Option Addr)(a1 a2 b1 b2 c1 c2:Nat)(p q r t:Int):Ten (rsC e s f (.slice A a1 a2) (.slice B b1 b2) (.slice C c1 c2) p q r t):=⟨rfl,by simp[rsC,Value.oneCell']⟩
theorem qY{w:World}{g base k n:Nat}{T:TypeId}{v:Value}{xs:List Value}(h:w.ownsRow base T k v n xs)(hT:T≠42)(hg:Blk w g 42 rs0)(cs:Array Value){b':Nat}(hb:b'≤base):(w.setRow g cs).ownsRow b' T k v n xs:=
 iD (cT h (fun b hb=>vJ w g b cs (fun e=>by
  subst e
  exact hT ((aY h hb).one ⟨_,_,hg⟩)))) hb
section
variable {w:World} {b b' g:Nat} {m:M} {r:Rq} {cs ds:Array Value}
theorem SeR.row(h:SeR b w m r cs)(hb:b'≤b)(hg:Blk w g 42 rs0):SeR b' (w.setRow g ds) m r cs:=by
 obtain⟨E,o,hp,h|h|⟨q,D,A,c,h1,h2,h3,h4,h5,h6⟩⟩:=h
 ·exact⟨E,o,hp,.inl h⟩
 ·exact⟨E,o,hp,.inr (.inl h)⟩
 exact⟨E,o,hp,.inr (.inr ⟨q,D,A,c,h1,h2,h3,h4,lM (h5.mono hb) (fun b hb=>vJ w g b _ (fun e=>by
  subst e;rcases hb with hb|hb
  ·exact absurd (hb.one ⟨_,_,hg⟩) jd
  exact absurd (hb.one ⟨_,_,hg⟩) jd)),h6⟩)⟩
theorem SeR.ten(h:SeR b w m r cs):Ten cs:=by
 obtain⟨E,o,hp,⟨_,rfl⟩|⟨_,_,rfl⟩|⟨q,D,A,c,h1,h2,h3,h4,h5,rfl⟩⟩:=h<;>exact Md.ten ..
theorem OpR.row(h:OpR b w r cs)(hb:b'≤b)(hg:Blk w g 42 rs0):OpR b' (w.setRow g ds) r cs:=by
 obtain⟨E,o,hp,h|h|⟨v,h1,h2,h3,h4⟩⟩:=h
 ·exact⟨E,o,hp,.inl h⟩
 ·exact⟨E,o,hp,.inr (.inl h)⟩
 exact⟨E,o,hp,.inr (.inr ⟨v,h1,h2,qY h3 jd hg _ hb,h4⟩)⟩
theorem OpR.ten(h:OpR b w r cs):Ten cs:=by
 obtain⟨E,o,hp,⟨_,rfl⟩|⟨_,_,rfl⟩|⟨v,h1,h2,h3,rfl⟩⟩:=h
 ·exact Md.ten ..
 ·exact Md.ten ..
 obtain⟨A,c,rfl,_⟩:=Ev.aP h3;exact Md.ten ..
theorem HgR.row(h:HgR w m r b cs)(hb:b'≤b)(hg:Blk w g 42 rs0):HgR (w.setRow g ds) m r b' cs:=by
 obtain⟨E,o,hp,h|h|⟨q,D,h1,h2,h3,h4,h5|⟨h5,v,h6,h7⟩⟩⟩:=h
 ·exact⟨E,o,hp,.inl h⟩
 ·exact⟨E,o,hp,.inr (.inl h)⟩
 ·exact⟨E,o,hp,.inr (.inr ⟨q,D,h1,h2,h3,h4,.inl h5⟩)⟩
 exact⟨E,o,hp,.inr (.inr ⟨q,D,h1,h2,h3,h4,.inr ⟨h5,v,qY h6 jd hg _ hb,h7⟩⟩)⟩
theorem HgR.ten(h:HgR w m r b cs):Ten cs:=by
 obtain⟨E,o,hp,⟨_,rfl⟩|⟨_,_,rfl⟩|⟨q,D,h1,h2,h3,h4,⟨_,rfl⟩|⟨h5,v,h6,rfl⟩⟩⟩:=h
 ·exact Md.ten ..
 ·exact Md.ten ..
 ·exact Md.ten ..
 obtain⟨A,c,rfl,_⟩:=Ev.aP h6;exact Md.ten ..
theorem TlR.row(h:TlR w m r b cs)(hb:b'≤b)(hg:Blk w g 42 rs0):TlR (w.setRow g ds) m r b' cs:=by
 obtain⟨a,q,E,hd,h|h|⟨qq,p,h1,h2,h3,h4,h5|⟨h5,A,c,v,h6,h7,h8⟩⟩⟩:=h
 ·exact⟨a,q,E,hd,.inl h⟩
 ·exact⟨a,q,E,hd,.inr (.inl h)⟩
 ·exact⟨a,q,E,hd,.inr (.inr ⟨qq,p,h1,h2,h3,h4,.inl h5⟩)⟩
 exact⟨a,q,E,hd,.inr (.inr ⟨qq,p,h1,h2,h3,h4,.inr ⟨h5,A,c,v,h6.keep hg jd lS jz (fun b hb=>vJ w g b _ hb),qY h7 jd hg _ hb,h8⟩⟩)⟩
theorem TlR.ten(h:TlR w m r b cs):Ten cs:=by
 obtain⟨a,q,E,hd,⟨_,rfl⟩|⟨_,_,rfl⟩|⟨qq,p,h1,h2,h3,h4,⟨_,rfl⟩|⟨h5,A,c,v,h6,h7,rfl⟩⟩⟩:=h
 ·exact Md.ten ..
 ·exact Md.ten ..
 ·exact Md.ten ..
 obtain⟨A',c',rfl,_⟩:=Ev.aP h7;exact Md.ten ..
end
def DoR(base:Nat)(w':World)(m:M)(r:Rq)(m':M)(cs:Array Value):Prop:=
 (r.op=1∧m'=(ing m r).1∧cs=(ing m r).2)∨(r.op=2∧m'={ m with acked:=(m.ds.length:Nat) }∧cs=rs0)∨(r.op=3∧m'=gm m r.now∧cs=rsC (gB m r.now) 0 0 nil nil nil 0 0 0 0)∨((r.op=4∨r.op=5)∧m'=m∧cs=rs0) ∨
 (r.op=6∧m'=gq m∧cs=fZ m)∨(r.op=7∧m'=m∧SeR base w' m r cs)∨(r.op=8∧m'=m∧HgR w' m r base cs)∨(r.op=9∧m'=m∧OpR base w' r cs)∨(r.op=10∧m'=m∧TlR w' m r base cs)∨(r.op=11∧m'=m∧cs=fH m) ∨
 (¬(1≤r.op∧r.op≤11)∧m'=m∧cs=rsC 272 0 0 nil nil nil 0 0 0 0)
def DoP(n0 X K:Nat)(v:Value)(m:M)(r:Rq)(w:World)(e:Ending)(w':World):Prop:=∃v' m' cs,e=.returned (.agg cs)∧DoR w.heap.size w' m r m' cs∧At w' n0 X (K+64) v' m'∧Chg (fun b=>b=X∨v.ownBlock=some b) w w'∧((7≤r.op→zWW w w'∧v'=v)∧OwnN w v v')
theorem ib{O:Nat→Prop}{w w':World}{g:Nat}{T:TypeId}{cs:Array Value}(h:Chg O w w')(hb:Blk w g T cs)(hn:¬O g):Blk w' g T cs:=(h.block g hb.lt hn).trans hb
theorem Il(m:M)(r:Rq):Ten (ing m r).2:=by
 unfold ing
 split
 ·exact ten ..
 split
 ·exact ten ..
 split
 ·exact ten ..
 exact ten ..
theorem Im(m:M):Ten (fZ m):=by
 unfold fZ
 split
 ·exact ten ..
 exact ten ..
section
variable {w:World} {n0 X K:Nat} {v:Value} {m:M}
theorem gY(h:At w n0 X K v m)(hK:K≤59000)(hX:n0≤X)(r:Rq)(z:Rw)(hr0:RqAt w r z) :
  Calls prog 11 #[.pointer (some ⟨X,0,none⟩),.agg (rqC r z)] w (DoP n0 X K v m r w):=by
 have hb:zWW w ((w.alloc (.cells (rqC r z) 37)).alloc (.cells rs0 42)):=(zRR _).alloc jz _;have hq:=(Blk.new w 37 (rqC r z)).alloc (.cells rs0 42);have hr:=Blk.new (w.alloc (.cells (rqC r z) 37)) 42 rs0;have z1:(w.alloc (.cells (rqC r z) 37)).heap.size=w.heap.size+1:=jz;rw[z1]at hr;have H1:=zh (h.below hb);have HQ:=zh hq;have HR:=zh hr;have HB:=zh hb;have hsw:w.heap.size+2≤(World.heap ((w.alloc (.cells (rqC r z) 37)).alloc (.cells rs0 42))).size:=jz;have hxl:=h.blk.lt;have HRQ:=zh (hr0.below hb);have hgX:¬(w.heap.size+1=X):=jo
 have HGO:Hid (¬(v.ownBlock=some (w.heap.size+1))):=zh (fun e=>by
  obtain⟨vss,_,g2,_⟩:=h.own.ex;have:=(aY g2 e).lt
  omega)
 have HN:Hid (∀wx,zWW w wx→Calls prog 26 #[.pointer (some ⟨X,0,none⟩)] wx fun e w'=>e=.returned (.bool false)∧wx=w'):=zh (fun wx hb=>vG (h.below hb).blk);have HW:Hid (∀(e:Ending) (w':World),(∃v' m' cs,e=.returned (.agg cs)∧DoR w.heap.size w' m r m' cs∧At w' n0 X (K+64) v' m'∧Chg (fun b=>b=X∨v.ownBlock=some b) w w'∧((7≤r.op→zWW w w'∧v'=v)∧OwnN w v v'))→DoP n0 X K v m r w e w'):=zh (fun e w' h=>h);clear h hb hq hr z1 hr0;go_enter func11,ntmps11
 go_upto_region 1 with(fail);generalize ((w.alloc (.cells (rqC r z) 37)).alloc (.cells rs0 42))=w1 at *;go_wp2_with fail;refine(HN.out w1 HB.out).mono ?_;rintro e w2 ⟨rfl,rfl⟩;have q0:=HQ.out.cell 0;have q1:=HQ.out.cell 1;have q2:=HQ.out.cell 2;have q3:=HQ.out.cell 3;have q4:=HQ.out.cell 4;have q5:=HQ.out.cell 5;have q6:=HQ.out.cell 6;have q7:=HQ.out.cell 7;have q8:=HQ.out.cell 8;have q9:=HQ.out.cell 9;have q10:=HQ.out.cell 10;simp only[rqC,zA,zB,zC]at q0 q1 q2 q3 q4 q5 q6 q7 q8 q9 q10;have hs1:=HB.out.size;have hmf:∀(fn:Fn) (first cap:Array Value) (w:World),(Instr.makeFunc fn first cap).run prog w=.ok (.func fn first cap) w:=fun _ _ _ _=>rfl
 clear HN
 go_upto_region 4 with(fail);by_cases h1:r.op=1
 ·have e1:(r.op==1)=true:=by rw[h1];rfl
  have HOP:=zh h1;clear h1;go_wp2_with fail;refine(CW H1.out jo r z HRQ.out.ev HRQ.out.ti hX).mono ?_;rintro e w2 ⟨v2,rfl,ha2,hc2,ho2⟩;have HR2:Hid (Blk w2 (w.heap.size+1) 42 rs0):=zh (ib hc2 HR.out (fun e=>e.elim hgX HGO.out));have HTN:Hid (Ten ((ing m r).2)):=zh (Il m r);have HD2:=zh (And.intro ha2 (And.intro hc2 ho2));clear ha2 hc2 ho2 q0 q1 q2 q3 q4 q5 q6 q7 q8 q9 q10;have HX9:=zh (zx _ (w.heap.size+1) _ ((ing m r).2) _ _ HR2.out);go_wp2_with (refine zv (o:=⟨none,.store 42 _ _,_,_,_,_⟩) rfl 42 _ _ rfl (w.heap.size+1) ((ing m r).2) rfl rfl 42 rs0 HR2.out (HTN.out.1 ▸ (by kernel_rfl:(prog.info? 42).map (·.size)=some 10)) HTN.out.1.symm HTN.out.2 ?_);refine zu (aA rfl rfl (zr _ (w.heap.size+1) 42 42 _ (0,0) _ HX9.out underlying42 rfl (HTN.out.1 ▸ (by kernel_rfl:(prog.info? 42).map (·.size)=some 10)))) rfl ?_;exact HW.out _ _ ⟨_,_,_,rfl,.inl ⟨HOP.out,rfl,rfl⟩,HD2.out.1.row HR2.out _,bW ((bh HB.out).trans HD2.out.2.1 (fun x hx=>.inl hx)) (zZ _) _,⟨fun hh=>by rw[HOP.out]at hh;omega,HD2.out.2.2.of HB.out.size⟩⟩
 have e1:(r.op==1)=false:=by rw[zM];exact h1
 by_cases h2:r.op=2
 ·have e2:(r.op==2)=true:=by rw[h2];rfl
  have HOP:=zh h2;clear h1 h2;go_wp2_with fail;refine(FT H1.out r z).mono ?_;rintro e w2 ⟨rfl,ha2,hc2⟩;have HR2:Hid (Blk w2 (w.heap.size+1) 42 rs0):=zh (ib hc2 HR.out (hgX));have HTN:Hid (Ten (rs0)):=zh (ten ..);have HD2:=zh (And.intro ha2 hc2);clear ha2 hc2 q0 q1 q2 q3 q4 q5 q6 q7 q8 q9 q10;have HX9:=zh (zx _ (w.heap.size+1) _ (rs0) _ _ HR2.out);go_wp2_with (refine zv (o:=⟨none,.store 42 _ _,_,_,_,_⟩) rfl 42 _ _ rfl (w.heap.size+1) (rs0) rfl rfl 42 rs0 HR2.out (HTN.out.1 ▸ (by kernel_rfl:(prog.info? 42).map (·.size)=some 10)) HTN.out.1.symm HTN.out.2 ?_);refine zu (aA rfl rfl (zr _ (w.heap.size+1) 42 42 _ (0,0) _ HX9.out underlying42 rfl (HTN.out.1 ▸ (by kernel_rfl:(prog.info? 42).map (·.size)=some 10)))) rfl ?_;exact HW.out _ _ ⟨_,_,_,rfl,.inr (.inl ⟨HOP.out,rfl,rfl⟩),(HD2.out.1.row HR2.out _).more (Nat.le_add_right _ _),bW ((bh HB.out).trans HD2.out.2 (fun x hx=>.inl (.inl hx))) (zZ _) _,⟨fun hh=>by rw[HOP.out]at hh;omega,.inl rfl⟩⟩
 have e2:(r.op==2)=false:=by rw[zM];exact h2
 by_cases h3:r.op=3
 ·have e3:(r.op==3)=true:=by rw[h3];rfl
  have HOP:=zh h3;clear h1 h2 h3;go_wp2_with fail;refine(FU H1.out r z HRQ.out.nw).mono ?_;rintro e w2 ⟨rfl,ha2,hc2⟩;have HR2:Hid (Blk w2 (w.heap.size+1) 42 rs0):=zh (ib hc2 HR.out (hgX));have HTN:Hid (Ten (rsC (gB m r.now) 0 0 nil nil nil 0 0 0 0)):=zh (ten ..);have HD2:=zh (And.intro ha2 hc2);clear ha2 hc2 q0 q1 q2 q3 q4 q5 q6 q7 q8 q9 q10;have HX9:=zh (zx _ (w.heap.size+1) _ (rsC (gB m r.now) 0 0 nil nil nil 0 0 0 0) _ _ HR2.out);go_wp2_with (refine zv (o:=⟨none,.store 42 _ _,_,_,_,_⟩) rfl 42 _ _ rfl (w.heap.size+1) (rsC (gB m r.now) 0 0 nil nil nil 0 0 0 0) rfl rfl 42 rs0 HR2.out (HTN.out.1 ▸ (by kernel_rfl:(prog.info? 42).map (·.size)=some 10)) HTN.out.1.symm HTN.out.2 ?_);refine zu (aA rfl rfl (zr _ (w.heap.size+1) 42 42 _ (0,0) _ HX9.out underlying42 rfl (HTN.out.1 ▸ (by kernel_rfl:(prog.info? 42).map (·.size)=some 10)))) rfl ?_;exact HW.out _ _ ⟨_,_,_,rfl,.inr (.inr (.inl ⟨HOP.out,rfl,rfl⟩)),(HD2.out.1.row HR2.out _).more (Nat.le_add_right _ _),bW ((bh HB.out).trans HD2.out.2 (fun x hx=>.inl (.inl hx))) (zZ _) _,⟨fun hh=>by rw[HOP.out]at hh;omega,.inl rfl⟩⟩
 have e3:(r.op==3)=false:=by rw[zM];exact h3
 by_cases h4:r.op=4
 ·have e4:(r.op==4)=true:=by rw[h4];rfl
  have HOP:=zh h4;clear h1 h2 h3 h4;go_wp2_with fail;refine(sJ H1.out r z).mono ?_;rintro e w2 ⟨rfl,ha2,hc2⟩;have HR2:Hid (Blk w2 (w.heap.size+1) 42 rs0):=zh (ib hc2 HR.out (hgX));have HTN:Hid (Ten (rs0)):=zh (ten ..);have HD2:=zh (And.intro ha2 hc2);clear ha2 hc2 q0 q1 q2 q3 q4 q5 q6 q7 q8 q9 q10;have HX9:=zh (zx _ (w.heap.size+1) _ (rs0) _ _ HR2.out);go_wp2_with (refine zv (o:=⟨none,.store 42 _ _,_,_,_,_⟩) rfl 42 _ _ rfl (w.heap.size+1) (rs0) rfl rfl 42 rs0 HR2.out (HTN.out.1 ▸ (by kernel_rfl:(prog.info? 42).map (·.size)=some 10)) HTN.out.1.symm HTN.out.2 ?_);refine zu (aA rfl rfl (zr _ (w.heap.size+1) 42 42 _ (0,0) _ HX9.out underlying42 rfl (HTN.out.1 ▸ (by kernel_rfl:(prog.info? 42).map (·.size)=some 10)))) rfl ?_;exact HW.out _ _ ⟨_,_,_,rfl,.inr (.inr (.inr (.inl ⟨.inl HOP.out,rfl,rfl⟩))),(HD2.out.1.row HR2.out _).more (Nat.le_add_right _ _),bW ((bh HB.out).trans HD2.out.2 (fun x hx=>.inl (.inl hx))) (zZ _) _,⟨fun hh=>by rw[HOP.out]at hh;omega,.inl rfl⟩⟩
 have e4:(r.op==4)=false:=by rw[zM];exact h4
 by_cases h5:r.op=5
 ·have e5:(r.op==5)=true:=by rw[h5];rfl
  have HOP:=zh h5;clear h1 h2 h3 h4 h5;go_wp2_with fail;refine(sJ H1.out r z).mono ?_;rintro e w2 ⟨rfl,ha2,hc2⟩;have HR2:Hid (Blk w2 (w.heap.size+1) 42 rs0):=zh (ib hc2 HR.out (hgX));have HTN:Hid (Ten (rs0)):=zh (ten ..);have HD2:=zh (And.intro ha2 hc2);clear ha2 hc2 q0 q1 q2 q3 q4 q5 q6 q7 q8 q9 q10;have HX9:=zh (zx _ (w.heap.size+1) _ (rs0) _ _ HR2.out);go_wp2_with (refine zv (o:=⟨none,.store 42 _ _,_,_,_,_⟩) rfl 42 _ _ rfl (w.heap.size+1) (rs0) rfl rfl 42 rs0 HR2.out (HTN.out.1 ▸ (by kernel_rfl:(prog.info? 42).map (·.size)=some 10)) HTN.out.1.symm HTN.out.2 ?_);refine zu (aA rfl rfl (zr _ (w.heap.size+1) 42 42 _ (0,0) _ HX9.out underlying42 rfl (HTN.out.1 ▸ (by kernel_rfl:(prog.info? 42).map (·.size)=some 10)))) rfl ?_;exact HW.out _ _ ⟨_,_,_,rfl,.inr (.inr (.inr (.inl ⟨.inr HOP.out,rfl,rfl⟩))),(HD2.out.1.row HR2.out _).more (Nat.le_add_right _ _),bW ((bh HB.out).trans HD2.out.2 (fun x hx=>.inl (.inl hx))) (zZ _) _,⟨fun hh=>by rw[HOP.out]at hh;omega,.inl rfl⟩⟩
 have e5:(r.op==5)=false:=by rw[zM];exact h5
 by_cases h6:r.op=6
 ·have e6:(r.op==6)=true:=by rw[h6];rfl
  have HOP:=zh h6;clear h1 h2 h3 h4 h5 h6;go_wp2_with fail;refine(Bw H1.out r z).mono ?_;rintro e w2 ⟨rfl,ha2,hc2⟩;have HR2:Hid (Blk w2 (w.heap.size+1) 42 rs0):=zh (ib hc2 HR.out (hgX));have HTN:Hid (Ten (fZ m)):=zh (Im m);have HD2:=zh (And.intro ha2 hc2);clear ha2 hc2 q0 q1 q2 q3 q4 q5 q6 q7 q8 q9 q10;have HX9:=zh (zx _ (w.heap.size+1) _ (fZ m) _ _ HR2.out);go_wp2_with (refine zv (o:=⟨none,.store 42 _ _,_,_,_,_⟩) rfl 42 _ _ rfl (w.heap.size+1) (fZ m) rfl rfl 42 rs0 HR2.out (HTN.out.1 ▸ (by kernel_rfl:(prog.info? 42).map (·.size)=some 10)) HTN.out.1.symm HTN.out.2 ?_);refine zu (aA rfl rfl (zr _ (w.heap.size+1) 42 42 _ (0,0) _ HX9.out underlying42 rfl (HTN.out.1 ▸ (by kernel_rfl:(prog.info? 42).map (·.size)=some 10)))) rfl ?_;exact HW.out _ _ ⟨_,_,_,rfl,.inr (.inr (.inr (.inr (.inl ⟨HOP.out,rfl,rfl⟩)))),(HD2.out.1.row HR2.out _).more (Nat.le_add_right _ _),bW ((bh HB.out).trans HD2.out.2 (fun x hx=>.inl (.inl hx))) (zZ _) _,⟨fun hh=>by rw[HOP.out]at hh;omega,.inl rfl⟩⟩
 have e6:(r.op==6)=false:=by rw[zM];exact h6
 by_cases h7:r.op=7
 ·have e7:(r.op==7)=true:=by rw[h7];rfl
  have HOP:=zh h7;clear h1 h2 h3 h4 h5 h6 h7;go_wp2_with fail;refine(oU H1.out jo r z).mono ?_;rintro e w2 ⟨cs,rfl,hb2,hR2⟩;have HR2:Hid (Blk w2 (w.heap.size+1) 42 rs0):=zb HR hb2;have HTN:Hid (Ten (cs)):=zh (hR2.ten);have HD2:=zh (And.intro hb2 hR2);clear hb2 hR2 q0 q1 q2 q3 q4 q5 q6 q7 q8 q9 q10;have HX9:=zh (zx _ (w.heap.size+1) _ (cs) _ _ HR2.out);go_wp2_with (refine zv (o:=⟨none,.store 42 _ _,_,_,_,_⟩) rfl 42 _ _ rfl (w.heap.size+1) (cs) rfl rfl 42 rs0 HR2.out (HTN.out.1 ▸ (by kernel_rfl:(prog.info? 42).map (·.size)=some 10)) HTN.out.1.symm HTN.out.2 ?_);refine zu (aA rfl rfl (zr _ (w.heap.size+1) 42 42 _ (0,0) _ HX9.out underlying42 rfl (HTN.out.1 ▸ (by kernel_rfl:(prog.info? 42).map (·.size)=some 10)))) rfl ?_;exact HW.out _ _ ⟨v,m,_,rfl,.inr (.inr (.inr (.inr (.inr (.inl ⟨HOP.out,rfl,HD2.out.2.row hs1 HR2.out⟩))))),(((H1.out.below HD2.out.1).row HR2.out _).more (Nat.le_add_right _ _)),bW (bh (HB.out.trans (HD2.out.1.mono HB.out.size))) (zZ _) _,⟨fun _=>⟨zz (HB.out.trans (HD2.out.1.mono HB.out.size)) (zZ _) _,rfl⟩,.inl rfl⟩⟩
 have e7:(r.op==7)=false:=by rw[zM];exact h7
 by_cases h8:r.op=8
 ·have e8:(r.op==8)=true:=by rw[h8];rfl
  have HOP:=zh h8;clear h1 h2 h3 h4 h5 h6 h7 h8;go_wp2_with fail;refine(Fz H1.out jo r z HRQ.out.wd).mono ?_;rintro e w2 ⟨cs,rfl,hb2,hR2⟩;have HR2:Hid (Blk w2 (w.heap.size+1) 42 rs0):=zb HR hb2;have HTN:Hid (Ten (cs)):=zh (hR2.ten);have HD2:=zh (And.intro hb2 hR2);clear hb2 hR2 q0 q1 q2 q3 q4 q5 q6 q7 q8 q9 q10;have HX9:=zh (zx _ (w.heap.size+1) _ (cs) _ _ HR2.out);go_wp2_with (refine zv (o:=⟨none,.store 42 _ _,_,_,_,_⟩) rfl 42 _ _ rfl (w.heap.size+1) (cs) rfl rfl 42 rs0 HR2.out (HTN.out.1 ▸ (by kernel_rfl:(prog.info? 42).map (·.size)=some 10)) HTN.out.1.symm HTN.out.2 ?_);refine zu (aA rfl rfl (zr _ (w.heap.size+1) 42 42 _ (0,0) _ HX9.out underlying42 rfl (HTN.out.1 ▸ (by kernel_rfl:(prog.info? 42).map (·.size)=some 10)))) rfl ?_;exact HW.out _ _ ⟨v,m,_,rfl,.inr (.inr (.inr (.inr (.inr (.inr (.inl ⟨HOP.out,rfl,HD2.out.2.row hs1 HR2.out⟩)))))),(((H1.out.below HD2.out.1).row HR2.out _).more (Nat.le_add_right _ _)),bW (bh (HB.out.trans (HD2.out.1.mono HB.out.size))) (zZ _) _,⟨fun _=>⟨zz (HB.out.trans (HD2.out.1.mono HB.out.size)) (zZ _) _,rfl⟩,.inl rfl⟩⟩
 have e8:(r.op==8)=false:=by rw[zM];exact h8
 by_cases h9:r.op=9
 ·have e9:(r.op==9)=true:=by rw[h9];rfl
  have HOP:=zh h9;clear h1 h2 h3 h4 h5 h6 h7 h8 h9;go_wp2_with fail;refine(Ft H1.out r z).mono ?_;rintro e w2 ⟨cs,rfl,hb2,hR2⟩;have HR2:Hid (Blk w2 (w.heap.size+1) 42 rs0):=zb HR hb2;have HTN:Hid (Ten (cs)):=zh (hR2.ten);have HD2:=zh (And.intro hb2 hR2);clear hb2 hR2 q0 q1 q2 q3 q4 q5 q6 q7 q8 q9 q10;have HX9:=zh (zx _ (w.heap.size+1) _ (cs) _ _ HR2.out);go_wp2_with (refine zv (o:=⟨none,.store 42 _ _,_,_,_,_⟩) rfl 42 _ _ rfl (w.heap.size+1) (cs) rfl rfl 42 rs0 HR2.out (HTN.out.1 ▸ (by kernel_rfl:(prog.info? 42).map (·.size)=some 10)) HTN.out.1.symm HTN.out.2 ?_);refine zu (aA rfl rfl (zr _ (w.heap.size+1) 42 42 _ (0,0) _ HX9.out underlying42 rfl (HTN.out.1 ▸ (by kernel_rfl:(prog.info? 42).map (·.size)=some 10)))) rfl ?_;exact HW.out _ _ ⟨v,m,_,rfl,.inr (.inr (.inr (.inr (.inr (.inr (.inr (.inl ⟨HOP.out,rfl,HD2.out.2.row hs1 HR2.out⟩))))))),(((H1.out.below HD2.out.1).row HR2.out _).more (Nat.le_add_right _ _)),bW (bh (HB.out.trans (HD2.out.1.mono HB.out.size))) (zZ _) _,⟨fun _=>⟨zz (HB.out.trans (HD2.out.1.mono HB.out.size)) (zZ _) _,rfl⟩,.inl rfl⟩⟩
 have e9:(r.op==9)=false:=by rw[zM];exact h9
 by_cases h10:r.op=10
 ·have e10:(r.op==10)=true:=by rw[h10];rfl
  have HOP:=zh h10;clear h1 h2 h3 h4 h5 h6 h7 h8 h9 h10;go_wp2_with fail;refine(Fu H1.out jo r z HRQ.out.cur HRQ.out.cn).mono ?_;rintro e w2 ⟨cs,rfl,hb2,hR2⟩;have HR2:Hid (Blk w2 (w.heap.size+1) 42 rs0):=zb HR hb2;have HTN:Hid (Ten (cs)):=zh (hR2.ten);have HD2:=zh (And.intro hb2 hR2);clear hb2 hR2 q0 q1 q2 q3 q4 q5 q6 q7 q8 q9 q10;have HX9:=zh (zx _ (w.heap.size+1) _ (cs) _ _ HR2.out);go_wp2_with (refine zv (o:=⟨none,.store 42 _ _,_,_,_,_⟩) rfl 42 _ _ rfl (w.heap.size+1) (cs) rfl rfl 42 rs0 HR2.out (HTN.out.1 ▸ (by kernel_rfl:(prog.info? 42).map (·.size)=some 10)) HTN.out.1.symm HTN.out.2 ?_);refine zu (aA rfl rfl (zr _ (w.heap.size+1) 42 42 _ (0,0) _ HX9.out underlying42 rfl (HTN.out.1 ▸ (by kernel_rfl:(prog.info? 42).map (·.size)=some 10)))) rfl ?_;exact HW.out _ _ ⟨v,m,_,rfl,.inr (.inr (.inr (.inr (.inr (.inr (.inr (.inr (.inl ⟨HOP.out,rfl,HD2.out.2.row hs1 HR2.out⟩)))))))),(((H1.out.below HD2.out.1).row HR2.out _).more (Nat.le_add_right _ _)),bW (bh (HB.out.trans (HD2.out.1.mono HB.out.size))) (zZ _) _,⟨fun _=>⟨zz (HB.out.trans (HD2.out.1.mono HB.out.size)) (zZ _) _,rfl⟩,.inl rfl⟩⟩
 have e10:(r.op==10)=false:=by rw[zM];exact h10
 by_cases h11:r.op=11
 ·have e11:(r.op==11)=true:=by rw[h11];rfl
  have HOP:=zh h11;clear h1 h2 h3 h4 h5 h6 h7 h8 h9 h10 h11;go_wp2_with fail;refine(Dm H1.out jo r z).mono ?_;rintro e w2 ⟨rfl,hb2⟩;have HR2:Hid (Blk w2 (w.heap.size+1) 42 rs0):=zb HR hb2;have HTN:Hid (Ten (fH m)):=zh (ten ..);have HD2:=zh (And.intro hb2 trivial);clear hb2 q0 q1 q2 q3 q4 q5 q6 q7 q8 q9 q10;have HX9:=zh (zx _ (w.heap.size+1) _ (fH m) _ _ HR2.out);go_wp2_with (refine zv (o:=⟨none,.store 42 _ _,_,_,_,_⟩) rfl 42 _ _ rfl (w.heap.size+1) (fH m) rfl rfl 42 rs0 HR2.out (HTN.out.1 ▸ (by kernel_rfl:(prog.info? 42).map (·.size)=some 10)) HTN.out.1.symm HTN.out.2 ?_);refine zu (aA rfl rfl (zr _ (w.heap.size+1) 42 42 _ (0,0) _ HX9.out underlying42 rfl (HTN.out.1 ▸ (by kernel_rfl:(prog.info? 42).map (·.size)=some 10)))) rfl ?_;exact HW.out _ _ ⟨v,m,_,rfl,.inr (.inr (.inr (.inr (.inr (.inr (.inr (.inr (.inr (.inl ⟨HOP.out,rfl,rfl⟩))))))))),(((H1.out.below HD2.out.1).row HR2.out _).more (Nat.le_add_right _ _)),bW (bh (HB.out.trans (HD2.out.1.mono HB.out.size))) (zZ _) _,⟨fun _=>⟨zz (HB.out.trans (HD2.out.1.mono HB.out.size)) (zZ _) _,rfl⟩,.inl rfl⟩⟩
 have e11:(r.op==11)=false:=by rw[zM];exact h11
 have HNO:Hid (¬(1≤r.op∧r.op≤11)):=zh jo;clear h1 h2 h3 h4 h5 h6 h7 h8 h9 h10 h11;go_wp2_with fail;refine(dK 272 w1).mono ?_;rintro e w2 ⟨rfl,hb2⟩;have HR2:=zb HR hb2;have HD2:=zh (And.intro hb2 trivial);clear hb2 q0 q1 q2 q3 q4 q5 q6 q7 q8 q9 q10;have HX9:=zh (zx _ (w.heap.size+1) _ (rsC 272 0 0 nil nil nil 0 0 0 0) _ _ HR2.out);go_wp2_with (refine zv (o:=⟨none,.store 42 _ _,_,_,_,_⟩) rfl 42 _ _ rfl (w.heap.size+1) (rsC 272 0 0 nil nil nil 0 0 0 0) rfl rfl 42 rs0 HR2.out jk rfl (by simp[rsC,Value.oneCell']) ?_);refine zu (aA rfl rfl (zr _ (w.heap.size+1) 42 42 _ (0,0) _ HX9.out underlying42 rfl jk)) rfl ?_;exact HW.out _ _ ⟨v,m,_,rfl,.inr (.inr (.inr (.inr (.inr (.inr (.inr (.inr (.inr (.inr (⟨HNO.out,rfl,rfl⟩)))))))))),(((H1.out.below HD2.out.1).row HR2.out _).more (Nat.le_add_right _ _)),bW (bh (HB.out.trans (HD2.out.1.mono HB.out.size))) (zZ _) _,⟨fun _=>⟨zz (HB.out.trans (HD2.out.1.mono HB.out.size)) (zZ _) _,rfl⟩,.inl rfl⟩⟩
end
end Md

namespace Md
open Go.RowKit Ut Tk Qy Qp Ev Cu
def eU(f:Fl):Fl:=(f.1,if 200<f.2.size then f.2.extract 0 200 else f.2)
def cO(e:Evn):Evn:=(e.1,(e.2.take 5).map eU)
def yu(q:ByteArray):ByteArray:=if 1100<q.size then q.extract 0 1100 else q
def fN(r:Rq):Rq:={ r with evs:=(r.evs.take 10).map cO,q:=yu r.q,cur:=r.cur.take 1200 }
theorem Io(f:Fl)(h:f.1.size≤140737488351232∧f.2.size≤140737488351232):(eU f).1.size≤140737488351232∧(eU f).2.size≤140737488351232:=by
 unfold eU;refine⟨h.1,?_⟩;show (if 200<f.2.size then f.2.extract 0 200 else f.2).size≤_
 split
 ·rw[ByteArray.size_extract];omega
 exact h.2
theorem CX(fs:List Fl)(f:Fl):aO (fs ++ [f])=aO fs ++ [.string f.1,.string f.2]:=by simp[aO]
structure EvS (w:World) (S:Nat→Prop) (e:Evn) (u:List Value):Prop where
 ex:∃F fn fc,u=[.int .i64 e.1,.slice F fn fc]∧ReadsS w S 2 F fn (aO e.2)∧e.2.length=fn∧fn≤8796093021952∧fn≤fc∧(F=none→fc=0)
theorem EvS.same{w w':World}{S S':Nat→Prop}{e:Evn}{u:List Value}(h:EvS w S e u)(hS:∀b,S b→S' b∧w'.heap[b]?=w.heap[b]?):EvS w' S' e u:=by
 obtain⟨F,fn,fc,e1,h1,h2⟩:=h.ex;exact⟨F,fn,fc,e1,h1.same hS,h2⟩
structure EOwn (w:World) (base:Nat) (v:Value) (l:List Evn):Prop where
 ex:∃vss:List (List Value),vss.length=l.length∧w.ownsRow base 46 2 v l.length vss.flatten∧∀i (h:i<l.length) (h':i<vss.length),EvS w (Go.Proofs.YtmomjpolkkbhnaaGreat.Ev.Fd w base) l[i] vss[i]
theorem EOwn.start(w:World)(base:Nat):EOwn w base (.slice none 0 0) []:=⟨[],rfl,vM _ _ _ _,fun i h=>absurd h (by simp)⟩
theorem EOwn.kp{w w':World}{base:Nat}{v:Value}{l:List Evn}(h:EOwn w base v l)(hk:∀b,(Tg w 46 b∨Tg w 85 b)→w'.heap[b]?=w.heap[b]?):EOwn w' base v l:=by
 obtain⟨vss,g1,g2,g3⟩:=h.ex;exact⟨vss,g1,cT g2 (fun b hb=>hk b (.inl (aY g2 hb))),fun i a b=>(g3 i a b).same (fun b hS=>⟨⟨hS.1,hS.2.same (hk b (.inr hS.2))⟩,hk b (.inr hS.2)⟩)⟩
theorem EOwn.below{w w':World}{base:Nat}{v:Value}{l:List Evn}(h:EOwn w base v l)(hb:zWW w w'):EOwn w' base v l:=h.kp (fun b hT=>hb.block b (by rcases hT with hT|hT<;>exact hT.lt))
theorem EOwn.put{w w5:World}{base:Nat}{v v':Value}{l:List Evn}{e:Evn}{u:List Value}{vss:List (List Value)}(h1:vss.length=l.length)(h2:w.ownsRow base 46 2 v l.length vss.flatten)(h3:∀i (h:i<l.length) (h':i<vss.length),EvS w (Go.Proofs.YtmomjpolkkbhnaaGreat.Ev.Fd w base) l[i] vss[i])
  (hp:w5.ownsRow base 46 2 v' (l.length+1) (vss.flatten++u)) (hg:w.grownBy w5 v.ownBlock) (hd:EvS w (Go.Proofs.YtmomjpolkkbhnaaGreat.Ev.Fd w base) e u):EOwn w5 base v' (l ++ [e]):=by
 have keep:∀b,Go.Proofs.YtmomjpolkkbhnaaGreat.Ev.Fd w base b→Go.Proofs.YtmomjpolkkbhnaaGreat.Ev.Fd w5 base b∧w5.heap[b]?=w.heap[b]?:=fun b hS=>by
  have e:w5.heap[b]?=w.heap[b]?:=hg.block b hS.2.lt (fun e=>absurd ((aY h2 e.symm).one hS.2) jd);exact⟨⟨hS.1,hS.2.same e⟩,e⟩
 refine⟨vss ++ [u],by simp[h1],?_,fun i a b=>?_⟩
 ·rw[List.flatten_append,zJ]
  simpa using hp
 by_cases hi:i<l.length
 ·rw[zi hi,zi jo];exact(h3 i hi jo).same keep
 have hi':i=l.length:=by simp at a;omega
 subst hi';rw[zl jo,zl jo];simp only[Nat.sub_self,h1,List.getElem_cons_zero];exact hd.same keep
theorem EOwn.at_{w:World}{base:Nat}{v:Value}{l:List Evn}(h:EOwn w base v l)(hl:l.length≤4398046511104)(hs:∀e∈l,∀f∈e.2,f.1.size≤140737488351232∧f.2.size≤140737488351232):∃A c,v=.slice A l.length c∧EvsAt w w.heap.size A l.length c l:=by
 obtain⟨vss,h1,h2,h3⟩:=h.ex;obtain⟨A,c,rfl,hR,hc,_⟩:=Ev.aP h2;refine⟨A,c,rfl,rfl,hl,hc,vss,h1,hR,fun i a b=>?_⟩;obtain⟨F,fn,fc,e,g1,g2,g3,g4,g5⟩:=(h3 i a b).ex;exact⟨F,fn,fc,e,⟨g1.mono (fun b hb=>hb.2.lt),g2,g3,g4,hs _ (za a),g5⟩⟩
structure EvsS (w:World) (S:Nat→Prop) (A:Option Addr) (n c:Nat) (l:List Evn):Prop where
 ln:l.length=n
 cap:n≤c
 ex:∃vss:List (List Value),vss.length=n∧ReadsS w S 2 A n vss.flatten∧∀i (h:i<l.length) (h':i<vss.length),EvS w S l[i] vss[i]
theorem EvsS.same{w w':World}{S S':Nat→Prop}{A:Option Addr}{n c:Nat}{l:List Evn}(h:EvsS w S A n c l)(hS:∀b,S b→S' b∧w'.heap[b]?=w.heap[b]?):EvsS w' S' A n c l:=by
 obtain⟨vss,h1,h2,h3⟩:=h.ex;exact⟨h.ln,h.cap,vss,h1,h2.same hS,fun i a b=>(h3 i a b).same hS⟩
theorem EOwn.s{w:World}{base b0:Nat}{A:Option Addr}{c:Nat}{l:List Evn}(h:EOwn w base (.slice A l.length c) l)(hb:b0≤base):EvsS w (fun b=>b0≤b∧b<w.heap.size) A l.length c l:=by
 obtain⟨vss,h1,h2,h3⟩:=h.ex;obtain⟨A',c',e,_,hc,_⟩:=Ev.aP h2
 cases e;exact⟨rfl,hc,vss,h1,(ReadsS.of_own h2).mono (fun b hb'=>⟨zY hb hb'.1,hb'.2.1⟩),fun i a b=>(h3 i a b).same (fun b hS=>⟨⟨zY hb hS.1,hS.2.lt⟩,rfl⟩)⟩
theorem F4:(prog.info? 46).map (fun i=>(i.zero,i.size,i.bytes))=some (some (.agg #[.int .i64 0,.slice none 0 0]),2,32):=by kernel_rfl
def Ke(r:Rq)(z0:Rw)(w:World)(e:Ending)(w':World):Prop:=∃z,e=.returned (.agg (rqC (fN r) z))∧RqAt w' (fN r) z∧zWW w w'∧EvsS w' (fun b=>w.heap.size≤b∧b<w'.heap.size) z.E z.en z.ec (fN r).evs∧∀(wx:World) (B:Nat),Reads wx B 1 z0.C z0.cn (bv r.cur)→Reads wx B 1 z.C z.cn (bv (fN r).cur)
theorem Ip{w:World}{B n cn:Nat}{C:Option Addr}{L:List UInt8}(h:Reads w B 1 C n (bv L))(hc:min 1200 n=cn):Reads w B 1 C cn (bv (L.take 1200)):=by
 have h1:=h.1;rw[dH]at h1;refine⟨by rw[dH,zK];omega,fun hn=>?_⟩;obtain⟨bb,oo,e9,hlt,hcc⟩:=h.2 jo;refine⟨bb,oo,e9,hlt,fun j u hj=>hcc j u ?_⟩;unfold bv at hj ⊢;rw[List.map_take,List.getElem?_take]at hj
 split at hj
 ·exact hj
 cases hj
theorem Ju{r:Rq}{w:World}{z:Rw}(h:RqAt w r z):(∀e∈(r.evs.take 10).map cO,∀f∈e.2,f.1.size≤140737488351232∧f.2.size≤140737488351232)∧(∀e∈(r.evs.take 10).map cO,I64 e.1):=by
 refine⟨fun e he f hf=>?_,fun e he=>?_⟩
 ·obtain⟨e0,h0,rfl⟩:=List.mem_map.1 he;have h1:=List.mem_of_mem_take h0;obtain⟨f0,hf0,rfl⟩:=List.mem_map.1 hf;have h2:=List.mem_of_mem_take hf0;obtain⟨i,hi,rfl⟩:=zp.1 h1;obtain⟨_,_,_,_,_,_,_,_,_,g⟩:=h.ev.at_ hi;exact Io f0 (g.sz f0 h2)
 obtain⟨e0,h0,rfl⟩:=List.mem_map.1 he;exact h.ti e0 (List.mem_of_mem_take h0)
theorem xW(r:Rq)(z:Rw)(w:World)(hr:RqAt w r z):Calls prog 10 #[.agg (rqC r z)] w (Ke r z w):=by
 obtain⟨i0,hi0,hz0,hz1,hz2⟩:=info_parts Ev.pR;obtain⟨j0,hj0,hw0,hw1,hw2⟩:=info_parts F4;have hb:zWW w ((w.alloc (.cells (rqC r z) 37)).alloc (.cells (rqC ⟨0,[],false,0,⟨#[]⟩,0,0,0,0,0,[]⟩ ⟨none,0,0,none,0,0⟩) 37)):=(zRR _).alloc jz _;have hq:=(Blk.new w 37 (rqC r z)).alloc (.cells (rqC ⟨0,[],false,0,⟨#[]⟩,0,0,0,0,0,[]⟩ ⟨none,0,0,none,0,0⟩) 37);have hq2:=Blk.new (w.alloc (.cells (rqC r z) 37)) 37 (rqC ⟨0,[],false,0,⟨#[]⟩,0,0,0,0,0,[]⟩ ⟨none,0,0,none,0,0⟩);have z1:(w.alloc (.cells (rqC r z) 37)).heap.size=w.heap.size+1:=jz;rw[z1]at hq2;have HB:=zh hb;have HQ:=zh hq;have HR:=zh hq2;have HRQ:=zh (hr.below hb);have HCU:=zh hr.cur;have HCN:=zh hr.cn;have HFO:=zh (Ju hr);have hsw:w.heap.size+2≤(World.heap ((w.alloc (.cells (rqC r z) 37)).alloc (.cells (rqC ⟨0,[],false,0,⟨#[]⟩,0,0,0,0,0,[]⟩ ⟨none,0,0,none,0,0⟩) 37))).size:=jz;clear hb hq hq2 z1 hr;go_enter func10,ntmps10
 go_upto_region 1 with(fail);generalize ((w.alloc (.cells (rqC r z) 37)).alloc (.cells (rqC ⟨0,[],false,0,⟨#[]⟩,0,0,0,0,0,[]⟩ ⟨none,0,0,none,0,0⟩) 37))=w1 at *;have hln:=HRQ.out.ev.ln;have HLN:=zh hln;go_wp2_with fail;go_loopw [3,4] (fun v i wr=>∃(u:Value) (k:Nat),u=v∧k≤z.en∧k≤10∧i=.int .i64 k∧Hid (EOwn wr w1.heap.size u ((r.evs.take k).map cO))∧Hid (zWW w1 wr)) (fun _ i _=>10-(intOf i).toNat)
 case atStart=>exact⟨_,0,rfl,zS _,zS _,rfl,zh (EOwn.start _ _),zh (zw _ _)⟩
 obtain⟨u,k,rfl,hk,hk10,rfl,hO,hB⟩:=hrel;have hbs:=hB.out.size;have q1:=(HQ.out.below hB.out HQ.out.lt).cell 1;simp only[rqC,zA,zB,zC]at q1;by_cases hlt:k<z.en∧k<10
 ·obtain⟨hlt,hl10⟩:=hlt;have hki:(k:Int)<(z.en:Int):=jo;have hki2:(k:Int)<10:=jo;have hki0:(0:Int)≤(k:Int):=jo;have hkl:k<r.evs.length:=jo;obtain⟨eb,eo,F,fn,fc,hEe,hebb,a0,a1,hfl⟩:=(HRQ.out.ev.grow hB.out).at_ hkl;have HTK:Hid ((r.evs.take (k+1)).map cO=(r.evs.take k).map cO ++ [(r.evs[k].1,(r.evs[k].2.take 5).map eU)]):=zh (by rw[zL hkl,List.map_append];rfl);have HFL:=zh hfl;have hfl1:=hfl.len;have hfl2:=hfl.few;have hfl3:=hfl.cap;have hlk:((r.evs.take k).map cO).length≤10:=by rw[List.length_map,zK];omega
  generalize (r.evs.take k).map cO=L at *;generalize r.evs[k].1=ta at *;generalize r.evs[k].2=fs at *;rw[hEe]at q1;have hX:=Blk.new wr 46 #[.int .i64 ta,.slice none 0 0];have hBx:zWW wr (wr.alloc (.cells #[.int .i64 ta,.slice none 0 0] 46)):=zRR _;have HX:=zh hX;have HBX:=zh hBx
  have Hc:Hid (∀wx,zWW wr wx→wx.cell? ⟨w.heap.size,1,none⟩=some (.slice (some ⟨eb,eo,none⟩) z.en z.ec)∧wx.cell? ⟨eb,eo+k*2+1,none⟩=some (.slice F fn fc)):=zh (fun wx hb=>by
   have r1:=(HQ.out.below (hB.out.trans (hb.mono hB.out.size)) HQ.out.lt).cell 1;simp only[rqC,zA,zB,zC]at r1;rw[hEe]at r1
   exact⟨r1,(hb.cell (p:=⟨eb,eo+k*2+1,none⟩) hebb).trans a1⟩)
  clear hX hBx hEe;obtain⟨wo,rfl⟩:∃wo:World,wo=wr:=⟨_,rfl⟩
  go_upto_region 6 with(fail);generalize hwx:wo.alloc (.cells #[.int .i64 ta,.slice none 0 0] 46)=wx0 at *;clear hwx a0 a1 q1;go_wp2_with fail;go_loopw [6] (fun i wr=>∃(fv:Value) (j:Nat),j≤fn∧j≤5∧i=.int .i64 j∧Hid (Blk wr wo.heap.size 46 #[.int .i64 ta,fv])∧Hid (wr.ownsRow wo.heap.size 85 2 fv j (aO ((fs.take j).map eU)))∧Hid (zWW wo wr)) (fun i _=>5-(intOf i).toNat)
  case atStart=>exact⟨_,0,zS _,zS _,rfl,HX,zh (vM _ _ _ _),HBX⟩
  obtain⟨fv,j,hj,hj5,rfl,hE,hF,hBw⟩:=hrel;have hbw:=hBw.out.size;obtain⟨y1,y2⟩:=Hc.out wr hBw.out;by_cases hjl:j<fn∧j<5
  ·obtain⟨hjl,hj5⟩:=hjl;have hji:(j:Int)<(fn:Int):=jo;have hji2:(j:Int)<5:=jo;have hji0:(0:Int)≤(j:Int):=jo;have hjf:j<fs.length:=jo;obtain⟨tb,tq,rfl,htb,d0,d1⟩:=iB HFL.out.rd (k:=j) hjf;have e0:=(hBw.out.cell (p:=⟨tb,tq+j*2,none⟩) htb).trans d0;have e1:=(hBw.out.cell (p:=⟨tb,tq+j*2+1,none⟩) htb).trans d1;have HFT:Hid (aO ((fs.take (j+1)).map eU)=aO ((fs.take j).map eU) ++ [.string fs[j].1,.string (if 200<fs[j].2.size then fs[j].2.extract 0 200 else fs[j].2)]):=zh (by rw[zL hjf,List.map_append];exact CX _ _);obtain⟨A9,c9,rfl,_⟩:=Ev.aP hF.out;generalize hnm:fs[j].1=nm at *;generalize htx:fs[j].2=tx at *;clear hnm htx;generalize hzs:aO ((fs.take j).map eU)=zs at *;clear hzs;have x1:=(Blk.new wr 85 #[.string nm,.string tx]).cell 1;have x1f:=(Blk.new wr 85 #[.string nm,.string tx]).frozen 1;simp only[zA,zB,zC]at x1;have HFB:=zh (Blk.new wr 85 #[.string nm,.string tx]);have HFS:=zh (Blk.new wr 85 #[.string nm,.string (tx.extract 0 200)]);have HFA:Hid (zWW wr (wr.alloc (.cells #[.string nm,.string tx] 85))):=zh (zRR _);have HFC:Hid (zWW wr (wr.alloc (.cells #[.string nm,.string (tx.extract 0 200)] 85))):=zh (zRR _);obtain⟨wi,rfl⟩:∃wi:World,wi=wr:=⟨_,rfl⟩
   go_upto_if 53 with(fail);go_cut []from 41 to 57 (fun wx=>∃t2:ByteArray,Hid ((if 200<tx.size then tx.extract 0 200 else tx)=t2)∧Hid (Blk wx wi.heap.size 85 #[.string nm,.string t2])∧Hid (zWW wi wx))
   case first=>
    by_cases ht:200<tx.size
    ·have ht':(200:Int)<(tx.size:Int):=jo;go_wp2_with fail;go_meet;exact⟨_,zh (zI ht),HFS,HFC⟩
    have ht':¬(200:Int)<(tx.size:Int):=jo;go_wp2_with fail;go_meet;exact⟨_,zh (zH ht),HFB,HFA⟩
   case rest=>
   obtain⟨t2,HT2,HF2,HB2⟩:=hcut;rw[HT2.out]at HFT;have hE2:=hE.out.below HB2.out hE.out.lt;have HO2:=zh (hF.out.kept (aJ HB2.out none) (by cases hv:(Value.slice A9 j c9).ownBlock<;>simp));have HBW2:=zh (hBw.out.trans (HB2.out.mono hbw));have c1':=hE2.cell 1;have c1f:=hE2.frozen 1;have f0:=HF2.out.cell 0;have f1:=HF2.out.cell 1;simp only[zA,zB,zC]at c1' f0 f1;have HE2:=zh hE2;have hs2:=HBW2.out.size;clear hE hF hBw e0 e1 d0 d1 y1 y2 x1 x1f HFB HFS HFA HFC hE2 c1f
   go_wp2_with (first
    | (at_builtin;refine wpList_append_own_at _ rfl _ _ 44 rfl wo.heap.size 85 i0 _ 2 32 underlying44 hi0 hz0 hz1 hz2 rfl jd _ j zs rfl (HO2.out.alloc _) ⟨wc.heap.size,0,none⟩ 1 1 [.string nm,.string t2] rfl rfl (zy (cs:=#[.string nm,.string t2]) (t:=85) (fr:=(0,0)) (vI wc _)) jt ?k1 ?k2 ?k3 ?_)
    | fail)
   case k1=>unfold maxLen;omega
   case k2=>omega
   try(case k3=>first|omega|(rw[vK];omega))
   intro v4 w6 ho4 hg4 _ _;obtain⟨A4,c4,rfl,_⟩:=Ev.aP ho4;have HO6:=zh ho4;have HE6:=zh ((HE2.out.alloc (.cells #[.string nm,.string t2] 85)).grown hg4 (fun e=>absurd ((aY HO2.out e.symm).one ⟨_,_,HE2.out⟩) jd));have HB6:=zh ((HBW2.out.alloc hs2 (.cells #[.string nm,.string t2] 85)).grown hg4 (by rw[vK];omega) (fun j hj=>(HO2.out.lt j hj).1));have b1:=HE6.out.cell 1;have b1f:=HE6.out.frozen 1;simp only[zA,zB,zC]at b1
   have HE7:Hid (Blk (w6.setCell ⟨wo.heap.size,1,none⟩ (.slice A4 (j+1) c4)) wo.heap.size 46 #[.int .i64 ta,(.slice A4 (j+1) c4)]):=zh (by
    have:=HE6.out.set_ 1 (.slice A4 (j+1) c4)
    simpa using this)
   have HO7:Hid ((w6.setCell ⟨wo.heap.size,1,none⟩ (.slice A4 (j+1) c4)).ownsRow wo.heap.size 85 2 (.slice A4 (j+1) c4) (j+1) (aO ((fs.take (j+1)).map eU))):=zh (by
    rw[HFT.out]
    exact cT HO6.out (fun b hb=>vL _ _ _ _ (fun e=>by
     have e:b=wo.heap.size:=e;subst e
     exact absurd ((aY HO6.out hb).one ⟨_,_,HE6.out⟩) jd)))
   have HB7:=zh (HB6.out.setCell (p:=⟨wo.heap.size,1,none⟩) (zG _) (.slice A4 (j+1) c4));clear ho4 hg4 c1' f0 f1;go_wp2_with fail;go_roundw
   case rel=>exact⟨_,j+1,jo,jo,ju,HE7,HO7,HB7⟩
   simp[intOf];omega
  have HJ:Hid ((fs.take j).map eU=(fs.take 5).map eU):=zh (by
   rcases(by omega:j=5∨fs.length≤j)with h|h
   ·rw[h]
   rw[zR h,zR jo])
  obtain⟨A9,c9,rfl,_,hc9,hn9,_⟩:=Ev.aP hF.out
  have HEV:Hid (EvS wr (Go.Proofs.YtmomjpolkkbhnaaGreat.Ev.Fd wr w1.heap.size) (ta,(fs.take 5).map eU) [.int .i64 ta,.slice A9 j c9]):=zh ⟨A9,j,c9,rfl,by
   rw[←HJ.out]
   exact(ReadsS.of_own hF.out).mono (fun b hb=>⟨by have:=hb.1;omega,aY hF.out hb.2.2⟩),by rw[←HJ.out,List.length_map,zK];omega,jo,hc9,hn9⟩
  have hO2:=hO.out.below hBw.out;obtain⟨vss,g1,g2,g3⟩:=hO2.ex;have G2:=zh (g2.alloc (.cells #[.int .i64 ta,.slice A9 j c9] 46));have kA:∀(b:Nat),b<wr.heap.size→(wr.alloc (.cells #[.int .i64 ta,.slice A9 j c9] 46)).heap[b]?=wr.heap[b]?:=fun b hb=>((zw wr.heap.size wr).alloc (zG _) (.cells #[.int .i64 ta,.slice A9 j c9] 46)).block b hb
  have HG3:Hid (∀v' w5,w5.ownsRow w1.heap.size 46 2 v' (L.length+1) (vss.flatten ++ [.int .i64 ta,.slice A9 j c9])→(wr.alloc (.cells #[.int .i64 ta,.slice A9 j c9] 46)).grownBy w5 u.ownBlock→EOwn w5 w1.heap.size v' ((r.evs.take (k+1)).map cO)):=zh (fun v' w5 p1 p2=>by
   rw[HTK.out]
   exact EOwn.put g1 (g2.alloc _) (fun i a b=>(g3 i a b).same (fun b hS=>⟨⟨hS.1,hS.2.same (kA b hS.2.lt)⟩,kA b hS.2.lt⟩)) p1 p2 (HEV.out.same (fun b hS=>⟨⟨hS.1,hS.2.same (kA b hS.2.lt)⟩,kA b hS.2.lt⟩)))
  have HBA:=zh ((hB.out.trans (hBw.out.mono hbs)).alloc (by have:=hBw.out.size;omega) (.cells #[.int .i64 ta,.slice A9 j c9] 46));have c0:=hE.out.cell 0;have c1:=hE.out.cell 1;simp only[zA,zB,zC]at c0 c1;have hvl:vss.flatten.length=L.length*2:=G2.out.1;clear hO2 g1 g2 g3 kA hE hF hBw hc9 hn9 HTK;generalize vss.flatten=zs at *;by_cases hj1:j<fn
  ·have a1:(j:Int)<(fn:Int):=jo;have a2:¬(j:Int)<5:=jo;clear hj1 hjl
   go_wp2_with (first
    | (at_builtin;refine wpList_append_own_at _ rfl _ _ 35 rfl w1.heap.size 46 j0 _ 2 32 underlying35 hj0 hw0 hw1 hw2 rfl jd _ L.length zs rfl G2.out ⟨wr.heap.size,0,none⟩ 1 1 [.int .i64 ta,.slice A9 j c9] rfl rfl (zy (cs:=#[.int .i64 ta,.slice A9 j c9]) (t:=46) (fr:=(0,0)) (vI wr _)) jt ?k1 ?k2 ?k3 ?_)
    | fail)
   case k1=>unfold maxLen;omega
   case k2=>omega
   try(case k3=>have:=HBA.out.size;first|omega|(rw[vK]at *;omega))
   intro v4 w6 ho4 hg4 _ _;have HO6:=zh (HG3.out v4 w6 ho4 hg4);have HB6:=zh (HBA.out.grown hg4 HBA.out.size (fun j hj=>(G2.out.lt j hj).1));clear ho4 hg4 c0 c1 y1 y2;go_wp2_with fail;go_roundw
   case rel=>exact⟨_,k+1,rfl,jo,jo,ju,HO6,HB6⟩
   simp[intOf];omega
  have a1:¬(j:Int)<(fn:Int):=jo;clear hj1 hjl
  go_wp2_with (first
   | (at_builtin;refine wpList_append_own_at _ rfl _ _ 35 rfl w1.heap.size 46 j0 _ 2 32 underlying35 hj0 hw0 hw1 hw2 rfl jd _ L.length zs rfl G2.out ⟨wr.heap.size,0,none⟩ 1 1 [.int .i64 ta,.slice A9 j c9] rfl rfl (zy (cs:=#[.int .i64 ta,.slice A9 j c9]) (t:=46) (fr:=(0,0)) (vI wr _)) jt ?k1 ?k2 ?k3 ?_)
   | fail)
  case k1=>unfold maxLen;omega
  case k2=>omega
  try(case k3=>have:=HBA.out.size;first|omega|(rw[vK]at *;omega))
  intro v4 w6 ho4 hg4 _ _;have HO6:=zh (HG3.out v4 w6 ho4 hg4);have HB6:=zh (HBA.out.grown hg4 HBA.out.size (fun j hj=>(G2.out.lt j hj).1));clear ho4 hg4 c0 c1 y1 y2;go_wp2_with fail;go_roundw
  case rel=>exact⟨_,k+1,rfl,jo,jo,ju,HO6,HB6⟩
  simp[intOf];omega
 have HTE:Hid ((r.evs.take k).map cO=(r.evs.take 10).map cO):=zh (by
  rcases(by omega:k=10∨r.evs.length≤k)with h|h
  ·rw[h]
  rw[zR h,zR jo])
 have hO2:=hO.out;rw[HTE.out]at hO2;obtain⟨A5,c5,rfl,_⟩:=hO2.at_ (by rw[List.length_map,zK];omega) HFO.out.1;have HO2:=zh hO2;have hq2:=HQ.out.below hB.out HQ.out.lt;have hr2:=HR.out.below hB.out HR.out.lt;have p1f:=hq2.frozen 1
 have HQ3:Hid (Blk (wr.setCell ⟨w.heap.size,1,none⟩ (.slice A5 ((r.evs.take 10).map cO).length c5)) w.heap.size 37 (rqC { r with evs:=(r.evs.take 10).map cO } { z with E:=A5,en:=((r.evs.take 10).map cO).length,ec:=c5 })):=zh (by
  have:=hq2.set_ 1 (.slice A5 ((r.evs.take 10).map cO).length c5)
  simpa[rqC]using this)
 have hne:w.heap.size+1≠w.heap.size:=jo;have HR3:=zh (hr2.far (p:=⟨w.heap.size,1,none⟩) hne (.slice A5 ((r.evs.take 10).map cO).length c5))
 have HO3:Hid (EOwn (wr.setCell ⟨w.heap.size,1,none⟩ (.slice A5 ((r.evs.take 10).map cO).length c5)) w1.heap.size (.slice A5 ((r.evs.take 10).map cO).length c5) ((r.evs.take 10).map cO)):=zh (HO2.out.kp (fun b hb=>vL _ _ _ _ (fun e=>by
  have e:b=w.heap.size:=e;subst e;rcases hb with hb|hb
  ·exact absurd (hb.one ⟨_,_,hq2⟩) jd
  exact absurd (hb.one ⟨_,_,hq2⟩) jd)))
 have HB3:=zh ((HB.out.trans (hB.out.mono HB.out.size)).setCell (p:=⟨w.heap.size,1,none⟩) (zG _) (.slice A5 ((r.evs.take 10).map cO).length c5));clear hO hO2 hB hq2 hr2 HO2;generalize hel:(r.evs.take 10).map cO=EL at *;by_cases hk1:k<z.en
 case' pos=>
  have a1:(k:Int)<(z.en:Int):=jo;have a2:¬(k:Int)<10:=jo;clear hk1 hlt
 case' neg=>
  have a1:¬(k:Int)<(z.en:Int):=jo;clear hk1 hlt
 all_goals
  go_upto_region 15 with(fail);generalize wr.setCell ⟨w.heap.size,1,none⟩ (.slice A5 EL.length c5)=w3 at *;clear p1f;have p4:=HQ3.out.cell 4;have p4f:=HQ3.out.frozen 4;simp only[rqC,zA,zB,zC]at p4
  have HQ4:Hid (Blk (w3.setCell ⟨w.heap.size,4,none⟩ (.string (r.q.extract 0 1100))) w.heap.size 37 (rqC { r with evs:=EL,q:=r.q.extract 0 1100 } { z with E:=A5,en:=EL.length,ec:=c5 })):=zh (by
   have:=HQ3.out.set_ 4 (.string (r.q.extract 0 1100))
   simpa[rqC]using this)
  have HR4:=zh (HR3.out.far (p:=⟨w.heap.size,4,none⟩) hne (.string (r.q.extract 0 1100)))
  have HO4:Hid (EOwn (w3.setCell ⟨w.heap.size,4,none⟩ (.string (r.q.extract 0 1100))) w1.heap.size (.slice A5 EL.length c5) EL):=zh (HO3.out.kp (fun b hb=>vL _ _ _ _ (fun e=>by
   have e:b=w.heap.size:=e;subst e;rcases hb with hb|hb
   ·exact absurd (hb.one ⟨_,_,HQ3.out⟩) jd
   exact absurd (hb.one ⟨_,_,HQ3.out⟩) jd)))
  have HB4:=zh (HB3.out.setCell (p:=⟨w.heap.size,4,none⟩) (zG _) (.string (r.q.extract 0 1100)))
  go_upto_if 73 with(fail);go_cut []from 70 to 77 (fun wx=>∃q2:ByteArray,Hid (yu r.q=q2)∧Hid (Blk wx w.heap.size 37 (rqC { r with evs:=EL,q:=q2 } { z with E:=A5,en:=EL.length,ec:=c5 }))∧Hid (Blk wx (w.heap.size+1) 37 (rqC ⟨0,[],false,0,⟨#[]⟩,0,0,0,0,0,[]⟩ ⟨none,0,0,none,0,0⟩))∧Hid (EOwn wx w1.heap.size (.slice A5 EL.length c5) EL)∧Hid (zWW w wx))
  case first=>
   by_cases ht:1100<r.q.size
   ·have ht':(1100:Int)<(r.q.size:Int):=jo;go_wp2_with fail;go_meet;exact⟨_,zh (zI ht),HQ4,HR4,HO4,HB4⟩
   have ht':¬(1100:Int)<(r.q.size:Int):=jo;go_wp2_with fail;go_meet;exact⟨_,zh (zH ht),HQ3,HR3,HO3,HB3⟩
  case rest=>
  obtain⟨q2,HQE,HQ5,HR5,HO5,HB5⟩:=hcut;clear HQ4 HR4 HO4 HB4 HQ3 HR3 HO3 HB3 p4 p4f;obtain⟨w4,rfl⟩:∃w4:World,w4=wc:=⟨_,rfl⟩;have p10:=HQ5.out.cell 10;have p10f:=HQ5.out.frozen 10;simp only[rqC,zA,zB,zC]at p10;have hc2:=HCN.out.2.1
  have HQ6:Hid (Blk (w4.setCell ⟨w.heap.size,10,none⟩ (.slice z.C 1200 z.cc)) w.heap.size 37 (rqC { r with evs:=EL,q:=q2 } ⟨A5,EL.length,c5,z.C,1200,z.cc⟩)):=zh (by
   have:=HQ5.out.set_ 10 (.slice z.C 1200 z.cc)
   simpa[rqC]using this)
  have HR6:=zh (HR5.out.far (p:=⟨w.heap.size,10,none⟩) hne (.slice z.C 1200 z.cc))
  have HO6:Hid (EOwn (w4.setCell ⟨w.heap.size,10,none⟩ (.slice z.C 1200 z.cc)) w1.heap.size (.slice A5 EL.length c5) EL):=zh (HO5.out.kp (fun b hb=>vL _ _ _ _ (fun e=>by
   have e:b=w.heap.size:=e;subst e;rcases hb with hb|hb
   ·exact absurd (hb.one ⟨_,_,HQ5.out⟩) jd
   exact absurd (hb.one ⟨_,_,HQ5.out⟩) jd)))
  have HB6:=zh (HB5.out.setCell (p:=⟨w.heap.size,10,none⟩) (zG _) (.slice z.C 1200 z.cc))
  go_upto_if 81 with(fail);go_cut []from 78 to 85 (fun wx=>∃cn:Nat,Hid (min 1200 z.cn=cn)∧Hid (Blk wx w.heap.size 37 (rqC { r with evs:=EL,q:=q2 } ⟨A5,EL.length,c5,z.C,cn,z.cc⟩))∧Hid (Blk wx (w.heap.size+1) 37 (rqC ⟨0,[],false,0,⟨#[]⟩,0,0,0,0,0,[]⟩ ⟨none,0,0,none,0,0⟩))∧Hid (EOwn wx w1.heap.size (.slice A5 EL.length c5) EL)∧Hid (zWW w wx))
  case first=>
   by_cases ht:1200<z.cn
   ·have ht':(1200:Int)<(z.cn:Int):=jo;have ht2:(1200:Int)≤(z.cc:Int):=jo;go_wp2_with fail;go_meet;exact⟨_,zh jo,HQ6,HR6,HO6,HB6⟩
   have ht':¬(1200:Int)<(z.cn:Int):=jo;go_wp2_with fail;go_meet;exact⟨z.cn,zh jo,HQ5,HR5,HO5,HB5⟩
  case rest=>
  obtain⟨cn,HCE,HQ7,HR7,HO7,HB7⟩:=hcut;clear HQ6 HR6 HO6 HB6 HQ5 HR5 HO5 HB5 p10 p10f hc2;have m0:=HQ7.out.cell 0;have m1:=HQ7.out.cell 1;have m2:=HQ7.out.cell 2;have m3:=HQ7.out.cell 3;have m4:=HQ7.out.cell 4;have m5:=HQ7.out.cell 5;have m6:=HQ7.out.cell 6;have m7:=HQ7.out.cell 7;have m8:=HQ7.out.cell 8;have m9:=HQ7.out.cell 9;have m10:=HQ7.out.cell 10;simp only[rqC,zA,zB,zC]at m0 m1 m2 m3 m4 m5 m6 m7 m8 m9 m10;have HX9:=zh (zx _ (w.heap.size+1) _ (rqC { r with evs:=EL,q:=q2 } ⟨A5,EL.length,c5,z.C,cn,z.cc⟩) _ _ HR7.out);go_wp2_with (refine zv (o:=⟨none,.store 37 _ _,_,_,_,_⟩) rfl 37 _ _ rfl (w.heap.size+1) (rqC { r with evs:=EL,q:=q2 } ⟨A5,EL.length,c5,z.C,cn,z.cc⟩) rfl rfl 37 (rqC ⟨0,[],false,0,⟨#[]⟩,0,0,0,0,0,[]⟩ ⟨none,0,0,none,0,0⟩) HR7.out jk rfl (by simp[rqC,Value.oneCell']) ?_);refine zu (aA rfl rfl (zr _ (w.heap.size+1) 37 37 _ (0,0) _ HX9.out underlying37 rfl jk)) rfl ?_;have hB9:=zz HB7.out (zZ w.heap.size) (rqC { r with evs:=EL,q:=q2 } ⟨A5,EL.length,c5,z.C,cn,z.cc⟩)
  have hO9:=HO7.out.kp (w':=wc.setRow (w.heap.size+1) (rqC { r with evs:=EL,q:=q2 } ⟨A5,EL.length,c5,z.C,cn,z.cc⟩)) (fun b hb=>vJ _ _ b _ (fun e=>by
   subst e;rcases hb with hb|hb
   ·exact absurd (hb.one ⟨_,_,HR7.out⟩) jd
   exact absurd (hb.one ⟨_,_,HR7.out⟩) jd))
  have hfr:fN r={ r with evs:=EL,q:=q2,cur:=r.cur.take 1200 }:=by unfold fN;rw[hel,HQE.out]
  refine⟨⟨A5,EL.length,c5,z.C,cn,z.cc⟩,by rw[hfr],?_,hB9,by rw[hfr];exact hO9.s (zY (Nat.le_add_right _ 2) hsw),fun wx B h=>by rw[hfr];exact Ip h (by have:=HCE.out;omega)⟩;rw[hfr];obtain⟨A6,c6,e6,hev⟩:=hO9.at_ (by rw[←hel,List.length_map,zK];omega) (by rw[←hel];rw[hel];exact HFO.out.1);injection e6 with e7 _ e8;subst e7 e8;refine⟨hev,⟨?_,fun hn=>?_⟩,⟨by have:=HCN.out.1;have:=HCE.out;show cn≤_;omega,by have:=HCN.out.2.1;have:=HCE.out;show cn≤z.cc;omega,HCN.out.2.2⟩,HFO.out.2,HRQ.out.nw,HRQ.out.wd⟩
  ·have h1:=HCU.out.1;rw[dH]at h1;show (bv (r.cur.take 1200)).length=cn*1;rw[dH,zK];have:=HCE.out;omega
  have hn':0<cn:=hn;obtain⟨bb,oo,e9,hlt,hcc⟩:=HCU.out.2 (by have:=HCE.out;omega);refine⟨bb,oo,e9,zT hlt hB9.size,fun j u hj=>(hB9.cell (p:=⟨bb,oo+j,none⟩) hlt).trans (hcc j u ?_)⟩;have hj':(bv (r.cur.take 1200))[j]?=some u:=hj;unfold bv at hj' ⊢;rw[List.map_take,List.getElem?_take]at hj'
  split at hj'
  ·exact hj'
  cases hj'
end Md
end Go.Proofs.YtmomjpolkkbhnaaGreat
