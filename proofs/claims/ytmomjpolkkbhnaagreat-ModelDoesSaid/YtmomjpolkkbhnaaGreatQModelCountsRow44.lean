/- Both models side by side, step by step. (No walk.) -/
import Derived.Test.YtmomjpolkkbhnaaGreatQModelCountsRow43
set_option linter.unusedSimpArgs false
set_option linter.unusedVariables false
set_option maxRecDepth 20000
set_option maxHeartbeats 100000000
open Go.Proofs.Tryz
namespace Go.Proofs.YtmomjpolkkbhnaaGreat
namespace Md
open Go.RowKit Ut Tk Qy Qp Ev Cu
structure Lp (w0:World) (n0 X rb K:Nat) (v lv:Value) (mp md:M) (y:Rz) (S:Nat→Prop) (Lc:List UInt8) (wr:World):Prop where
 at_:At wr n0 X K v mp
 blk:Blk wr rb 29 (rmC md y)
 rt:RAt wr S K md y
 far:Far S X v
 frb:∀b,S b→rb<b
 last:∃base,wr.ownsRow base 5 1 lv Lc.length (bv Lc)
 ll:Lc.length≤1048576
 bel:zWW w0 wr
 hx:n0≤X
 h0:w0.heap.size≤n0∧w0.heap.size≤rb
section
variable {w0 w w':World} {n0 X rb K K2:Nat} {v v' lv:Value} {mp mp' md md':M} {y y':Rz} {S Se:Nat→Prop} {Lc:List UInt8}
theorem Lp.below(h:Lp w0 n0 X rb K v lv mp md y S Lc w)(hb:zWW w w'):Lp w0 n0 X rb K v lv mp md y S Lc w':=by
 obtain⟨base,hl⟩:=h.last;exact⟨h.at_.below hb,h.blk.below hb h.blk.lt,h.rt.below hb,h.far,h.frb,⟨base,hl.kept (aJ hb none) (by cases hv:lv.ownBlock<;>simp)⟩,h.ll,h.bel.trans (hb.mono h.bel.size),h.hx,h.h0⟩
theorem Lp.more(h:Lp w0 n0 X rb K v lv mp md y S Lc w)(hK:K≤K2):Lp w0 n0 X rb K2 v lv mp md y S Lc w:=⟨h.at_.more hK,h.blk,h.rt.more hK,h.far,h.frb,h.last,h.ll,h.bel,h.hx,h.h0⟩
theorem Lp.step(h:Lp w0 n0 X rb K v lv mp md y S Lc w)(hA:At w' n0 X (K+64) v' mp')(hc:Chg (fun b=>b=X∨v.ownBlock=some b) w w')(ho:OwnN w v v'):Lp w0 n0 X rb (K+65) v' lv mp' md y S Lc w':=by
 obtain⟨base,hl⟩:=h.last;exact⟨hA.more jo,jh hc h.at_ h.blk jd jd,(h.rt.chg hc h.far).more jo,h.far.step h.rt.lt ho,h.frb,⟨base,chg_own hc h.at_ hl jd jd⟩,h.ll,h.bel.trans ((mQ hc h.at_.own h.hx h.at_.n0).mono h.h0.1),h.hx,h.h0⟩
theorem Lp.next{w5 w6:World}(h:Lp w0 n0 X rb K v lv mp md y S Lc w)(hb:zWW w w5)(hR:RAt w5 (fun b=>S b∨Se b∨(w.heap.size≤b∧b<w5.heap.size)) K2 mp y')(hK:K≤K2)(hfe:Far Se X v)(hre:∀b,Se b→rb<b)(hb6:zWW w5 w6) :
  Lp w0 n0 X rb K2 v lv mp mp y' (fun b=>S b∨Se b∨(w.heap.size≤b∧b<w5.heap.size)) Lc (w6.setRow rb (rmC mp y')):=by
 have h6:=h.below (hb.trans (hb6.mono hb.size));have hXl:=h.at_.blk.lt;have hrl:=h.blk.lt;have hol:=yR h.at_
 have hfr2:∀b,(S b∨Se b∨(w.heap.size≤b∧b<w5.heap.size))→rb<b:=fun b hb'=>by
  rcases hb' with hb'|hb'|hb'
  ·exact h.frb b hb'
  ·exact hre b hb'
  omega
 have hfr:∀b,(S b∨Se b∨(w.heap.size≤b∧b<w5.heap.size))→b≠rb:=fun b hb'=>by have:=hfr2 b hb';omega
 obtain⟨base,hl⟩:=h6.last
 refine⟨(h6.at_.kp jz (fun b hb=>vJ w6 rb b _ (fun e=>by
   subst e;rcases hb with hb|hb|hb
   ·exact absurd (hb.one ⟨_,_,h6.blk⟩) jd
   ·exact absurd (hb.one ⟨_,_,h6.blk⟩) jd
   ·exact absurd (hb.one ⟨_,_,h6.blk⟩) jd))).more hK,zx w6 rb _ _ _ _ h6.blk,(hR.below hb6).rows hfr _,fun b hb'=>?_,hfr2,⟨base,cT hl (fun b hb=>vJ w6 rb b _ (fun e=>by
   subst e
   exact absurd ((aY hl hb).one ⟨_,_,h6.blk⟩) jd))⟩,h.ll,zz h6.bel h.h0.2 _,h.hx,h.h0⟩
 rcases hb' with hb'|hb'|hb'
 ·exact h.far b hb'
 ·exact hfe b hb'
 exact⟨jo,fun e=>by have:=hol b e;omega⟩
theorem Lp.ret{g:Nat}{old:Array Value}(h:Lp w0 n0 X rb K v lv mp md y S Lc w)(hg:Blk w g 29 old)(h0:w0.heap.size≤g)(hr:g<rb)(cs:Array Value):Lp w0 n0 X rb K v lv mp md y S Lc (w.setRow g cs):=by
 obtain⟨base,hl⟩:=h.last
 exact⟨h.at_.kp jz (fun b hb=>vJ w g b _ (fun e=>by
   subst e;rcases hb with hb|hb|hb
   ·exact absurd (hb.one ⟨_,_,hg⟩) jd
   ·exact absurd (hb.one ⟨_,_,hg⟩) jd
   ·exact absurd (hb.one ⟨_,_,hg⟩) jd)),(vJ w g rb _ jo).trans h.blk,h.rt.rows (fun b hb=>by have:=h.frb b hb;omega) _,h.far,h.frb,⟨base,cT hl (fun b hb=>vJ w g b _ (fun e=>by
   subst e
   exact absurd ((aY hl hb).one ⟨_,_,hg⟩) jd))⟩,h.ll,zz h.bel h0 _,h.hx,h.h0⟩
theorem Lp.told{lv':Value}{Lc':List UInt8}(h:Lp w0 n0 X rb K v lv mp md y S Lc w)(hl:∃base,w.ownsRow base 5 1 lv' Lc'.length (bv Lc'))(hn:Lc'.length≤1048576):Lp w0 n0 X rb K v lv' mp md y S Lc' w:=⟨h.at_,h.blk,h.rt,h.far,h.frb,hl,hn,h.bel,h.hx,h.h0⟩
theorem nJ{wa wb:World}(h:Lp w0 n0 X rb K v lv mp md y S Lc wa)(ho:OwnN wb v v'):Far (fun b=>wa.heap.size≤b∧b<wb.heap.size) X v':=fun b hb=>⟨by have:=h.at_.blk.lt;omega,fun e=>by
 rcases ho with ho|ho
 ·rw[ho]at e;have:=yR h.at_ b e;omega
 have:=ho b e;omega⟩
theorem wU{rq:Rq}{zq:Rw}(hq:RqAt w rq zq)(hE:EvsS w' Se zq.E zq.en zq.ec rq.evs)(hSe:∀b,Se b→b<w'.heap.size)(hcur:Reads w' w'.heap.size 1 zq.C zq.cn (bv rq.cur)):RqAt w' rq zq:=⟨qf hE hSe hq.ev.few (p9 hq.ev),hcur,hq.cn,hq.ti,hq.nw,hq.wd⟩
theorem wV{A:Option Addr}{n c:Nat}{l:List Evn}(h:EvsS w Se A n c l)(hc:Chg (fun b=>b=X∨v.ownBlock=some b) w w')(hf:Far Se X v)(hl:∀b,Se b→b<w.heap.size):EvsS w' Se A n c l:=
 h.same (fun b hb=>⟨hb,hc.block b (hl b hb) (fun e=>e.elim (hf b hb).1 (hf b hb).2)⟩)
theorem AnsO.chg_own{cs:Array Value}{a:Ans}(h:AnsO w cs a)(hb:zWW w w'):AnsO w' cs a:=h.below hb
end
end Md

namespace Md
open Go.RowKit Ut Tk Qy Qp Ev Ph Cu
theorem BO{fn:Func}{a p u:Tmp}{T:TypeId}(h:fn.results=#[.tmp a,.cell p T,.tmp u]){tmps:Array Value}{P:Program}{w:World}{b:Addr}{v:Value}(hb:tmps.getD p undef=.pointer (some b))(l1:(loadVar T b).run P w=.ok v w) :
  (results fn tmps).run P w=.ok (.tuple #[tmps.getD a undef,v,tmps.getD u undef]) w:=by
 have h1':tmps[p]?.getD undef=.pointer (some b):=by simpa using hb
 simp[results,h,h1',asAddr,l1]
def yx(w:World)(e:Ending)(w':World):Prop:=∃(n0 X rb K:Nat) (v lv:Value) (m:M) (y:Rz) (S:Nat→Prop) (Lc:List UInt8),e=.returned (.tuple #[.pointer (some ⟨X,0,none⟩),.agg (rmC m y),lv])∧K≤4000∧m.c=conf∧Lp w n0 X rb K v lv m m y S Lc w'
theorem J7(m:M)(r:Rq):(aQ m r).c=m.c:=by
 unfold aQ ing gm gq
 split
 ·split
  ·rfl
  split
  ·rfl
  split<;>rfl
 split
 ·rfl
 split
 ·split<;>rfl
 split
 ·split<;>rfl
 rfl
theorem uj(A:Option Addr)(n cc:Nat)(LL:List Rq)(TT:List Bool)(w:World)(hL:StepsAt w A n cc LL)(hT:StepsT w A n TT) :
  Calls prog 8 #[.slice A n cc] w (yx w):=by
 have HSL:=zh hL;have HST:=zh hT;have hLn1:LL.length≤n:=by rw[hL.ln];exact zG _
 have hLn2:n≤LL.length:=by rw[hL.ln];exact zG _
 have hTn2:n≤TT.length:=by rw[hT.ln];exact zG _
 have hLf:=hL.few;clear hL hT;have hwx:w.heap.size<(w.alloc (.cells zmC 29)).heap.size:=jz;have HRS:=zh (Blk.new w 29 zmC);have HB:=zh ((zw w.heap.size w).alloc (zG _) (.cells zmC 29));go_enter func8,ntmps8
 go_upto_region 1 with(fail);generalize w.alloc (.cells zmC 29)=w1 at *;go_wp2_with fail;refine(mP w1).mono ?_;rintro e wB ⟨rfl,hb2⟩;have HB2:=zt HB hb2;have HRS2:=zb HRS hb2;have hs2:=hb2.size;clear hb2 HB HRS;go_wp2_with fail;refine(qc conf jd wB).mono ?_;rintro e w3 hN;rcases hN with⟨_,X,rfl,hX,hA,hb3⟩|⟨h,_⟩
 case inr=>exact absurd mg h
 have HB3:=zt HB2 hb3;have HRS3:=zb HRS2 hb3;have HA3:=zh hA;have hs3:=hb3.size;have hw2:=HB2.out.size;clear hA hb3 HB2 HRS2;go_wp2_with fail;refine(mP w3).mono ?_;rintro e w4 ⟨rfl,hb4⟩;have HB4:=zt HB3 hb4;have HRS4:=zb HRS3 hb4;have HA4:=zh (HA3.out.below hb4);have hs4:=hb4.size;clear hb4 HB3 HRS3 HA3;go_wp2_with fail;refine(tv conf w4).mono ?_;rintro e w5 ⟨hb5,hcs⟩
 obtain rfl:e=.returned (.tuple #[.agg (rmC (⟨conf,[],-9223372036854775808,-9223372036854775808,0⟩:M) (⟨none,0,0,none,0,0⟩:Rz)),.int .i64 0]):=by
  rcases hcs with⟨_,h⟩|⟨h,_⟩
  ·exact h
  exact absurd mg h
 obtain⟨m0,hm0⟩:∃m0:M,(⟨conf,[],-9223372036854775808,-9223372036854775808,0⟩:M)=m0:=⟨_,rfl⟩;obtain⟨y0,hy0⟩:∃y0:Rz,(⟨none,0,0,none,0,0⟩:Rz)=y0:=⟨_,rfl⟩;have hbx:zWW w5 (w5.alloc (.cells (rmC m0 y0) 29)):=zRR _;have hrt:=xe (w:=w5.alloc (.cells (rmC m0 y0) 29)) mg (by decide:conf.retain≤9223372036854775807);have hA4:=HA4.out;rw[hm0]at hA4;rw[hm0,hy0]at hrt ⊢;have hb6:=hb5.trans (hbx.mono hb5.size);have HB6:=zt HB4 hb6;have HRS6:=zb HRS4 hb6;have hw4:=HB4.out.size;have hrs4:=HRS4.out.lt;have hs5:=hb5.size;have hLp:Lp w wB.heap.size X w5.heap.size (130*0) nil nil m0 m0 y0 (fun _=>False) [] (w5.alloc (.cells (rmC m0 y0) 29)):=⟨hA4.below hb6,Blk.new _ _ _,hrt,wT _ _,fun b hb=>hb.elim,⟨0,vM _ _ _ _⟩,jd,HB6.out,hX,hw2,jo⟩;have HL0:=zh hLp;have HC0:Hid (m0.c=conf):=zh (by rw[←hm0]);have hrr:w.heap.size<w5.heap.size:=jo;clear hm0 hy0 hbx hrt hA4 hb5 hb6 hcs hLp HA4 HB4 HRS4 HB6
 go_upto_region 3 with(fail);generalize hrb:w5.heap.size=rb at *;generalize w5.alloc (.cells (rmC m0 y0) 29)=w6 at *;clear hrb;go_wp2_with fail;go_loopw [9,10] (fun lv iv wr=>∃(k:Nat) (v:Value) (m:M) (y:Rz) (S:Nat→Prop) (Lc:List UInt8) (lw:Value),lw=lv∧iv=.int .i64 k∧k≤n∧k≤30∧Hid (Lp w wB.heap.size X rb (130*k) v lw m m y S Lc wr)∧Hid (Blk wr w.heap.size 29 zmC)∧Hid (m.c=conf)) (fun _ iv _=>30-(intOf iv).toNat)
 case atStart=>exact⟨0,_,_,_,_,_,_,rfl,rfl,zS _,zS _,HL0,HRS6,HC0⟩
 clear HL0 HRS6;obtain⟨k,v,m,y,S,Lc,lw,rfl,rfl,hkn,hk30,HL,HRSr,HCc⟩:=hrel;by_cases hlt:k<n∧k<30
 ·obtain⟨hlt,hlt30⟩:=hlt;have hki:(k:Int)<(n:Int):=jo;have hki2:(k:Int)<30:=jo;have hki0:(0:Int)≤(k:Int):=jo;have hkl:k<LL.length:=jo;have hkt:k<TT.length:=jo;obtain⟨b,o,z,hAe,hbb,hc,hr⟩:=HSL.out.ex k hkl;obtain⟨b',o',hAe',hbb',hc11⟩:=HST.out.ex k hkt;rw[hAe]at hAe';injection hAe' with hAe';injection hAe' with e1 e2 _;subst e1 e2;subst hAe;have hBl:=HL.out.bel;have hs:∀j u,(rqC LL[k] z)[j]?=some u→wr.cell? ⟨b,o+k*12+j,none⟩=some u:=fun j u hj=>(hBl.cell (p:=⟨b,o+k*12+j,none⟩) hbb).trans (hc j u hj)
  have hs11:=(hBl.cell (p:=⟨b,o+k*12+11,none⟩) hbb').trans hc11;have HRr0:=zh hr;have HRr:=zh (hr.below hBl);clear hc hr hc11 hBl;generalize LL[k]=r at *;generalize TT[k]=fl at *;have s0:wr.cell? ⟨b,o+k*12,none⟩=some (.int .i64 r.op):=hs 0 _ rfl;have s1:wr.cell? ⟨b,o+k*12+1,none⟩=some (.slice z.E z.en z.ec):=hs 1 _ rfl;have s2:wr.cell? ⟨b,o+k*12+2,none⟩=some (.bool r.dur):=hs 2 _ rfl;have s3:wr.cell? ⟨b,o+k*12+3,none⟩=some (.int .i64 r.now):=hs 3 _ rfl;have s4:wr.cell? ⟨b,o+k*12+4,none⟩=some (.string r.q):=hs 4 _ rfl;have s5:wr.cell? ⟨b,o+k*12+5,none⟩=some (.int .i64 r.frm):=hs 5 _ rfl;have s6:wr.cell? ⟨b,o+k*12+6,none⟩=some (.int .i64 r.til):=hs 6 _ rfl;have s7:wr.cell? ⟨b,o+k*12+7,none⟩=some (.int .i64 r.lim):=hs 7 _ rfl;have s8:wr.cell? ⟨b,o+k*12+8,none⟩=some (.int .i64 r.width):=hs 8 _ rfl;have s9:wr.cell? ⟨b,o+k*12+9,none⟩=some (.int .i64 r.after):=hs 9 _ rfl;have s10:wr.cell? ⟨b,o+k*12+10,none⟩=some (.slice z.C z.cn z.cc):=hs 10 _ rfl;have s11:wr.cell? ⟨b,o+k*12+11,none⟩=some (.bool fl):=hs11;clear hs hs11;obtain⟨lb,hlb⟩:=HL.out.last;obtain⟨LA,lc,rfl,hLR,hlc,hln,_⟩:=Ev.aP hlb;have hll:=HL.out.ll;have CO:=zh (ij r z fl LA Lc.length lc Lc wr HRr.out hLR ⟨jo,hlc,hln⟩);clear hlb hLR hlc hln;obtain⟨ln,hln⟩:∃ln,Lc.length=ln:=⟨_,rfl⟩;rw[hln]at CO HL ⊢;have HLN:=zh hln;clear hln;go_wp2_with fail;refine CO.out.mono ?_;rintro e wa ⟨zq,rfl,hrq,hba,hEq,hcq⟩;have hwa:=hba.size;have hbx:zWW wa (wa.alloc (.cells (rqC (ofR r fl Lc) zq) 37)):=zRR _;have hb2:=hba.trans (hbx.mono hwa);have HL2:=zh (HL.out.below hb2);have hb2w:=zh hb2;have HQ2:=zh (Blk.new wa 37 (rqC (ofR r fl Lc) zq));have HRQ2:=zh (hrq.below hbx);have HE2:=zh (hEq.same (S':=fun b=>wr.heap.size≤b∧b<wa.heap.size) (fun b hb=>⟨hb,hbx.block b hb.2⟩));have HCQ:=zh hcq;have h2s:wa.heap.size<(wa.alloc (.cells (rqC (ofR r fl Lc) zq) 37)).heap.size:=jz;have HSE0:=zh hwa;clear CO hba hbx hb2 hrq hEq hcq s0 s1 s2 s3 s4 s5 s6 s7 s8 s9 s10 s11 HRr;obtain⟨rq,hrqe⟩:∃rq,ofR r fl Lc=rq:=⟨_,rfl⟩;rw[hrqe]at HL2 HQ2 HRQ2 HE2 HCQ h2s hb2w ⊢;clear hrqe
  go_upto_region 8 with(fail);generalize wa.alloc (.cells (rqC rq zq) 37)=w2 at *;have CD:=zh (gY HL2.out.at_ jo HL2.out.hx rq zq HRQ2.out);go_wp2_with (first|(refine wpList_load_row (o:=⟨some 45,.load 37 _,_,_,_,_⟩) rfl 37 _ rfl (wa.heap.size) rfl 37 (rqC rq zq) (0,0) _ HQ2.out underlying37 rfl jk ?_)|fail);refine CD.out.mono ?_;rintro e w3 ⟨v3,m3,cs3,rfl,hR3,hA3,hc3,_,hon3⟩;obtain⟨rfl,a3,hAR3,hO3⟩:=hR3.ansO (by have:=HL2.out.at_.few;omega) HL2.out.at_.ok;have hfa3:=nJ (wb:=w2) HL.out hon3;have hfa2:=nJ (wb:=wa) HL.out (v':=v) (.inl rfl);have HL3:=zh (HL2.out.step hA3 hc3 hon3);have HQ3:=zh (jh hc3 HL2.out.at_ HQ2.out jd jd);have HE3:=zh (wV HE2.out hc3 hfa2 (fun b hb=>Nat.lt_trans hb.2 h2s));have HFE:=zh (fun b (hb:wr.heap.size≤b∧b<wa.heap.size)=>hfa3 b ⟨hb.1,jo⟩);have HAR3:=zh hAR3;have h3s:=hc3.size;obtain⟨A3,n3,c3,B3,k3,d3,C3,l3,f3,rfl,_⟩:=hO3.at_;have HL4:=HL3;have HQ4:=HQ3;have HE4:=HE3;have h4s:w3.heap.size≤w3.heap.size:=zG _;clear HL3 HQ3 HE3;have HRS3:=zh (jh hc3 HL2.out.at_ (HRSr.out.below (hb2w.out) HRSr.out.lt) jd jd);clear CD HL2 HQ2 HE2 hR3 hA3 hc3 hon3 hfa3 hfa2 hAR3 hO3
  go_upto_region 9 with(fail)
  have hcur:Reads w3 w3.heap.size 1 zq.C zq.cn (bv rq.cur):=HCQ.out w3 w3.heap.size (HRr0.out.below HL4.out.bel).cur (by
   obtain⟨base,hl⟩:=HL4.out.last;rw[HLN.out]at hl
   exact Reads.of_own hl)
  have hrq4:RqAt w3 rq zq:=wU HRQ2.out HE4.out (fun b hb=>jo) hcur;have HRQ4:=zh hrq4;clear hcur hrq4;have CR:=zh (xh (Se:=fun b=>wr.heap.size≤b∧b<wa.heap.size) HL4.out.rt jo rq zq HRQ4.out HE4.out (fun b hb=>jo));have HMr4:=zh HL4.out.blk;go_wp2_with (first|(refine wpList_load_row (o:=⟨some 48,.load 29 _,_,_,_,_⟩) rfl 29 _ rfl (rb) rfl 29 (rmC m y) (0,0) _ HMr4.out underlying29 rfl jk ?_)|(refine wpList_load_row (o:=⟨some 49,.load 37 _,_,_,_,_⟩) rfl 37 _ rfl (wa.heap.size) rfl 37 (rqC rq zq) (0,0) _ HQ4.out underlying37 rfl jk ?_)|fail);refine CR.out.mono ?_;rintro e w5 ⟨y5,cs5,a5,rfl,hb5,hAR5,hO5,hRA5⟩;obtain⟨A5,n5,c5,B5,k5,d5,C5,l5,f5,rfl,_⟩:=hO5.at_;have haa:a5=a3:=hAR5.det HAR3.out;subst haa;have h5s:=hb5.size;have hbn:zWW w5 ((w5.alloc (.cells (rmC (aQ m rq) y5) 29)).alloc (.cells (rsC a5.E a5.seq a5.fl (.slice A5 n5 c5) (.slice B5 k5 d5) (.slice C5 l5 f5) a5.ev a5.nx a5.nw a5.ak) 42)):=(zRR _).alloc jz _;have hn6:=(Blk.new w5 29 (rmC (aQ m rq) y5)).alloc (.cells (rsC a5.E a5.seq a5.fl (.slice A5 n5 c5) (.slice B5 k5 d5) (.slice C5 l5 f5) a5.ev a5.nx a5.nw a5.ak) 42);have hb6:=Blk.new (w5.alloc (.cells (rmC (aQ m rq) y5) 29)) 42 (rsC a5.E a5.seq a5.fl (.slice A5 n5 c5) (.slice B5 k5 d5) (.slice C5 l5 f5) a5.ev a5.nx a5.nw a5.ak);rw[show (w5.alloc (.cells (rmC (aQ m rq) y5) 29)).heap.size=w5.heap.size+1 by simp]at hb6;have HN6:=zh hn6;have HBB6:=zh hb6;have HBN:=zh hbn;have HL7:=zh (HL4.out.next (K2:=130*(k+1)) hb5 (hRA5.more jo) jo HFE.out (fun b hb=>by have:=HL.out.blk.lt;omega) hbn);have HRS6:=zh (HRS3.out.below (hb5.trans (hbn.mono h5s)) HRS3.out.lt);have hrb6:=(HL4.out.blk.below (hb5.trans (hbn.mono h5s)) HL4.out.blk.lt);have HRB6:=zh hrb6;have HO5:=zh ((hO5.below hbn).row hrb6 ⟨jd,jd,jd⟩ (rA _ _) (rmC (aQ m rq) y5));clear hbn hn6 hb6 hrb6 CR hb5 hAR5 hO5 hRA5 HL4 HE4 HQ4 HRQ4 HMr4 HAR3 HCQ HRQ2;have hrbn:w5.heap.size≠rb:=by have:=HL.out.blk.lt;omega
  have hrbb:w5.heap.size+1≠rb:=by have:=HL.out.blk.lt;omega
  obtain⟨m7,hm7⟩:∃m7,aQ m rq=m7:=⟨_,rfl⟩;rw[hm7]at HN6 HBB6 HBN HL7 HRB6 HO5 HRS6 ⊢;have HC7:Hid (m7.c=conf):=zh (by rw[←hm7,J7];exact HCc.out);clear hm7
  go_upto_region 10 with(fail);generalize ((w5.alloc (.cells (rmC m7 y5) 29)).alloc (.cells (rsC a5.E a5.seq a5.fl (.slice A5 n5 c5) (.slice B5 k5 d5) (.slice C5 l5 f5) a5.ev a5.nx a5.nw a5.ak) 42))=w6 at *;have HRS7:Hid (Blk (w6.setRow rb (rmC m7 y5)) w.heap.size 29 zmC):=zh ((vJ w6 rb _ _ jo).trans HRS6.out);have HBB7:Hid (Blk (w6.setRow rb (rmC m7 y5)) (w5.heap.size+1) 42 (rsC a5.E a5.seq a5.fl (.slice A5 n5 c5) (.slice B5 k5 d5) (.slice C5 l5 f5) a5.ev a5.nx a5.nw a5.ak)):=zh ((vJ w6 rb _ _ hrbb).trans HBB6.out);clear HBN
  go_upto_region 11 with(first|(refine wpList_load_row (o:=⟨some 53,.load 29 _,_,_,_,_⟩) rfl 29 _ rfl (w5.heap.size) rfl 29 (rmC m7 y5) (0,0) _ HN6.out underlying29 rfl jk ?_)|(refine zv (o:=⟨none,.store 29 _ _,_,_,_,_⟩) rfl 29 _ _ rfl (rb) (rmC m7 y5) rfl rfl 29 (rmC m y) HRB6.out jk rfl (by simp[rmC,Value.oneCell']) ?_)|fail);generalize w6.setRow rb (rmC m7 y5)=w7 at *;clear HN6 HBB6 HRB6;have s5:=HBB7.out.cell 5;simp only[rsC,zA,zB,zC]at s5;by_cases hl0:l5=0
  ·have hlz:¬(0:Int)<(l5:Int):=jo;clear hl0;go_wp2;exact⟨⟨k+1,_,m7,y5,_,Lc,_,rfl,by push_cast;rfl,jo,jo,HL7,HRS7,HC7⟩,by show _-((k:Int)+1).toNat < _-((k:Int)).toNat;omega⟩
  have hlz:(0:Int)<(l5:Int):=jo;clear hl0
  have HL9:Hid (Lp w wB.heap.size X rb (130*(k+1)) v3 (.slice C5 l5 f5) m7 m7 y5 _ a5.cur w7):=zh (by
   obtain⟨⟨v1,v2,v3',e9,_,_,b3,h3⟩,hf⟩:=HO5.out
   have e6:Value.slice C5 l5 f5=v3':=by
    have h:=congrArg (fun x:Array Value=>x[5]?) e9
    simpa[rsC]using h
   exact HL7.out.told ⟨b3,by rw[e6];exact h3⟩ hf.2.2)
  go_wp2;exact⟨⟨k+1,_,m7,y5,_,a5.cur,_,rfl,by push_cast;rfl,jo,jo,HL9,HRS7,HC7⟩,by show _-((k:Int)+1).toNat < _-((k:Int)).toNat;omega⟩
 by_cases hkk:k<n
 case' pos=>
  have hki:(k:Int)<(n:Int):=jo;have hki2:¬(k:Int)<30:=jo;clear hlt hkk
 case' neg=>
  have hki:¬(k:Int)<(n:Int):=jo;clear hlt hkk
 all_goals
  go_upto_region 13 with(fail);have HMr:=zh HL.out.blk;have HRd:=zh HRSr.out.drew;refine dN 5 (aI [(4,⟨Unit,fun _=>undef,fun _ wx=>wx=wr.drew.setRow w.heap.size (rmC m y)⟩)]) (fun wx=>Blk wx rb 29 (rmC m y)) (fun wx=>wx=wr.drew) jk jk (dS jk) HMr.out rfl ?_;simp only[zX,List.take_zero,zm,List.drop_zero];refine aD 1 ?_ rfl jr jr (fun wx hC=>?_) ?_;rotate_left
  ·have u0:=hC.cell 0;have u1:=hC.cell 1;have u2:=hC.cell 2;have u3:=hC.cell 3;have u4:=hC.cell 4;have u5:=hC.cell 5;have u6:=hC.cell 6;have u7:=hC.cell 7;have u8:=hC.cell 8;have u9:=hC.cell 9;have u10:=hC.cell 10;have u11:=hC.cell 11;simp only[rmC,zA,zB,zC]at u0 u1 u2 u3 u4 u5 u6 u7 u8 u9 u10 u11;go_simp;all_goals with_reducible rfl
  try simp only[Act.put,zD,zE,zF]
  refine aD 2 ?_ rfl jr jr (fun wx hC=>?_) ?_;rotate_left
  ·have u0:=hC.cell 0;have u1:=hC.cell 1;have u2:=hC.cell 2;have u3:=hC.cell 3;have u4:=hC.cell 4;have u5:=hC.cell 5;have u6:=hC.cell 6;have u7:=hC.cell 7;have u8:=hC.cell 8;have u9:=hC.cell 9;have u10:=hC.cell 10;have u11:=hC.cell 11;simp only[rmC,zA,zB,zC]at u0 u1 u2 u3 u4 u5 u6 u7 u8 u9 u10 u11;go_simp;all_goals with_reducible rfl
  try simp only[Act.put,zD,zE,zF]
  refine aD 3 ?_ rfl jr jr (fun wx hC=>?_) ?_;rotate_left
  ·have u0:=hC.cell 0;have u1:=hC.cell 1;have u2:=hC.cell 2;have u3:=hC.cell 3;have u4:=hC.cell 4;have u5:=hC.cell 5;have u6:=hC.cell 6;have u7:=hC.cell 7;have u8:=hC.cell 8;have u9:=hC.cell 9;have u10:=hC.cell 10;have u11:=hC.cell 11;simp only[rmC,zA,zB,zC]at u0 u1 u2 u3 u4 u5 u6 u7 u8 u9 u10 u11;go_simp;all_goals with_reducible rfl
  try simp only[Act.put,zD,zE,zF]
  refine aD 4 ?_ rfl jr jr (fun wx hC=>?_) ?_;rotate_left
  ·have u0:=hC.cell 0;have u1:=hC.cell 1;have u2:=hC.cell 2;have u3:=hC.cell 3;have u4:=hC.cell 4;have u5:=hC.cell 5;have u6:=hC.cell 6;have u7:=hC.cell 7;have u8:=hC.cell 8;have u9:=hC.cell 9;have u10:=hC.cell 10;have u11:=hC.cell 11;simp only[rmC,zA,zB,zC]at u0 u1 u2 u3 u4 u5 u6 u7 u8 u9 u10 u11;go_simp;all_goals with_reducible rfl
  try simp only[Act.put,zD,zE,zF]
  refine dz 5 _ rfl jr jr (fun wx hC hI=>?_) (fun x=>?_)
  ·subst hI;exact rQ 29 _ _ rfl w.heap.size (rmC m y) rfl rfl 29 zmC HRd.out jk rfl (by simp[rmC,zmC,Value.oneCell']) ⟨(vJ wr.drew w.heap.size rb (rmC m y) jo).trans HMr.out.drew,(),rfl,rfl⟩
  obtain⟨⟩:=x;try simp only[Act.put,zD,zE,zF]
  refine dZ (fun w8 hC hI=>?_);subst hI;have HX8:=zh (zx wr.drew w.heap.size zmC (rmC m y) _ _ HRd.out);have HL8:Hid (Lp w wB.heap.size X rb (130*k) v lw m m y S Lc (wr.drew.setRow w.heap.size (rmC m y))):=zh (Lp.ret (w:=wr.drew) (HL.out.below (zw _ _).drew) HRd.out (zG _) hrr _);clear hC HL HMr HRd HRSr;generalize wr.drew.setRow w.heap.size (rmC m y)=w8 at *;go_wp2_with fail;refine zu (BO rfl rfl (zr _ w.heap.size 29 29 (rmC m y) (0,0) _ HX8.out underlying29 rfl jk)) rfl ?_;exact⟨wB.heap.size,X,rb,130*k,v,lw,m,y,S,Lc,rfl,jo,HCc.out,HL8.out⟩
end Md
end Go.Proofs.YtmomjpolkkbhnaaGreat
