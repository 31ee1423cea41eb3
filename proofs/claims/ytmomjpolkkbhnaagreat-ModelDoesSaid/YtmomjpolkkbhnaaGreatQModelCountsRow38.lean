/- The document's field, Match: the walks. -/
import Derived.Test.YtmomjpolkkbhnaaGreatQModelCountsRow18
set_option linter.unusedSimpArgs false
set_option maxRecDepth 20000
set_option maxHeartbeats 100000000
open Go.Proofs.Tryz
namespace Go.Proofs.YtmomjpolkkbhnaaGreat
namespace Qy
open Go.RowKit Ut Tk
theorem BJ(s:ByteArray):∀x∈words s.data.toList,x.length≤1048576:=fun x hx=>by
 have:=(Ba s.data.toList x hx).2;omega
theorem EO(k:Int)(hk:k=2∨k=3∨k=4)(nm:ByteArray)(ws:List ByteArray)(WA CA:Option Addr)(m wc n c2:Nat)(y:ByteArray)(w:World)(hy:y.size≤1048576)
  (hW:Reads w w.heap.size 1 WA m (ws.map Value.string)) (hm:ws.length=m) (hm2:m≤8796093021952) :
  Calls prog 147 #[.agg #[.int .i64 k,.string nm,.slice WA m wc,.slice CA n c2],.string y] w fun e w'=>e=.returned (.bool (bH k ws (words y.data.toList)))∧zWW w w':=by
 have hb2:zWW w (w.alloc (.cells #[.int .i64 k,.string nm,.slice WA m wc,.slice CA n c2] 60)):=zRR _;have hQ:=Blk.new w 60 #[.int .i64 k,.string nm,.slice WA m wc,.slice CA n c2];have hW2:=bD hb2 hW;have c0:=tF y (w.alloc (.cells #[.int .i64 k,.string nm,.slice WA m wc,.slice CA n c2] 60)) hy;have hwl:=iW y;have hws:=BJ y;have HW:=zh hW2;have HQ:=zh hQ;have Hb2:=zh hb2;have Hws:=zh hws;have Hm:=zh hm;clear hW hb2 hQ hW2 hws hm;generalize words y.data.toList=T at *;rcases hk with rfl|rfl|rfl
 ·by_cases h1:m=1
  ·have h1':((m:Int)==1)=true:=by rw[beq_iff_eq];omega
   have e:bH 2 ws T=decide (0<(phr T ws).length):=by unfold bH;simp[Hm.out,h1]
   rw[e];generalize hP:phr T ws=P;have HP:=zh hP;clear e h1 hP;go_enter func147,ntmps147;go_wp2_with fail;refine c0.mono ?_;rintro e w2 ⟨v,rfl,hown,hb⟩;obtain⟨A,c,rfl,hR⟩:=aU hown;have hq:=HQ.out.below hb jz;have hq0:=hq.cell 0;have hq2:=hq.cell 2;simp at hq0 hq2;have hRw:=bD hb HW.out;have hz:=hq.lt;have c1:=fun wx (hbx:zWW w2 wx)=>tJ A T.length c T WA m wc ws wx (bD hbx hR) rfl jo (bD hbx hRw) Hm.out hm2
   simp only[HP.out]at c1;have C1:=zh c1;have Hb:=zt Hb2 hb;clear hown hR hq hRw c1 hb c0;go_wp2_with fail;refine(C1.out w2 (zw _ _)).mono ?_;rintro e w3 ⟨v3,rfl,hI⟩;obtain⟨A3,c3,rfl,_⟩:=aU hI.own;have Hb3:=zh (Hb.out.trans (hI.bel.mono Hb.out.size));clear hI;go_wp2;go_ret;exact⟨jz,Hb3.out⟩
  have h1':((m:Int)==1)=false:=by rw[zM];omega
  have e:bH 2 ws T=false:=by unfold bH;simp[Hm.out,h1]
  rw[e];clear e h1;go_enter func147,ntmps147;go_wp2_with fail;refine c0.mono ?_;rintro e w2 ⟨v,rfl,hown,hb⟩;obtain⟨A,c,rfl,hR⟩:=aU hown;have hq:=HQ.out.below hb jz;have hq0:=hq.cell 0;have hq2:=hq.cell 2;simp at hq0 hq2;have hRw:=bD hb HW.out;have hz:=hq.lt;have Hb:=zt Hb2 hb;clear hown hR hq hRw hb c0;go_wp2;go_ret;exact⟨rfl,Hb.out⟩
 ·by_cases h1:m=1
  ·obtain⟨p,rfl⟩:∃p,ws=[p]:=List.length_eq_one_iff.1 (by rw[Hm.out,h1]);obtain rfl:m=1:=h1;have e:bH 3 [p] T=T.any (bS · p):=by unfold bH;simp
   rw[e];generalize hP:T.any (bS · p)=P;have HP:=zh hP;clear e hP;go_enter func147,ntmps147;go_wp2_with fail;refine c0.mono ?_;rintro e w2 ⟨v,rfl,hown,hb⟩;obtain⟨A,c,rfl,hR⟩:=aU hown;have hq:=HQ.out.below hb jz;have hq0:=hq.cell 0;have hq2:=hq.cell 2;simp at hq0 hq2;have hRw:=bD hb HW.out;have hz:=hq.lt;obtain⟨b,o,hl,rfl,hbb,hc⟩:=hRw.at_map (k:=0) jo;simp at hc;have c1:=AX A T.length c T p w2 hR rfl jo Hws.out;have Hb:=zt Hb2 hb;rw[HP.out]at c1;clear hown hR hq hRw hb c0;go_wp2_with fail;refine c1.mono ?_;rintro e w3 ⟨rfl,rfl⟩;go_wp2;go_ret;exact⟨rfl,Hb.out⟩
  have h1':((m:Int)==1)=false:=by rw[zM];omega
  have e:bH 3 ws T=false:=by
   unfold bH;simp only[if_true]
   split
   ·exact absurd Hm.out jm
   rfl
  rw[e];clear e h1;go_enter func147,ntmps147;go_wp2_with fail;refine c0.mono ?_;rintro e w2 ⟨v,rfl,hown,hb⟩;obtain⟨A,c,rfl,hR⟩:=aU hown;have hq:=HQ.out.below hb jz;have hq0:=hq.cell 0;have hq2:=hq.cell 2;simp at hq0 hq2;have hRw:=bD hb HW.out;have hz:=hq.lt;have Hb:=zt Hb2 hb;clear hown hR hq hRw hb c0;go_wp2;go_ret;exact⟨rfl,Hb.out⟩
 have e:bH 4 ws T=decide (0<(phr T ws).length):=by unfold bH;simp
 rw[e];generalize hP:phr T ws=P;have HP:=zh hP;clear e hP;go_enter func147,ntmps147;go_wp2_with fail;refine c0.mono ?_;rintro e w2 ⟨v,rfl,hown,hb⟩;obtain⟨A,c,rfl,hR⟩:=aU hown;have hq:=HQ.out.below hb jz;have hq0:=hq.cell 0;have hq2:=hq.cell 2;simp at hq0 hq2;have hRw:=bD hb HW.out;have hz:=hq.lt;have c1:=fun wx (hbx:zWW w2 wx)=>tJ A T.length c T WA m wc ws wx (bD hbx hR) rfl jo (bD hbx hRw) Hm.out hm2
 simp only[HP.out]at c1;have C1:=zh c1;have Hb:=zt Hb2 hb;clear hown hR hq hRw c1 hb c0;go_wp2_with fail;refine(C1.out w2 (zw _ _)).mono ?_;rintro e w3 ⟨v3,rfl,hI⟩;obtain⟨A3,c3,rfl,_⟩:=aU hI.own;have Hb3:=zh (Hb.out.trans (hI.bel.mono Hb.out.size));clear hI;go_wp2;go_ret;exact⟨jz,Hb3.out⟩
def kC(fs:List (ByteArray × ByteArray))(q:Q):Prop:=∀(w:World) (a0 a1 a2 a3:Value) (t:Int) (F:Option Addr) (fn fc:Nat),QAt w w.heap.size q [a0,a1,a2,a3]→EvAt w F fn fs →
 Calls prog 118 #[.agg #[a0,a1,a2,a3],.agg #[.int .i64 t,.slice F fn fc]] w fun e w'=>e=.returned (.bool (aC fs q))∧zWW w w'
structure MAt (W:World) (qb eb:Nat) (k:Int) (nm:ByteArray) (ws:List ByteArray) (l:List Q) (WA:Option Addr) (m wc:Nat) (CA:Option Addr) (n c2:Nat) (t:Int) (F:Option Addr) (fn fc:Nat) (fs:List (ByteArray × ByteArray)):Prop where
 q:Blk W qb 60 #[.int .i64 k,.string nm,.slice WA m wc,.slice CA n c2]
 e:Blk W eb 46 #[.int .i64 t,.slice F fn fc]
 ev:EvAt W F fn fs
 at_:QAt W W.heap.size (.mk k nm ws l) [.int .i64 k,.string nm,.slice WA m wc,.slice CA n c2]
section
variable {W W':World} {qb eb:Nat} {k:Int} {nm:ByteArray} {ws:List ByteArray} {l:List Q} {WA:Option Addr} {m wc:Nat} {CA:Option Addr} {n c2:Nat} {t:Int} {F:Option Addr} {fn fc:Nat} {fs:List (ByteArray × ByteArray)}
theorem MAt.grow(h:MAt W qb eb k nm ws l WA m wc CA n c2 t F fn fc fs)(hb:zWW W W'):MAt W' qb eb k nm ws l WA m wc CA n c2 t F fn fc fs:=
 ⟨h.q.below hb h.q.lt,h.e.below hb h.e.lt,h.ev.grow hb,h.at_.grow hb⟩
theorem MAt.is(h:MAt W qb eb k nm ws l WA m wc CA n c2 t F fn fc fs):QIs W W.heap.size k nm ws l WA m CA n:=by
 obtain⟨WA',m',wc',CA',n',c2',e,hI⟩:=h.at_.is;simp only[zQ,Value.slice.injEq,and_true,true_and]at e;obtain⟨⟨rfl,rfl,rfl⟩,rfl,rfl,rfl⟩:=e;exact hI
end
theorem rU{α:Type}(l:List α)(g:α→Bool)(i:Nat)(h:i<l.length):(l.take (i+1)).any g=((l.take i).any g || g l[i]):=by
 rw[zL h,List.any_append];simp
theorem AQ{α:Type}(l:List α)(g:α→Bool)(i:Nat)(h:i<l.length):(l.take (i+1)).all g=((l.take i).all g&&g l[i]):=by
 rw[zL h,List.all_append];simp
theorem BK(fs:List (ByteArray × ByteArray))(k:Int)(nm:ByteArray)(ws:List ByteArray)(l:List Q)(hl2:ws.length≤8796093021952)(hl3:l.length≤8796093021952)(ih:∀x∈l,kC fs x):kC fs (.mk k nm ws l):=by
 intro w a0 a1 a2 a3 t F fn fc hq hF;obtain⟨WA,m,wc,CA,n,c2,e,hI⟩:=hq.is;simp only[zQ,and_true]at e;obtain⟨rfl,rfl,rfl,rfl⟩:=e;have hbq:zWW w (w.alloc (.cells #[.int .i64 k,.string nm,.slice WA m wc,.slice CA n c2] 60)):=zRR _;have hb3:zWW w ((w.alloc (.cells #[.int .i64 k,.string nm,.slice WA m wc,.slice CA n c2] 60)).alloc (.cells #[.int .i64 t,.slice F fn fc] 46)):=hbq.alloc hbq.size _;have z1:(w.alloc (.cells #[.int .i64 k,.string nm,.slice WA m wc,.slice CA n c2] 60)).heap.size=w.heap.size+1:=jz;have hQ3:=((Blk.new w 60 #[.int .i64 k,.string nm,.slice WA m wc,.slice CA n c2]).alloc (.cells #[.int .i64 t,.slice F fn fc] 46));have hE3:=Blk.new (w.alloc (.cells #[.int .i64 k,.string nm,.slice WA m wc,.slice CA n c2] 60)) 46 #[.int .i64 t,.slice F fn fc];rw[z1]at hE3;have HM:Hid (MAt ((w.alloc (.cells #[.int .i64 k,.string nm,.slice WA m wc,.slice CA n c2] 60)).alloc (.cells #[.int .i64 t,.slice F fn fc] 46)) w.heap.size (w.heap.size+1) k nm ws l WA m wc CA n c2 t F fn fc fs):=zh ⟨hQ3,hE3,hF.grow hb3,hq.grow hb3⟩;have Hb3:=zh hb3;have hlm:=hI.lm;have hwn:=hI.wn;have hfn:=hF.len;have hff:=hF.few;have z3:w.heap.size+1<(World.heap ((w.alloc (.cells #[.int .i64 k,.string nm,.slice WA m wc,.slice CA n c2] 60)).alloc (.cells #[.int .i64 t,.slice F fn fc] 46))).size:=jz;clear hq hF hI hbq hb3 z1 hQ3 hE3;by_cases k1:k=1
 ·subst k1;have Fin:Hid (aC fs (.mk 1 nm ws l)=true):=zh (by rw[fB];simp);rw[Fin.out];clear hlm hwn hfn ih;go_enter func118,ntmps118;go_wp2;go_ret;exact⟨rfl,Hb3.out⟩
 by_cases k234:k=2∨k=3∨k=4
 ·have Fin:Hid (aC fs (.mk k nm ws l)=eY k nm ws fs):=zh (by rw[fB,zH k1,zI k234]);rw[Fin.out];have Hfn:=zh hfn;have Hwn:=zh hwn;have hm2:m≤8796093021952:=jo;obtain⟨g,hg⟩:∃g,g=bH k ws:=⟨_,rfl⟩;have hLb:eY k nm ws fs=fs.any (fun f=>f.1.data.toList==nm.data.toList&&g (words f.2.data.toList)):=by rw[hg];rfl
  have Fld:=zh (fun(y:ByteArray) (wx:World) hy hr=>(show Calls prog 147 #[.agg #[.int .i64 k,.string nm,.slice WA m wc,.slice CA n c2],.string y] wx (fun e w'=>e=.returned (.bool (g (words y.data.toList)))∧zWW wx w') by rw[hg];exact EO k k234 nm ws WA CA m wc n c2 y wx hy hr Hwn.out hm2));rw[hLb];obtain⟨P,hP⟩:∃P:World→Prop,∀wr,P wr↔MAt wr w.heap.size (w.heap.size+1) k nm ws l WA m wc CA n c2 t F fn fc fs:=⟨_,fun _=>Iff.rfl⟩;have HP:=zh hP;clear hlm ih Fin hl2 hl3 hfn hwn hg hLb hP;generalize hL:fs.any (fun f=>f.1.data.toList==nm.data.toList&&g (words f.2.data.toList))=L;have HL:=zh hL;clear hL;rcases k234 with rfl|rfl|rfl
  all_goals
   clear k1;go_enter func118,ntmps118;go_wp2_with fail;go_loopw [5] (fun i wr=>∃j:Nat,j≤fn∧i=.int .i64 j∧(fs.take j).any (fun f=>f.1.data.toList==nm.data.toList&&g (words f.2.data.toList))=false∧P wr∧zWW w wr) (fun i _=>fn-(intOf i).toNat)
   case atStart=>exact⟨0,zS _,rfl,rfl,(HP.out _).2 HM.out,Hb3.out⟩
   obtain⟨j,hj,rfl,hal,hm,hb⟩:=hrel;have HMr:=zh ((HP.out wr).1 hm);have Hal:=zh hal;have Hbr:=zh hb;clear hal hb hm;have he1:=HMr.out.e.cell 1;simp at he1;by_cases hlt:j<fn
   ·obtain⟨tb,tq,rfl,htb,hc1,hc2⟩:=iB HMr.out.ev.rd (k:=j) (by rw[Hfn.out];exact hlt);have hjl:j<fs.length:=by rw[Hfn.out];exact hlt
    have hat:=rU fs (fun f=>f.1.data.toList==nm.data.toList&&g (words f.2.data.toList)) j hjl;rw[Hal.out,Bool.false_or]at hat;have hxe:(fs[j].1.data.toList==nm.data.toList)=(fs[j].1.toList==nm.toList):=by rw[tl,tl]
    rw[hxe]at hat;have hsz:=HMr.out.ev.sz _ (za hjl);have hmem:fs[j]∈fs:=za hjl;have Hmem:Hid ((fs[j].1.toList==nm.toList&&g (words fs[j].2.data.toList))=true→L=true):=zh (fun e=>HL.out ▸ List.any_eq_true.2 ⟨_,hmem,by rw[hxe];exact e⟩);have c1:=fun wx (hC:zWW wr wx)=>Fld.out fs[j].2 wx hsz (HMr.out.grow hC).is.wds
    have hcells:∀wx,zWW wr wx→wx.cell? ⟨w.heap.size,0,none⟩=some (.int .i64 _)∧wx.cell? ⟨w.heap.size,1,none⟩=some (.string nm)∧wx.cell? ⟨w.heap.size,2,none⟩=some (.slice WA m wc)∧wx.cell? ⟨w.heap.size,3,none⟩=some (.slice CA n c2) ∧
      wx.cell? ⟨w.heap.size+1,1,none⟩=some (.slice (some ⟨tb,tq,none⟩) fn fc)∧wx.cell? ⟨tb,tq+j*2,none⟩=some (.string fs[j].1)∧wx.cell? ⟨tb,tq+j*2+1,none⟩=some (.string fs[j].2):=fun wx hC=>
     ⟨(HMr.out.grow hC).q.cell 0,(HMr.out.grow hC).q.cell 1,(HMr.out.grow hC).q.cell 2,(HMr.out.grow hC).q.cell 3,(HMr.out.grow hC).e.cell 1,(hC.cell (p:=⟨tb,tq+j*2,none⟩) htb).trans hc1,(hC.cell (p:=⟨tb,tq+j*2+1,none⟩) htb).trans hc2⟩
    have hi0:(0:Int)≤(j:Int):=jo;have hi1:(j:Int)<(fn:Int):=jo;have C1:=zh c1;have hcells':=zh hcells;have Hat:=zh hat;have Hnp:Hid (∀wx,zWW wr wx→P wx):=zh (fun wx hC=>(HP.out wx).2 (HMr.out.grow hC));clear c1 hcells hat hmem hsz hc1 hc2 hxe;generalize g (words fs[j].2.data.toList)=r at *;generalize fs[j].1=x at *;generalize fs[j].2=y at *;by_cases hxy:(x.toList==nm.toList)=true
    ·go_wp2_with fail;refine cH (aI [(17,⟨Unit,fun _=>(.bool r),fun _ _=>True⟩)]) (fun wx=>Below (World.heap wr).size wr wx) (fun w1 w2=>zWW w1 w2) jk jk (aN (fun _ _ _ _ h=>h) (aX)) (zw _ _).drew ?_
     iterate 17
      refine aH _ ?_ rfl jr jr (fun wx hC hD=>?_) ?_;rotate_left
      ·have hSw:=hcells'.out wx hC;go_simp;all_goals with_reducible rfl
      try simp only[Act.put,zD,zE,zF]
     refine ae 18 _ rfl jr jr (fun wx hC hD=>?_) (fun x=>?_)
     ·refine aZ (f:=?_) (args:=?_) ?_ ?_;rotate_left 2
      ·have hSw:=hcells'.out wx hC;go_simp;all_goals first|with_reducible rfl|(refine⟨?_,?_⟩<;>with_reducible rfl)
      exact cz hC (C1.out wx hC)
     obtain⟨⟩:=x;try simp only[Act.put,zD,zE,zF]
     refine aH 19 ?_ rfl jr jr (fun wx hC hD=>?_) ?_;rotate_left
     ·have hSw:=hcells'.out wx hC;go_simp;all_goals with_reducible rfl
     try simp only[Act.put,zD,zE,zF]
     refine ah (fun w4 hC hF=>?_);have Hf:=zt Hbr hC;have HPn:=zh (Hnp.out _ hC);clear hF hC
     cases r with
     | true=>
      have Fin:=zh (Hmem.out (by rw[hxy];rfl));go_wp2;go_ret;exact⟨by rw[Fin.out];rfl,Hf.out⟩
     | false=>
      have Hnx:=zh (Hat.out.trans (by rw[Bool.and_false]));go_wp2;go_roundw
      case rel=>exact⟨j+1,jo,ju,Hnx.out,HPn.out,Hf.out⟩
      simp[intOf];omega
    have hxf:(x.toList==nm.toList)=false:=Bool.eq_false_iff.2 hxy;have Hnx:=zh (Hat.out.trans (by rw[hxf,Bool.false_and]));clear hxy;go_wp2_with fail;refine cH (aI []) (fun wx=>Below (World.heap wr).size wr wx) (fun w1 w2=>zWW w1 w2) jk jk (aX) (zw _ _).drew ?_
    iterate 10
     refine aH _ ?_ rfl jr jr (fun wx hC hD=>?_) ?_;rotate_left
     ·have hSw:=hcells'.out wx hC;go_simp;all_goals with_reducible rfl
     try simp only[Act.put,zD,zE,zF]
    refine aS 11 (some false) true rfl jr jr jr ?_;try simp only[Act.put,zD,zE,zF]
    refine aS 12 (some false) true rfl jr jr jr ?_;try simp only[Act.put,zD,zE,zF]
    refine aS 13 (some false) true rfl jr jr jr ?_;try simp only[Act.put,zD,zE,zF]
    refine aS 14 (some false) true rfl jr jr jr ?_;try simp only[Act.put,zD,zE,zF]
    refine aS 15 (some false) true rfl jr jr jr ?_;try simp only[Act.put,zD,zE,zF]
    refine aS 16 (some false) true rfl jr jr jr ?_;try simp only[Act.put,zD,zE,zF]
    refine aS 17 (some false) true rfl jr jr jr ?_;try simp only[Act.put,zD,zE,zF]
    refine aS 18 (some false) true rfl jr jr jr ?_;try simp only[Act.put,zD,zE,zF]
    refine aH 19 ?_ rfl jr jr (fun wx hC hD=>?_) ?_;rotate_left
    ·have hSw:=hcells'.out wx hC;go_simp;all_goals with_reducible rfl
    try simp only[Act.put,zD,zE,zF]
    refine ah (fun w4 hC hF=>?_);have Hf:=zt Hbr hC;have HPn:=zh (Hnp.out _ hC);clear hF hC;go_wp2;go_roundw
    case rel=>exact⟨j+1,jo,ju,Hnx.out,HPn.out,Hf.out⟩
    simp[intOf];omega
   obtain rfl:j=fn:=jo;have Fin:Hid (L=false):=zh (by have:=Hal.out;rw[zR (by rw[Hfn.out];exact zG _)]at this;exact HL.out ▸ this);go_wp2;go_ret;exact⟨by rw[Fin.out];rfl,Hbr.out⟩
 by_cases k5:k=5
 ·subst k5;have Fin:Hid (aC fs (.mk 5 nm ws l)=l.all (aC fs)):=zh (by rw[fB];simp);rw[Fin.out];have Hln:=zh hlm;have Ih:=zh ih;clear hwn hfn Fin hl2 ih hlm k1 k234;go_enter func118,ntmps118;go_wp2_with fail;go_loopw [6] (fun i wr=>∃j:Nat,j≤n∧i=.int .i64 j∧(l.take j).all (aC fs)=true∧Below (World.heap ((w.alloc (.cells #[.int .i64 5,.string nm,.slice WA m wc,.slice CA n c2] 60)).alloc (.cells #[.int .i64 t,.slice F fn fc] 46))).size ((w.alloc (.cells #[.int .i64 5,.string nm,.slice WA m wc,.slice CA n c2] 60)).alloc (.cells #[.int .i64 t,.slice F fn fc] 46)) wr) (fun i _=>n-(intOf i).toNat)
  case atStart=>exact⟨0,zS _,rfl,rfl,zw _ _⟩
  obtain⟨j,hj,rfl,hal,hb⟩:=hrel;have HMr:=zh (HM.out.grow hb);have Hal:=zh hal;have Hbr:=zt Hb3 hb;have Hb:=zh hb;have hq3:=HMr.out.q.cell 3;simp at hq3;clear hal hb;by_cases hlt:j<n
  ·have hjl:j<l.length:=by rw[Hln.out];exact hlt
   obtain⟨tb,tq,A',n',c',C',m',d',e1,htb,hqx,g0,g1,g2,g3⟩:=HMr.out.is.at_ (i:=j) hjl;subst e1;have hat:=AQ l (aC fs) j hjl;rw[Hal.out,Bool.true_and]at hat;have hmem:l[j]∈l:=za hjl;have Hmem:Hid (aC fs l[j]=false→l.all (aC fs)=false):=zh (fun e=>List.all_eq_false.2 ⟨_,hmem,by rw[e];decide⟩);have c1:=fun wx (hC:zWW wr wx)=>Ih.out l[j] hmem wx _ _ _ _ t F fn fc (hqx.grow hC) (HMr.out.grow hC).ev
   have hcells:∀wx,zWW wr wx→wx.cell? ⟨w.heap.size,3,none⟩=some (.slice (some ⟨tb,tq,none⟩) n c2)∧wx.cell? ⟨w.heap.size+1,0,none⟩=some (.int .i64 t)∧wx.cell? ⟨w.heap.size+1,1,none⟩=some (.slice F fn fc) ∧
     wx.cell? ⟨tb,tq+j*4,none⟩=some (.int .i64 l[j].kind)∧wx.cell? ⟨tb,tq+j*4+1,none⟩=some (.string l[j].name)∧wx.cell? ⟨tb,tq+j*4+2,none⟩=some (.slice A' n' c')∧wx.cell? ⟨tb,tq+j*4+3,none⟩=some (.slice C' m' d'):=fun wx hC=>
    ⟨(HMr.out.grow hC).q.cell 3,(HMr.out.grow hC).e.cell 0,(HMr.out.grow hC).e.cell 1,(hC.cell (p:=⟨tb,tq+j*4,none⟩) htb).trans g0,(hC.cell (p:=⟨tb,tq+j*4+1,none⟩) htb).trans g1,(hC.cell (p:=⟨tb,tq+j*4+2,none⟩) htb).trans g2,(hC.cell (p:=⟨tb,tq+j*4+3,none⟩) htb).trans g3⟩
   have hi0:(0:Int)≤(j:Int):=jo;have hi1:(j:Int)<(n:Int):=jo;have C1:=zh c1;have hcells':=zh hcells;have Hat:=zh hat;clear c1 hcells hat hmem g0 g1 g2 g3 hqx;generalize aC fs l[j]=r at *;generalize l[j].kind=x0 at *;generalize l[j].name=x1 at *;go_wp2_with fail;refine cH (aI [(6,⟨Unit,fun _=>(.bool r),fun _ _=>True⟩)]) (fun wx=>Below (World.heap wr).size wr wx) (fun w1 w2=>zWW w1 w2) jk jk (aN (fun _ _ _ _ h=>h) (aX)) (zw _ _).drew ?_
   iterate 6
    refine aH _ ?_ rfl jr jr (fun wx hC hD=>?_) ?_;rotate_left
    ·have hSw:=hcells'.out wx hC;go_simp;all_goals with_reducible rfl
    try simp only[Act.put,zD,zE,zF]
   refine ae 7 _ rfl jr jr (fun wx hC hD=>?_) (fun x=>?_)
   ·refine aZ (f:=?_) (args:=?_) ?_ ?_;rotate_left 2
    ·have hSw:=hcells'.out wx hC;go_simp;all_goals first|with_reducible rfl|(refine⟨?_,?_⟩<;>with_reducible rfl)
    exact cz hC (C1.out wx hC)
   obtain⟨⟩:=x;try simp only[Act.put,zD,zE,zF]
   refine aH 8 ?_ rfl jr jr (fun wx hC hD=>?_) ?_;rotate_left
   ·have hSw:=hcells'.out wx hC;go_simp;all_goals with_reducible rfl
   try simp only[Act.put,zD,zE,zF]
   refine ah (fun w4 hC hF=>?_);have Hf:=zt Hbr hC;have Hg:=zt Hb hC;clear hF hC
   cases r with
   | false=>
    have Fin:=zh (Hmem.out rfl);go_wp2;go_ret;exact⟨by rw[Fin.out];rfl,Hf.out⟩
   | true=>
    have Hnx:=Hat;go_wp2;go_roundw
    case rel=>exact⟨j+1,jo,ju,Hnx.out,Hg.out⟩
    simp[intOf];omega
  obtain rfl:j=n:=jo;have Fin:Hid (l.all (aC fs)=true):=zh (by have:=Hal.out;rwa[zR (by rw[Hln.out];exact zG _)]at this);go_wp2;go_ret;exact⟨by rw[Fin.out];rfl,Hbr.out⟩
 by_cases k6:k=6
 ·subst k6;have Fin:Hid (aC fs (.mk 6 nm ws l)=l.any (aC fs)):=zh (by rw[fB];simp);rw[Fin.out];have Hln:=zh hlm;have Ih:=zh ih;clear hwn hfn Fin hl2 ih hlm k1 k234;go_enter func118,ntmps118;go_wp2_with fail;go_loopw [7] (fun i wr=>∃j:Nat,j≤n∧i=.int .i64 j∧(l.take j).any (aC fs)=false∧Below (World.heap ((w.alloc (.cells #[.int .i64 6,.string nm,.slice WA m wc,.slice CA n c2] 60)).alloc (.cells #[.int .i64 t,.slice F fn fc] 46))).size ((w.alloc (.cells #[.int .i64 6,.string nm,.slice WA m wc,.slice CA n c2] 60)).alloc (.cells #[.int .i64 t,.slice F fn fc] 46)) wr) (fun i _=>n-(intOf i).toNat)
  case atStart=>exact⟨0,zS _,rfl,rfl,zw _ _⟩
  obtain⟨j,hj,rfl,hal,hb⟩:=hrel;have HMr:=zh (HM.out.grow hb);have Hal:=zh hal;have Hbr:=zt Hb3 hb;have Hb:=zh hb;have hq3:=HMr.out.q.cell 3;simp at hq3;clear hal hb;by_cases hlt:j<n
  ·have hjl:j<l.length:=by rw[Hln.out];exact hlt
   obtain⟨tb,tq,A',n',c',C',m',d',e1,htb,hqx,g0,g1,g2,g3⟩:=HMr.out.is.at_ (i:=j) hjl;subst e1;have hat:=rU l (aC fs) j hjl;rw[Hal.out,Bool.false_or]at hat;have hmem:l[j]∈l:=za hjl;have Hmem:Hid (aC fs l[j]=true→l.any (aC fs)=true):=zh (fun e=>List.any_eq_true.2 ⟨_,hmem,e⟩);have c1:=fun wx (hC:zWW wr wx)=>Ih.out l[j] hmem wx _ _ _ _ t F fn fc (hqx.grow hC) (HMr.out.grow hC).ev
   have hcells:∀wx,zWW wr wx→wx.cell? ⟨w.heap.size,3,none⟩=some (.slice (some ⟨tb,tq,none⟩) n c2)∧wx.cell? ⟨w.heap.size+1,0,none⟩=some (.int .i64 t)∧wx.cell? ⟨w.heap.size+1,1,none⟩=some (.slice F fn fc) ∧
     wx.cell? ⟨tb,tq+j*4,none⟩=some (.int .i64 l[j].kind)∧wx.cell? ⟨tb,tq+j*4+1,none⟩=some (.string l[j].name)∧wx.cell? ⟨tb,tq+j*4+2,none⟩=some (.slice A' n' c')∧wx.cell? ⟨tb,tq+j*4+3,none⟩=some (.slice C' m' d'):=fun wx hC=>
    ⟨(HMr.out.grow hC).q.cell 3,(HMr.out.grow hC).e.cell 0,(HMr.out.grow hC).e.cell 1,(hC.cell (p:=⟨tb,tq+j*4,none⟩) htb).trans g0,(hC.cell (p:=⟨tb,tq+j*4+1,none⟩) htb).trans g1,(hC.cell (p:=⟨tb,tq+j*4+2,none⟩) htb).trans g2,(hC.cell (p:=⟨tb,tq+j*4+3,none⟩) htb).trans g3⟩
   have hi0:(0:Int)≤(j:Int):=jo;have hi1:(j:Int)<(n:Int):=jo;have C1:=zh c1;have hcells':=zh hcells;have Hat:=zh hat;clear c1 hcells hat hmem g0 g1 g2 g3 hqx;generalize aC fs l[j]=r at *;generalize l[j].kind=x0 at *;generalize l[j].name=x1 at *;go_wp2_with fail;refine cH (aI [(6,⟨Unit,fun _=>(.bool r),fun _ _=>True⟩)]) (fun wx=>Below (World.heap wr).size wr wx) (fun w1 w2=>zWW w1 w2) jk jk (aN (fun _ _ _ _ h=>h) (aX)) (zw _ _).drew ?_
   iterate 6
    refine aH _ ?_ rfl jr jr (fun wx hC hD=>?_) ?_;rotate_left
    ·have hSw:=hcells'.out wx hC;go_simp;all_goals with_reducible rfl
    try simp only[Act.put,zD,zE,zF]
   refine ae 7 _ rfl jr jr (fun wx hC hD=>?_) (fun x=>?_)
   ·refine aZ (f:=?_) (args:=?_) ?_ ?_;rotate_left 2
    ·have hSw:=hcells'.out wx hC;go_simp;all_goals first|with_reducible rfl|(refine⟨?_,?_⟩<;>with_reducible rfl)
    exact cz hC (C1.out wx hC)
   obtain⟨⟩:=x;try simp only[Act.put,zD,zE,zF]
   refine ah (fun w4 hC hF=>?_);have Hf:=zt Hbr hC;have Hg:=zt Hb hC;clear hF hC
   cases r with
   | true=>
    have Fin:=zh (Hmem.out rfl);go_wp2;go_ret;exact⟨by rw[Fin.out];rfl,Hf.out⟩
   | false=>
    have Hnx:=Hat;go_wp2;go_roundw
    case rel=>exact⟨j+1,jo,ju,Hnx.out,Hg.out⟩
    simp[intOf];omega
  obtain rfl:j=n:=jo;have Fin:Hid (l.any (aC fs)=false):=zh (by have:=Hal.out;rwa[zR (by rw[Hln.out];exact zG _)]at this);go_wp2;go_ret;exact⟨by rw[Fin.out];rfl,Hbr.out⟩
 by_cases k7:k=7
 ·subst k7;have Fin:Hid (aC fs (.mk 7 nm ws l)=fA fs l):=zh (by rw[fB];simp);rw[Fin.out];by_cases hn1:n=1
  ·obtain⟨x,rfl⟩:∃x,l=[x]:=List.length_eq_one_iff.1 jo;obtain⟨tb,tq,A',n',c',C',m',d',e1,htb,hqx,g0,g1,g2,g3⟩:=HM.out.is.at_ (i:=0) jz;subst e1;obtain rfl:n=1:=hn1;have hx:=ih x jz;simp only[List.getElem_cons_zero,Nat.zero_mul,Nat.add_zero]at hqx g0 g1 g2 g3
   have hcells:∀wx,Below (World.heap ((w.alloc (.cells #[.int .i64 7,.string nm,.slice WA m wc,.slice (some ⟨tb,tq,none⟩) 1 c2] 60)).alloc (.cells #[.int .i64 t,.slice F fn fc] 46))).size ((w.alloc (.cells #[.int .i64 7,.string nm,.slice WA m wc,.slice (some ⟨tb,tq,none⟩) 1 c2] 60)).alloc (.cells #[.int .i64 t,.slice F fn fc] 46)) wx→wx.cell? ⟨w.heap.size,3,none⟩=some (.slice (some ⟨tb,tq,none⟩) 1 c2)∧wx.cell? ⟨w.heap.size+1,0,none⟩=some (.int .i64 t)∧wx.cell? ⟨w.heap.size+1,1,none⟩=some (.slice F fn fc) ∧
     wx.cell? ⟨tb,tq,none⟩=some (.int .i64 x.kind)∧wx.cell? ⟨tb,tq+1,none⟩=some (.string x.name)∧wx.cell? ⟨tb,tq+2,none⟩=some (.slice A' n' c')∧wx.cell? ⟨tb,tq+3,none⟩=some (.slice C' m' d'):=fun wx hC=>
    ⟨(HM.out.grow hC).q.cell 3,(HM.out.grow hC).e.cell 0,(HM.out.grow hC).e.cell 1,(hC.cell (p:=⟨tb,tq,none⟩) htb).trans g0,(hC.cell (p:=⟨tb,tq+1,none⟩) htb).trans g1,(hC.cell (p:=⟨tb,tq+2,none⟩) htb).trans g2,(hC.cell (p:=⟨tb,tq+3,none⟩) htb).trans g3⟩
   have c1:=fun wx (hC:Below (World.heap ((w.alloc (.cells #[.int .i64 7,.string nm,.slice WA m wc,.slice (some ⟨tb,tq,none⟩) 1 c2] 60)).alloc (.cells #[.int .i64 t,.slice F fn fc] 46))).size ((w.alloc (.cells #[.int .i64 7,.string nm,.slice WA m wc,.slice (some ⟨tb,tq,none⟩) 1 c2] 60)).alloc (.cells #[.int .i64 t,.slice F fn fc] 46)) wx)=>hx wx _ _ _ _ t F fn fc (hqx.grow hC) (HM.out.grow hC).ev
   have hN:fA fs [x]=!aC fs x:=by rw[fA]
   rw[hN];have C1:=zh c1;have hcells':=zh hcells;clear ih c1 Fin k1 k234 k5 k6 hcells hN hqx g0 g1 g2 g3 hx hwn hfn hlm;generalize aC fs x=r at *;generalize x.kind=x0 at *;generalize x.name=x1 at *;go_enter func118,ntmps118;go_wp2_with fail;refine cH (aI [(10,⟨Unit,fun _=>(.bool r),fun _ _=>True⟩)]) (fun wx=>Below (World.heap ((w.alloc (.cells #[.int .i64 7,.string nm,.slice WA m wc,.slice (some ⟨tb,tq,none⟩) 1 c2] 60)).alloc (.cells #[.int .i64 t,.slice F fn fc] 46))).size ((w.alloc (.cells #[.int .i64 7,.string nm,.slice WA m wc,.slice (some ⟨tb,tq,none⟩) 1 c2] 60)).alloc (.cells #[.int .i64 t,.slice F fn fc] 46)) wx) (fun w1 w2=>zWW w1 w2) jk jk (aN (fun _ _ _ _ h=>h) (aX)) (zw _ _).drew ?_
   iterate 10
    refine aH _ ?_ rfl jr jr (fun wx hC hD=>?_) ?_;rotate_left
    ·have hSw:=hcells'.out wx hC;go_simp;all_goals with_reducible rfl
    try simp only[Act.put,zD,zE,zF]
   refine ae 11 _ rfl jr jr (fun wx hC hD=>?_) (fun x=>?_)
   ·refine aZ (f:=?_) (args:=?_) ?_ ?_;rotate_left 2
    ·have hSw:=hcells'.out wx hC;go_simp;all_goals first|with_reducible rfl|(refine⟨?_,?_⟩<;>with_reducible rfl)
    exact cz hC (C1.out wx hC)
   obtain⟨⟩:=x;try simp only[Act.put,zD,zE,zF]
   iterate 3
    refine aH _ ?_ rfl jr jr (fun wx hC hD=>?_) ?_;rotate_left
    ·have hSw:=hcells'.out wx hC;go_simp;all_goals with_reducible rfl
    try simp only[Act.put,zD,zE,zF]
   refine ah (fun w4 hC hF=>?_);have Hb:=zt Hb3 hC;clear hF hC;go_wp2;go_ret;exact⟨rfl,Hb.out⟩
  have hn1':((n:Int)==1)=false:=by rw[zM];omega
  have hN:fA fs l=false:=by
   unfold fA
   split
   ·exact absurd hlm jm
   rfl
  rw[hN];have hcells:∀wx,Below (World.heap ((w.alloc (.cells #[.int .i64 7,.string nm,.slice WA m wc,.slice CA n c2] 60)).alloc (.cells #[.int .i64 t,.slice F fn fc] 46))).size ((w.alloc (.cells #[.int .i64 7,.string nm,.slice WA m wc,.slice CA n c2] 60)).alloc (.cells #[.int .i64 t,.slice F fn fc] 46)) wx→wx.cell? ⟨w.heap.size,3,none⟩=some (.slice CA n c2):=fun wx hC=>(HM.out.grow hC).q.cell 3
  have hcells':=zh hcells;clear ih Fin k1 k234 k5 k6 hcells hN hwn hfn hlm hn1;go_enter func118,ntmps118;go_wp2_with fail;refine cH (aI []) (fun wx=>Below (World.heap ((w.alloc (.cells #[.int .i64 7,.string nm,.slice WA m wc,.slice CA n c2] 60)).alloc (.cells #[.int .i64 t,.slice F fn fc] 46))).size ((w.alloc (.cells #[.int .i64 7,.string nm,.slice WA m wc,.slice CA n c2] 60)).alloc (.cells #[.int .i64 t,.slice F fn fc] 46)) wx) (fun w1 w2=>zWW w1 w2) jk jk (aX) (zw _ _).drew ?_
  iterate 5
   refine aH _ ?_ rfl jr jr (fun wx hC hD=>?_) ?_;rotate_left
   ·have hSw:=hcells'.out wx hC;go_simp;all_goals with_reducible rfl
   try simp only[Act.put,zD,zE,zF]
  refine aS 6 (some false) true rfl jr jr jr ?_;try simp only[Act.put,zD,zE,zF]
  refine aS 7 (some false) true rfl jr jr jr ?_;try simp only[Act.put,zD,zE,zF]
  refine aS 8 (some false) true rfl jr jr jr ?_;try simp only[Act.put,zD,zE,zF]
  refine aS 9 (some false) true rfl jr jr jr ?_;try simp only[Act.put,zD,zE,zF]
  refine aS 10 (some false) true rfl jr jr jr ?_;try simp only[Act.put,zD,zE,zF]
  refine aS 11 (some false) true rfl jr jr jr ?_;try simp only[Act.put,zD,zE,zF]
  refine aS 12 (some false) true rfl jr jr jr ?_;try simp only[Act.put,zD,zE,zF]
  iterate 2
   refine aH _ ?_ rfl jr jr (fun wx hC hD=>?_) ?_;rotate_left
   ·have hSw:=hcells'.out wx hC;go_simp;all_goals with_reducible rfl
   try simp only[Act.put,zD,zE,zF]
  refine ah (fun w4 hC hF=>?_);have Hb:=zt Hb3 hC;clear hF hC;go_wp2;go_ret;exact⟨rfl,Hb.out⟩
 have Fin:Hid (aC fs (.mk k nm ws l)=false):=zh (by rw[fB,zH k1,zH k234,zH k5,zH k6,zH k7]);rw[Fin.out];have j1:(k==1)=false:=by rw[zM];omega
 have j2:(k==2)=false:=by rw[zM];omega
 have j3:(k==3)=false:=by rw[zM];omega
 have j4:(k==4)=false:=by rw[zM];omega
 have j5:(k==5)=false:=by rw[zM];omega
 have j6:(k==6)=false:=by rw[zM];omega
 have j7:(k==7)=false:=by rw[zM];omega
 clear ih Fin k1 k234 k5 k6 k7 hwn hfn hlm;go_enter func118,ntmps118;go_wp2;go_ret;exact⟨rfl,Hb3.out⟩
theorem tz(fs:List (ByteArray × ByteArray)):∀q,QSz q→kC fs q:=by
 intro q;refine Q.ind (p:=fun q=>QSz q→kC fs q) ?_ q;intro k nm ws l ih hs
 cases hs with
 | mk h1 h2 h3=>exact BK fs k nm ws l h1 h2 (fun x hx=>ih x hx (h3 x hx))
end Qy
end Go.Proofs.YtmomjpolkkbhnaaGreat
