/- The document's model: Add (printed by gen_mef.py). -/
import Derived.Test.YtmomjpolkkbhnaaGreatQModelCountsRow39
set_option linter.unusedSimpArgs false
set_option linter.unusedVariables false
set_option maxRecDepth 20000
set_option maxHeartbeats 100000000
open Go.Proofs.Tryz
namespace Go.Proofs.YtmomjpolkkbhnaaGreat
namespace Md
open Go.RowKit Ut Tk Qy Qp Ev Ph Cu
theorem EvsS.at_{w:World}{S:Nat→Prop}{n c:Nat}{A:Option Addr}{l:List Evn}(h:EvsS w S A n c l){i:Nat}(hi:i<l.length) :
  ∃b o F fn fc,A=some ⟨b,o,none⟩∧S b∧w.cell? ⟨b,o+i*2,none⟩=some (.int .i64 l[i].1)∧w.cell? ⟨b,o+i*2+1,none⟩=some (.slice F fn fc)∧ReadsS w S 2 F fn (aO l[i].2)∧l[i].2.length=fn∧fn≤8796093021952∧fn≤fc∧(F=none→fc=0):=by
 obtain⟨vss,h1,h2,h3⟩:=h.ex;have hl:=h.ln;have hi':i<vss.length:=jo
 have h4:∀v∈vss,v.length=2:=fun v hv=>by
  obtain⟨j,hj,rfl⟩:=zp.1 hv;obtain⟨_,_,_,e,_⟩:=(h3 j jo hj).ex;rw[e];rfl
 obtain⟨F,fn,fc,e,g1,g2,g3,g4,g5⟩:=(h3 i hi hi').ex;obtain⟨b,o,eA,hb,hc⟩:=h2.2 jo;have f0:=cQ h4 i 0 hi' jo;have f1:=cQ h4 i 1 hi' jo;rw[e]at f0 f1;have c0:=hc _ _ f0;have c1:=hc _ _ f1;rw[←Nat.add_assoc]at c1;exact⟨b,o,F,fn,fc,eA,hb,c0,c1,g1,g2,g3,g4,g5⟩
def nk(w:World)(S Se:Nat→Prop)(K:Nat)(m:M)(evs:List Evn)(e:Ending)(w':World):Prop:=∃z':Rz,e=.returned (.agg (rmC m z')) ∧
 RAt w' (fun b=>S b∨Se b∨(w.heap.size≤b∧b<w'.heap.size)) (K+65) { m with ds:=m.ds++Ev.mkD ((m.ds.length:Nat)+1) evs } z'∧z'.n=m.ds.length+evs.length∧zWW w w'
section
variable {w:World} {S Se:Nat→Prop} {K:Nat} {m:M} {z:Rz}
theorem GJ(h:RAt w S K m z)(hK:K≤60000)(A:Option Addr)(n c:Nat)(evs:List Evn)(hE:EvsS w Se A n c evs)(hSe:∀b,Se b→b<w.heap.size)(hck:bI ((m.ds.length:Nat)+1) evs=0)(ht:∀e∈evs,I64 e.1) :
  Calls prog 83 #[.agg (rmC m z),.slice A n c] w (nk w S Se K m evs):=by
 obtain⟨i0,hi0,hz0,hz1,hz2⟩:=info_parts Ev.fR;obtain⟨j0,hj0,hy0,hy1,hy2⟩:=info_parts iY;have hb:zWW w ((w.alloc (.cells (rmC m z) 29)).alloc (.cells zmC 29)):=(zRR _).alloc jz _;have hm:=(Blk.new w 29 (rmC m z)).alloc (.cells zmC 29);have hr:=Blk.new (w.alloc (.cells (rmC m z) 29)) 29 zmC;have z1:(w.alloc (.cells (rmC m z) 29)).heap.size=w.heap.size+1:=jz;rw[z1]at hr;have HM:=zh hm;have HR:=zh hr;have HB:=zh hb;have HA:=zh (h.below hb);have HEV:=zh hE;have hzn1:m.ds.length≤z.n:=by rw[h.ds.ln];exact zG _
 have hzn2:z.n≤m.ds.length:=by rw[h.ds.ln];exact zG _
 have HZN:=zh h.ds.ln;have HEL:=zh hE.ln;have h64:n≤64:=by rw[←HEL.out];exact(mR hck).2.1
 have hsz:w.heap.size+2=(World.heap ((w.alloc (.cells (rmC m z) 29)).alloc (.cells zmC 29))).size:=jz;have hfew:=h.few;have hek:=h.ek;have HSW:Hid ((∀b,S b→b<w.heap.size)∧∀b,Se b→b<w.heap.size):=zh ⟨h.lt,hSe⟩;have hak:=h.ok.ak;have HOK:=zh (nH h.ok evs hck ht m.acked ⟨hak.1,jo⟩);have HPOST:Hid (∀(e:Ending) (w':World),nk w S Se K m evs e w'→nk w S Se K m evs e w'):=zh (fun _ _ h=>h);obtain⟨vss,g1,g2,g3⟩:=(h.below hb).ds.ex;have g2R:Reads _ _ 3 z.A z.n vss.flatten:=g2.reads (fun b hb'=>zT (h.lt b hb') hb.size);have G2:=zh g2R;have G1:=zh g1;have G3:=zh g3;have HON:=zh (p7 (by rw[g1,HZN.out]) g3);have HNL:=zh (And.intro h.cap h.nl);have HENA:=zh h.en;clear h hE hSe hck ht hb hm hr z1 g1 g2 g3 g2R;go_enter func83,ntmps83
 go_upto_region 1 with(fail);generalize ((w.alloc (.cells (rmC m z) 29)).alloc (.cells zmC 29))=w1 at *;have k7:=HM.out.cell 7;simp only[rmC,zA,zB,zC]at k7;have hMl:=HM.out.lt;have hne10:w.heap.size+1≠w.heap.size:=jo;have hba:zWW w1 (w1.alloc (.cells #[] 48)):=zRR _;have hown0:(w1.alloc (.cells #[] 48)).ownsRow w1.heap.size 48 3 (.slice (some ⟨w1.heap.size,0,none⟩) 0 0) 0 []:=by simpa using World.ownsRow_made (base:=w1.heap.size) (e:=48) (size:=3) w1 #[] 0 jz jx rfl
 have HBA:=zh hba;have HO0:=zh hown0;clear hba hown0;go_wp2_with (at_builtin;(refine AA rfl _ _ 26 rfl w1.heap.size 48 i0 _ 3 40 underlying26 hi0 hz0 hz1 hz2 rfl jd _ 0 [] rfl HO0.out z.A z.n z.c vss.flatten rfl ((G2.out.below HBA.out).more HBA.out.size) HNL.out.2 HON.out ?d1 ?d2 ?d3 ?_))
 case d1=>unfold maxLen;omega
 case d2=>omega
 case d3=>simp
 intro v2 w2 ho hg;try rw[zf]at ho
 try rw[List.nil_append]at ho
 have hbe2:zWW w1 w2:=HBA.out.grown hg HBA.out.size (fun j hj=>by injection hj with hj;subst hj;exact zG _);obtain⟨A2,c2,rfl,_,hc2,hn2,_⟩:=Ev.aP ho;have HO2:Hid (DOwnS w2 w1.heap.size (fun b=>S b∨Se b) (.slice A2 z.n c2) m.ds):=zh ⟨vss,by rw[G1.out,HZN.out],by rw[HZN.out];exact ho,fun i a b=>(G3.out i a b).same (fun b hb=>⟨.inl hb,hbe2.block b (by have:=HSW.out.1 b hb;omega)⟩)⟩;have HB2:=zh (HB.out.trans (hbe2.mono jo));have HM2:=zb HM hbe2;have HR2:=zb HR hbe2;have hs2:=hbe2.size;clear ho hg hbe2 HO0 HBA HM HR HB HA G1 G2 G3 HON k7;have k7:=HM2.out.cell 7;simp only[rmC,zA,zB,zC]at k7;have k7f:=HM2.out.frozen 7
 have HM3:Hid (Blk (w2.setCell ⟨w.heap.size,7,none⟩ (.slice A2 z.n c2)) w.heap.size 29 (rmC m ⟨A2,z.n,c2,z.EA,z.en,z.ec⟩)):=zh (by
  have:=HM2.out.set_ 7 (.slice A2 z.n c2)
  simpa[rmC]using this)
 have HR3:=zh (HR2.out.far (p:=⟨w.heap.size,7,none⟩) hne10 (.slice A2 z.n c2));have HB3:=zh (HB2.out.setCell (p:=⟨w.heap.size,7,none⟩) (zG _) (.slice A2 z.n c2));have HSF:Hid (∀(wa:World) (u:Value) (i:Nat) (b:Nat),(S b∨Se b)→(S b∨Se b)∧(wa.setCell ⟨w.heap.size,i,none⟩ u).heap[b]?=wa.heap[b]?):=zh (fun wa u i b hb=>⟨hb,vL _ _ _ _ (fun e=>by have e:b=w.heap.size:=e;rcases hb with hb|hb;(have:=HSW.out.1 b hb;omega);(have:=HSW.out.2 b hb;omega))⟩)
 have HOF:Hid (∀(wa:World) (u v:Value) (i:Nat) (D:List Dc),DOwnS wa w1.heap.size (fun b=>S b∨Se b) v D→DOwnS (wa.setCell ⟨w.heap.size,i,none⟩ u) w1.heap.size (fun b=>S b∨Se b) v D):=zh (fun wa u v i D h=>h.same (fun b hv=>vL _ _ _ _ (fun e=>by
  have e:b=w.heap.size:=e;obtain⟨vss,g1,g2,g3⟩:=h.ex;have:=(g2.lt b hv).1
  omega)) (HSF.out wa u i))
 have HO3:=zh (HOF.out w2 (.slice A2 z.n c2) _ 7 _ HO2.out);have hs3:w1.heap.size≤(w2.setCell ⟨w.heap.size,7,none⟩ (.slice A2 z.n c2)).heap.size:=by simp[World.setCell];omega
 go_upto_region 2 with(fail);generalize w2.setCell ⟨w.heap.size,7,none⟩ (.slice A2 z.n c2)=w3 at *;have hnz:Hid (z.n=m.ds.length+0):=zh jo;have HL0:Hid (DOwnS w3 w1.heap.size (fun b=>S b∨Se b) (.slice A2 z.n c2) (m.ds++Ev.mkD ((m.ds.length:Nat)+1) (evs.take 0))):=zh (by simpa[Ev.mkD]using HO3.out);have hcap2:z.n≤c2:=hc2;clear k7 k7f HM2 HR2 HB2 HO2 HO3 hc2 hn2 hs2;go_wp2_with fail;go_loopw [5] (fun iv wr=>∃(k:Nat) (A2:Option Addr) (n2 c2:Nat),iv=.int .i64 (k:Nat)∧k≤n∧Hid (n2=m.ds.length+k)∧Hid (Blk wr w.heap.size 29 (rmC m ⟨A2,n2,c2,z.EA,z.en,z.ec⟩))∧Hid (Blk wr (w.heap.size+1) 29 zmC)∧Hid (DOwnS wr w1.heap.size (fun b=>S b∨Se b) (.slice A2 n2 c2) (m.ds++Ev.mkD ((m.ds.length:Nat)+1) (evs.take k)))∧Hid (zWW w wr)∧w1.heap.size≤wr.heap.size) (fun iv _=>n-(intOf iv).toNat)
 case atStart=>exact⟨0,A2,z.n,c2,rfl,zS _,hnz,HM3,HR3,HL0,HB3,hs3⟩
 clear HM3 HR3 HL0 HB3 hs3 hnz hcap2;obtain⟨k,A2,n2,c2,rfl,hk,HN2,HMr,HRr,HOr,HBr,hsr⟩:=hrel;have hn2a:n2≤m.ds.length+k:=by rw[HN2.out];exact zG _
 have hn2b:m.ds.length+k≤n2:=by rw[HN2.out];exact zG _
 by_cases hlt:k<n
 ·have hkz:(k:Int)<(n:Int):=jo;have hk0:(0:Int)≤(k:Int):=jo;have hke:k<evs.length:=by rw[HEL.out];exact hlt
  obtain⟨eb,eo,F,fn,fc,hAe,hSb,c0,c1,hrf,hfl,hfn,hfc,hfnl⟩:=HEV.out.at_ hke;have hebw:=HSW.out.2 eb hSb;have HDC:Hid (∀wx,zWW w wx→DcS wx (fun b=>S b∨Se b) ⟨((n2:Nat):Int)+1,evs[k].1,evs[k].2⟩ [.int .i64 (((n2:Nat):Int)+1),.int .i64 evs[k].1,.slice F fn fc]):=zh (fun wx hb=>DcS.same (w:=w) (S:=Se) ⟨F,fn,fc,rfl,hrf,hfl,hfn,hfc,hfnl⟩ (fun b hb'=>⟨.inr hb',hb.block b (HSW.out.2 b hb')⟩))
  have HTK:Hid (m.ds++Ev.mkD ((m.ds.length:Nat)+1) (evs.take (k+1))=(m.ds++Ev.mkD ((m.ds.length:Nat)+1) (evs.take k)) ++ [⟨((n2:Nat):Int)+1,evs[k].1,evs[k].2⟩]):=zh (by
   rw[Ev.vF _ _ _ hke,List.append_assoc,HN2.out];congr 4
   push_cast;omega)
  have HEC:Hid (∀wx,zWW w wx→wx.cell? ⟨eb,eo+k*2,none⟩=some (.int .i64 evs[k].1)∧wx.cell? ⟨eb,eo+k*2+1,none⟩=some (.slice F fn fc)):=zh (fun wx hb=>⟨(hb.cell (p:=⟨eb,eo+k*2,none⟩) hebw).trans c0,(hb.cell (p:=⟨eb,eo+k*2+1,none⟩) hebw).trans c1⟩);have hwr:IntKind.i64.wrap ((n2:Int)+1)=(n2:Int)+1:=by rw[IntKind.wrap_i64];omega
  have HNL2:Hid (n2=(m.ds++Ev.mkD ((m.ds.length:Nat)+1) (evs.take k)).length):=zh (by rw[zJ,Ev.kD,zK,HN2.out];omega);clear c0 c1 hrf hfl hfn hfc hfnl hSb;generalize evs[k].1=et at *;generalize evs[k].2=ef at *;generalize m.ds++Ev.mkD ((m.ds.length:Nat)+1) (evs.take k)=D0 at *;subst hAe;have hMlr:=HMr.out.lt;have hn2c:n2≤60064:=jo;obtain⟨seq,hseq⟩:∃seq,(n2:Int)+1=seq:=⟨_,rfl⟩;rw[hseq]at HDC HTK;replace hwr:IntKind.i64.wrap ((n2:Int)+1)=seq:=hwr.trans hseq;clear hseq
  go_upto_region 5 with(fail)
  refine dN 14 (aI [(11,⟨Nat,fun x=>.slice (some ⟨x,0,none⟩) 1 1,fun x wx=>zWW wr wx∧Blk wx x 48 #[.int .i64 seq,.int .i64 et,.slice F fn fc]⟩),(12,⟨Value,fun v'=>v',fun v' wx=>DOwnS wx w1.heap.size (fun b=>S b∨Se b) v' (D0 ++ [⟨seq,et,ef⟩])∧w1.heap.size≤wx.heap.size⟩)])
   (fun wx=>Blk wx w.heap.size 29 (rmC m ⟨A2,n2,c2,z.EA,z.en,z.ec⟩)∧Blk wx (w.heap.size+1) 29 zmC∧zWW w wx) (fun wx=>wx=wr.drew) jk jk (dS jk) ⟨HMr.out,HRr.out,HBr.out.drew⟩ rfl ?_
  refine aD 1 ?_ rfl jr jr (fun wx hC=>?_) ?_;rotate_left
  ·have f0:=hC.1.cell 7;have f1:=HEC.out wx hC.2.2;simp only[rmC,zA,zB,zC]at f0;go_simp;all_goals with_reducible rfl
  try simp only[Act.put,zD,zE,zF]
  refine aD 2 ?_ rfl jr jr (fun wx hC=>?_) ?_;rotate_left
  ·have f0:=hC.1.cell 7;have f1:=HEC.out wx hC.2.2;simp only[rmC,zA,zB,zC]at f0;go_simp;all_goals with_reducible rfl
  try simp only[Act.put,zD,zE,zF]
  refine aD 3 ?_ rfl jr jr (fun wx hC=>?_) ?_;rotate_left
  ·have f0:=hC.1.cell 7;have f1:=HEC.out wx hC.2.2;simp only[rmC,zA,zB,zC]at f0;go_simp;all_goals with_reducible rfl
  try simp only[Act.put,zD,zE,zF]
  refine aD 4 ?_ rfl jr jr (fun wx hC=>?_) ?_;rotate_left
  ·have f0:=hC.1.cell 7;have f1:=HEC.out wx hC.2.2;simp only[rmC,zA,zB,zC]at f0;go_simp;all_goals with_reducible rfl
  try simp only[Act.put,zD,zE,zF]
  refine aD 5 ?_ rfl jr jr (fun wx hC=>?_) ?_;rotate_left
  ·have f0:=hC.1.cell 7;have f1:=HEC.out wx hC.2.2;simp only[rmC,zA,zB,zC]at f0;go_simp;all_goals with_reducible rfl
  try simp only[Act.put,zD,zE,zF]
  refine aD 6 ?_ rfl jr jr (fun wx hC=>?_) ?_;rotate_left
  ·have f0:=hC.1.cell 7;have f1:=HEC.out wx hC.2.2;simp only[rmC,zA,zB,zC]at f0;go_simp;all_goals with_reducible rfl
  try simp only[Act.put,zD,zE,zF]
  refine aD 7 ?_ rfl jr jr (fun wx hC=>?_) ?_;rotate_left
  ·have f0:=hC.1.cell 7;have f1:=HEC.out wx hC.2.2;simp only[rmC,zA,zB,zC]at f0;go_simp;all_goals with_reducible rfl
  try simp only[Act.put,zD,zE,zF]
  refine aD 8 ?_ rfl jr jr (fun wx hC=>?_) ?_;rotate_left
  ·have f0:=hC.1.cell 7;have f1:=HEC.out wx hC.2.2;simp only[rmC,zA,zB,zC]at f0;go_simp;all_goals with_reducible rfl
  try simp only[Act.put,zD,zE,zF]
  refine aD 9 ?_ rfl jr jr (fun wx hC=>?_) ?_;rotate_left
  ·have f0:=hC.1.cell 7;have f1:=HEC.out wx hC.2.2;simp only[rmC,zA,zB,zC]at f0;go_simp;all_goals with_reducible rfl
  try simp only[Act.put,zD,zE,zF]
  refine aD 10 ?_ rfl jr jr (fun wx hC=>?_) ?_;rotate_left
  ·have f0:=hC.1.cell 7;have f1:=HEC.out wx hC.2.2;simp only[rmC,zA,zB,zC]at f0;go_simp;all_goals with_reducible rfl
  try simp only[Act.put,zD,zE,zF]
  refine aD 11 ?_ rfl jr jr (fun wx hC=>?_) ?_;rotate_left
  ·have f0:=hC.1.cell 7;have f1:=HEC.out wx hC.2.2;simp only[rmC,zA,zB,zC]at f0;go_simp;all_goals with_reducible rfl
  try simp only[Act.put,zD,zE,zF]
  refine dz 12 _ rfl jr jr (fun wx hC hI=>?_) (fun x=>?_)
  ·subst hI;refine fQ (u:=?_) (w':=?_) ?_ ?_ ?_;rotate_left 2
   ·go_simp;all_goals first|with_reducible rfl|(refine⟨?_,?_⟩<;>with_reducible rfl)
   ·exact trivial
   exact⟨⟨hC.1.alloc _,hC.2.1.alloc _,hC.2.2.alloc (by show w.heap.size≤wr.heap.size;omega) _⟩,wr.heap.size,rfl,((zw _ _).drew:zWW wr wr.drew).alloc (zG _) _,Blk.new _ _ _⟩
  rename Nat=>x5
  try simp only[Act.put,zD,zE,zF]
  refine dz 13 _ rfl jr jr (fun wx hC hI=>?_) (fun x=>?_)
  ·obtain⟨hb,hx⟩:=hI;have hO:=HOr.out.below hb (fun b hb'=>by rcases hb' with hb'|hb';(have:=HSW.out.1 b hb';omega);(have:=HSW.out.2 b hb';omega));obtain⟨vs,e1,e2,e3⟩:=hO.ex;have hbs:=hb.size;rw[←HNL2.out]at e2;refine kU _ _ 26 rfl w1.heap.size 48 i0 _ 3 40 underlying26 hi0 hz0 hz1 hz2 rfl jd (.slice A2 n2 c2) n2 vs.flatten rfl e2 (Bd:=wx.heap.size) (some ⟨x5,0,none⟩) 1 1 [.int .i64 seq,.int .i64 et,.slice F fn fc] rfl ⟨rfl,fun _=>⟨x5,0,rfl,hx.lt,fun j u hj=>by rw[zf];exact(hx.cell j).trans (by simpa using hj)⟩⟩ (fun e=>nomatch e) (fun u hu=>by simp at hu;rcases hu with rfl|rfl|rfl<;>rfl) jx jo jo ?_;intro v' w' ho hg hon;have hb0:∀j,(Value.slice A2 n2 c2).ownBlock=some j→w1.heap.size≤j:=fun j hj=>(e2.lt j hj).1
   refine⟨⟨hC.1.grown hg (fun e=>by have:=hb0 _ e.symm;omega),hC.2.1.grown hg (fun e=>by have:=hb0 _ e.symm;omega),hC.2.2.grown hg jo (fun j hj=>by have:=hb0 j hj;omega)⟩,v',rfl,DOwnS.put ⟨vs,e1,by rw[←HNL2.out];exact e2,e3,rfl⟩ (by rw[←HNL2.out];exact ho) hg (HDC.out wx hC.2.2) (fun b hb'=>by rcases hb' with hb'|hb';(have:=HSW.out.1 b hb';omega);(have:=HSW.out.2 b hb';omega)) jo,by have:=hg.size;omega⟩
  rename Value=>x6
  try simp only[Act.put,zD,zE,zF]
  refine aD 14 ?_ rfl jr jr (fun wx hC=>?_) ?_;rotate_left
  ·have f0:=hC.1.cell 7;have f1:=HEC.out wx hC.2.2;simp only[rmC,zA,zB,zC]at f0;go_simp;all_goals with_reducible rfl
  try simp only[Act.put,zD,zE,zF]
  refine dZ (fun w7 hC hI=>?_);obtain⟨hI1,hs7⟩:=hI;obtain⟨A7,c7,rfl,_,hc7,hn7⟩:=hI1.read;have hl7:(D0 ++ [(⟨seq,et,ef⟩:Dc)]).length=n2+1:=by rw[zJ,←HNL2.out];rfl
  rw[hl7]at hI1 hc7 ⊢;clear hl7;have g0:=hC.1.cell 7;have g0f:=hC.1.frozen 7;simp only[rmC,zA,zB,zC]at g0
  have HM8:Hid (Blk (w7.setCell ⟨w.heap.size,7,none⟩ (.slice A7 (n2+1) c7)) w.heap.size 29 (rmC m ⟨A7,n2+1,c7,z.EA,z.en,z.ec⟩)):=zh (by
   have:=hC.1.set_ 7 (.slice A7 (n2+1) c7)
   simpa[rmC]using this)
  have HR8:=zh (hC.2.1.far (p:=⟨w.heap.size,7,none⟩) hne10 (.slice A7 (n2+1) c7));have HB8:=zh (hC.2.2.setCell (p:=⟨w.heap.size,7,none⟩) (zG _) (.slice A7 (n2+1) c7));have HO8:=zh (HOF.out w7 (.slice A7 (n2+1) c7) _ 7 _ hI1);have hs8:w1.heap.size≤(w7.setCell ⟨w.heap.size,7,none⟩ (.slice A7 (n2+1) c7)).heap.size:=by simp[World.setCell];omega
  clear hC hI1 HMr HRr HOr HBr HDC HEC
  go_upto_region 4 with(fail);generalize w7.setCell ⟨w.heap.size,7,none⟩ (.slice A7 (n2+1) c7)=w8 at *;clear g0 g0f;go_wp2;go_roundw
  case rel=>exact⟨k+1,A7,n2+1,c7,ju,jo,zh jo,HM8,HR8,by rw[HTK.out];exact HO8,HB8,hs8⟩
  simp[intOf];omega
 obtain rfl:k=n:=jo;have hnl:¬(k:Int)<(k:Int):=jo;have HTK:Hid (evs.take k=evs):=zh (zR (by rw[HEL.out];exact zG _));rw[HTK.out]at HOr
 go_upto_region 6 with(fail);obtain⟨es,hes⟩:=HENA.out;have hes5:ReadsS wr S 1 z.EA z.en (es.map (Value.int .i64)):=hes.same (fun b hb=>⟨hb,HBr.out.block b (HSW.out.1 b hb)⟩);have HER:Hid (∀wx,zWW wr wx→Reads wx wx.heap.size 1 z.EA z.en (es.map (Value.int .i64))):=zh (fun wx hb=>(((hes5.reads (B:=wr.heap.size) (fun b hb'=>by have:=HSW.out.1 b hb';omega)).below hb).more hb.size))
 have Hc6:Hid (∀wx,zWW wr wx→wx.cell? ⟨w.heap.size,7,none⟩=some (.slice A2 n2 c2)∧wx.cell? ⟨w.heap.size,11,none⟩=some (.slice z.EA z.en z.ec)):=zh (fun wx hb=>by
  have r:=HMr.out.below hb HMr.out.lt;have r0:=r.cell 7;have r1:=r.cell 11;simp only[rmC,zA,zB,zC]at r0 r1
  exact⟨r0,r1⟩)
 have hen1:=hek.1;have HEK:=zh hek.2.2;clear hes hes5;refine Gx.rL 10 (aI [(0,⟨Nat,fun g=>.slice (some ⟨g,0,none⟩) 0 0,fun g wx=>wx.ownsRow wr.heap.size 3 1 (.slice (some ⟨g,0,none⟩) 0 0) 0 []⟩),(3,⟨Value,fun v=>v,fun v wx=>wx.ownsRow wr.heap.size 3 1 v z.en (es.map (Value.int .i64))⟩),(7,⟨Nat,fun g=>.slice (some ⟨g,0,none⟩) 1 1,fun g wx=>Blk wx g 3 #[.int .i64 (n2:Nat)]⟩),(8,⟨Value,fun v=>v,fun v wx=>wx.ownsRow wr.heap.size 3 1 v (z.en+1) (es.map (Value.int .i64) ++ [.int .i64 (n2:Nat)])⟩)]) (fun i=>i==8) (fun wx=>Below (World.heap wr).size wr wx) (fun w1 w2=>zWW w1 w2) jk jk (Gx.ug jk) (aN (fun g wa wb hg h=>h.kept (aJ hg none) (by simp[Value.ownBlock])) (aN (fun g wa wb hg h=>h.kept (aJ hg none) (by cases hv:g.ownBlock<;>simp)) (aN (fun g wa wb hg h=>h.below hg h.lt) (aN (fun g wa wb hg h=>h.kept (aJ hg none) (by cases hv:g.ownBlock<;>simp)) (aX))))) ((zw _ _).drew) ?_;simp only[zX,List.take_zero,zm,List.drop_zero];refine Gx.kK 1 _ rfl jr jr jr (fun wx hC hD=>?_) (fun x=>?_)
 ·refine fQ (u:=?_) (w':=?_) ?_ ?_ ?_;rotate_left 2
  ·have hSw:=Hc6.out wx hC;go_simp;all_goals first|with_reducible rfl|(refine⟨?_,?_⟩<;>with_reducible rfl)
  ·exact(zRR _)
  exact⟨hC.alloc hC.size _,wx.heap.size,rfl,World.ownsRow_made (base:=wr.heap.size) (e:=3) (size:=1) wx #[] 0 hC.size jx rfl⟩
 rename Nat=>x0
 try simp only[Act.put,zD,zE,zF]
 refine Gx.eZ 2 ?_ rfl jr jr (fun wx hC hD=>?_) ?_;rotate_left
 ·have hSw:=Hc6.out wx hC;go_simp;all_goals with_reducible rfl
 try simp only[Act.put,zD,zE,zF]
 refine Gx.eZ 3 ?_ rfl jr jr (fun wx hC hD=>?_) ?_;rotate_left
 ·have hSw:=Hc6.out wx hC;go_simp;all_goals with_reducible rfl
 try simp only[Act.put,zD,zE,zF]
 refine Gx.kK 4 _ rfl jr jr jr (fun wx hC hD=>?_) (fun x=>?_)
 ·have hown:=bf (fC hD 0 jk) jd;have hr:=HER.out wx hC;refine rM _ _ 27 rfl wr.heap.size 3 j0 _ 1 8 underlying27 hj0 hy0 hy1 hy2 rfl jd x0 rfl hown z.EA z.en z.ec _ rfl hr HEK.out (fun u hu=>by obtain⟨e,_,rfl⟩:=List.mem_map.1 hu;rfl) jx jo hC.size (fun v' w' ho hb=>⟨hC.trans (hb.mono hC.size),v',rfl,ho⟩)
 rename Value=>x3
 try simp only[Act.put,zD,zE,zF]
 refine Gx.eZ 5 ?_ rfl jr jr (fun wx hC hD=>?_) ?_;rotate_left
 ·have hSw:=Hc6.out wx hC;go_simp;all_goals with_reducible rfl
 try simp only[Act.put,zD,zE,zF]
 refine Gx.eZ 6 ?_ rfl jr jr (fun wx hC hD=>?_) ?_;rotate_left
 ·have hSw:=Hc6.out wx hC;go_simp;all_goals with_reducible rfl
 try simp only[Act.put,zD,zE,zF]
 refine Gx.eZ 7 ?_ rfl jr jr (fun wx hC hD=>?_) ?_;rotate_left
 ·have hSw:=Hc6.out wx hC;go_simp;all_goals with_reducible rfl
 try simp only[Act.put,zD,zE,zF]
 refine Gx.kK 8 _ rfl jr jr jr (fun wx hC hD=>?_) (fun x=>?_)
 ·refine fQ (u:=?_) (w':=?_) ?_ ?_ ?_;rotate_left 2
  ·have hSw:=Hc6.out wx hC;go_simp;all_goals first|with_reducible rfl|(refine⟨?_,?_⟩<;>with_reducible rfl)
  ·exact(zRR _)
  exact⟨hC.alloc hC.size _,wx.heap.size,rfl,Blk.new _ _ _⟩
 rename Nat=>x7
 try simp only[Act.put,zD,zE,zF]
 refine Gx.qa 9 _ rfl jr jr jr (fun wx hC hI hD=>?_) (fun x=>?_)
 ·have hown:=bf (mK (fC hD 3 jk) jd) jd;have hb6:=bf (fC hD 7 jk) jd;refine kU _ _ 27 rfl wr.heap.size 3 j0 _ 1 8 underlying27 hj0 hy0 hy1 hy2 rfl jd x3 z.en _ rfl hown (Bd:=wx.heap.size) (some ⟨x7,0,none⟩) 1 1 [.int .i64 (n2:Nat)] rfl ⟨rfl,fun _=>⟨x7,0,rfl,hb6.lt,fun j u hj=>by rw[zf];exact(hb6.cell j).trans (by simpa using hj)⟩⟩ (fun e=>nomatch e) (fun u hu=>by simp at hu;subst hu;rfl) jx jo hC.size (fun v' w' ho hg _=>⟨hC.grown hg hC.size (fun j hj=>(hown.lt j hj).1),v',rfl,ho⟩)
 rename Value=>x8
 try simp only[Act.put,zD,zE,zF]
 refine Gx.eZ 10 ?_ rfl jr jr (fun wx hC hD=>?_) ?_;rotate_left
 ·have hSw:=Hc6.out wx hC;go_simp;all_goals with_reducible rfl
 try simp only[Act.put,zD,zE,zF]
 refine Gx.yd (fun w6 hC hF hI=>?_);have HBD:Hid (zWW wr w6):=zh hC;obtain⟨A6,c6,rfl,hR6,hc6,hn6,_⟩:=Ev.aP hI;have hs6:=hC.size;have HM6:=zb HMr hC;have HR6:=zb HRr hC;have HB6:=zh (HBr.out.trans (hC.mono jo));have HO6:=zh (HOr.out.below hC (fun b hb'=>by rcases hb' with hb'|hb';(have:=HSW.out.1 b hb';omega);(have:=HSW.out.2 b hb';omega)));have HI6:=zh hI;have m11:=HM6.out.cell 11;have m11f:=HM6.out.frozen 11;simp only[rmC,zA,zB,zC]at m11;clear hF hC hI hR6 HMr HRr HBr HOr Hc6
 have HM9:Hid (Blk (w6.setCell ⟨w.heap.size,11,none⟩ (.slice A6 (z.en+1) c6)) w.heap.size 29 (rmC m ⟨A2,n2,c2,A6,z.en+1,c6⟩)):=zh (by
  have:=HM6.out.set_ 11 (.slice A6 (z.en+1) c6)
  simpa[rmC]using this)
 have HR9:=zh (HR6.out.far (p:=⟨w.heap.size,11,none⟩) hne10 (.slice A6 (z.en+1) c6));have HB9:=zh (HB6.out.setCell (p:=⟨w.heap.size,11,none⟩) (zG _) (.slice A6 (z.en+1) c6));have HO9:=zh (HOF.out w6 (.slice A6 (z.en+1) c6) _ 11 _ HO6.out)
 have HI9:Hid ((w6.setCell ⟨w.heap.size,11,none⟩ (.slice A6 (z.en+1) c6)).ownsRow wr.heap.size 3 1 (.slice A6 (z.en+1) c6) (z.en+1) (es.map (Value.int .i64) ++ [.int .i64 (n2:Nat)])):=zh (cT HI6.out (fun b hv=>vL _ _ _ _ (fun e=>by
  have e:b=w.heap.size:=e;have:=(HI6.out.lt b hv).1;have:=HM6.out.lt
  omega)))
 have hs9:w1.heap.size≤(w6.setCell ⟨w.heap.size,11,none⟩ (.slice A6 (z.en+1) c6)).heap.size:=by simp[World.setCell];omega
 go_upto_region 7 with(fail);generalize w6.setCell ⟨w.heap.size,11,none⟩ (.slice A6 (z.en+1) c6)=w9 at *;clear m11 m11f HM6 HR6 HB6 HO6 HI6;have HX10:=zh (zx _ (w.heap.size+1) _ (rmC m ⟨A2,n2,c2,A6,z.en+1,c6⟩) _ _ HR9.out);go_wp2_with (first|(refine wpList_load_row (o:=⟨some 41,.load 29 _,_,_,_,_⟩) rfl 29 _ rfl (w.heap.size) rfl 29 (rmC m ⟨A2,n2,c2,A6,z.en+1,c6⟩) (0,0) _ HM9.out underlying29 rfl jk ?_)|(refine zv (o:=⟨none,.store 29 _ _,_,_,_,_⟩) rfl 29 _ _ rfl (w.heap.size+1) (rmC m ⟨A2,n2,c2,A6,z.en+1,c6⟩) rfl rfl 29 zmC HR9.out jk rfl (by simp[rmC,zmC,Value.oneCell']) ?_));refine zu (aA rfl rfl (zr _ (w.heap.size+1) 29 29 (rmC m ⟨A2,n2,c2,A6,z.en+1,c6⟩) (0,0) _ HX10.out underlying29 rfl jk)) rfl ?_;refine⟨⟨A2,n2,c2,A6,z.en+1,c6⟩,rfl,?_,by rw[HEL.out];exact HN2.out,zz HB9.out (zZ _) _⟩;have hso:∀b,b≠w.heap.size+1→(w9.setRow (w.heap.size+1) (rmC m ⟨A2,n2,c2,A6,z.en+1,c6⟩)).heap[b]?=w9.heap[b]?:=fun b hb=>vJ w9 _ b _ hb
 have hsz10:(w9.setRow (w.heap.size+1) (rmC m ⟨A2,n2,c2,A6,z.en+1,c6⟩)).heap.size=w9.heap.size:=jz
 have hOf:=HO9.out.same (w':=w9.setRow (w.heap.size+1) (rmC m ⟨A2,n2,c2,A6,z.en+1,c6⟩)) (S':=fun b=>S b∨Se b) (fun b hv=>hso b (fun e=>by
  obtain⟨vs,g1,g2,g3⟩:=HO9.out.ex;have:=(g2.lt b hv).1
  omega)) (fun b hb=>⟨hb,hso b (fun e=>by rcases hb with hb|hb;(have:=HSW.out.1 b hb;omega);(have:=HSW.out.2 b hb;omega))⟩)
 obtain⟨A',c',e',hDS,hcc,hnn⟩:=hOf.read;have hll:(m.ds++Ev.mkD ((m.ds.length:Nat)+1) evs).length=n2:=by rw[zJ,Ev.kD,HEL.out,HN2.out]
 rw[hll]at e' hDS hcc;injection e' with ea eb ec;subst ea ec
 have hI10:=cT (w':=w9.setRow (w.heap.size+1) (rmC m ⟨A2,n2,c2,A6,z.en+1,c6⟩)) HI9.out (fun b hv=>hso b (fun e=>by
  have:=(HI9.out.lt b hv).1
  omega))
 have hI11:=ReadsS.of_own hI10
 exact⟨hDS.same (fun b hb=>⟨.inr (.inr ⟨jo,hb.2⟩),rfl⟩) (fun b hb=>⟨hb.elim .inl (fun h=>.inr (.inl h)),rfl⟩),hcc,hnn,⟨es ++ [(n2:Int)],by rw[List.map_append];exact hI11.mono (fun b hb=>.inr (.inr ⟨jo,hb.2.1⟩))⟩,⟨by show z.en+1≤K+65;omega,hc6,hn6⟩,HOK.out,by show (m.ds++_).length≤K+65;rw[hll];omega,fun b hb=>by
  rw[hsz10];rcases hb with hb|hb|hb
  ·have:=HSW.out.1 b hb;omega
  ·have:=HSW.out.2 b hb;omega
  rw[hsz10]at hb;exact hb.2⟩
end
end Md
end Go.Proofs.YtmomjpolkkbhnaaGreat
