/- The document's model: After (printed by gen_med.py). -/
import Derived.Test.YtmomjpolkkbhnaaGreatQModelCountsRow35
import Derived.Test.YtmomjpolkkbhnaaGreatQModelCountsRow38
set_option linter.unusedSimpArgs false
set_option linter.unusedVariables false
set_option maxRecDepth 20000
set_option maxHeartbeats 100000000
open Go.Proofs.Tryz
namespace Go.Proofs.YtmomjpolkkbhnaaGreat
namespace Md
open Go.RowKit Ut Tk Qy Qp Ev Cu
theorem DOwnS.put{w w5:World}{base:Nat}{S:Nat→Prop}{v v':Value}{ds:List Dc}{d:Dc}{u xs:List Value}(hx:∃vss:List (List Value),vss.length=ds.length∧w.ownsRow base 48 3 v ds.length vss.flatten∧(∀i (h:i<ds.length) (h':i<vss.length),DcS w S ds[i] vss[i])∧xs=vss.flatten)
  (hp:w5.ownsRow base 48 3 v' (ds.length+1) (xs++u)) (hg:w.grownBy w5 v.ownBlock) (hd:DcS w S d u) (hS:∀b,S b→b<base) (hb:base≤w.heap.size):DOwnS w5 base S v' (ds ++ [d]):=by
 obtain⟨vss,h1,h2,h3,rfl⟩:=hx;have:=uh (w':=w5) (base:=base) (v':=v') h1 h3 hd (zG _) (by rw[zR jo,List.drop_eq_nil_of_le jo];simpa using hp) (fun b hSb=>hg.block b (zT (hS b hSb) hb) (fun e=>by have:=(h2.lt _ e.symm).1;have:=hS b hSb;omega))
 simpa using this
theorem RAt.doc{w:World}{S:Nat→Prop}{K:Nat}{m:M}{z:Rz}(h:RAt w S K m z){i:Nat}(hi:i<m.ds.length):∃g o F fc,z.A=some ⟨g,o,none⟩∧g<w.heap.size∧w.cell? ⟨g,o+i*3,none⟩=some (.int .i64 m.ds[i].seq)∧w.cell? ⟨g,o+i*3+1,none⟩=some (.int .i64 m.ds[i].at_) ∧
  w.cell? ⟨g,o+i*3+2,none⟩=some (.slice F m.ds[i].fs.length fc)∧DcS w S m.ds[i] [.int .i64 m.ds[i].seq,.int .i64 m.ds[i].at_,.slice F m.ds[i].fs.length fc]∧EvAt w F m.ds[i].fs.length m.ds[i].fs:=by
 obtain⟨b,o,F,fn,fc,e,hb,c0,c1,c2,r,rfl,hn,hc,hnl⟩:=h.ds.at_ hi;exact⟨b,o,F,fc,e,h.lt b hb,c0,c1,c2,⟨F,_,fc,rfl,r,rfl,hn,hc,hnl⟩,⟨r.reads h.lt,rfl,hn,fun f hf=>by have:=((gP (h.ok.doc i hi).1).2 f hf).2.2;omega⟩⟩
def yg(w:World)(S:Nat→Prop)(L:List Dc)(e:Ending)(w':World):Prop:=∃v,e=.returned v∧DOwnS w' w.heap.size S v L∧zWW w w'
section
variable {w:World} {S:Nat→Prop} {K:Nat} {m:M} {z:Rz}
theorem Cb(h:RAt w S K m z)(hK:K≤60000)(q:Q)(hq:QSz q)(a0 a1 a2 a3:Value)(a t:Int)(hQ:∃A n c B k d,[a0,a1,a2,a3]=[.int .i64 q.kind,.string q.name,.slice A n c,.slice B k d])(hqa:QAt w w.heap.size q [a0,a1,a2,a3]) :
  Calls prog 89 #[.agg (rmC m z),.agg #[a0,a1,a2,a3],.int .i64 a,.int .i64 t] w (yg w S (fg m (fun d=>aC d.fs q) a t)):=by
 obtain⟨i0,hi0,hz0,hz1,hz2⟩:=info_parts Ev.fR;obtain⟨A1,n1,c1,A2,n2,c2,hq4⟩:=hQ;simp only[zQ,and_true]at hq4;obtain⟨rfl,rfl,rfl,rfl⟩:=hq4;have hb:zWW w ((w.alloc (.cells (rmC m z) 29)).alloc (.cells #[.int .i64 q.kind,.string q.name,.slice A1 n1 c1,.slice A2 n2 c2] 60)):=(zRR _).alloc jz _;have hm:=(Blk.new w 29 (rmC m z)).alloc (.cells #[.int .i64 q.kind,.string q.name,.slice A1 n1 c1,.slice A2 n2 c2] 60);have hqb:=Blk.new (w.alloc (.cells (rmC m z) 29)) 60 #[.int .i64 q.kind,.string q.name,.slice A1 n1 c1,.slice A2 n2 c2];have z1:(w.alloc (.cells (rmC m z) 29)).heap.size=w.heap.size+1:=jz;rw[z1]at hqb;have HM:=zh hm;have HQB:=zh hqb;have HB:=zh hb;have HA:=zh (h.below hb);have HQA:=zh (hqa.grow hb);have HMT:Hid (∀fs,kC fs q):=zh (fun fs=>tz fs q hq);have hzn1:m.ds.length≤z.n:=by rw[h.ds.ln];exact zG _
 have hzn2:z.n≤m.ds.length:=by rw[h.ds.ln];exact zG _
 have hsz:w.heap.size+2=(World.heap ((w.alloc (.cells (rmC m z) 29)).alloc (.cells #[.int .i64 q.kind,.string q.name,.slice A1 n1 c1,.slice A2 n2 c2] 60))).size:=jz;have hfew:=h.few;have HSW:Hid (∀b,S b→b<w.heap.size):=zh h.lt;clear h hqa hb hm hqb z1;have HAL:Hid (fg m (fun d=>aC d.fs q) a t=m.ds.filter (fun d=>decide (m.floor≤d.at_)&&(decide (a<d.seq)&&(decide (d.seq≤t)&&aC d.fs q)))):=zh rfl;generalize hu:fg m (fun d=>aC d.fs q) a t=UU at *;clear hu;go_enter func89,ntmps89;go_wp2_with fail;generalize ((w.alloc (.cells (rmC m z) 29)).alloc (.cells #[.int .i64 q.kind,.string q.name,.slice A1 n1 c1,.slice A2 n2 c2] 60))=w1 at *;go_loopw [9,10] (fun v i wr=>∃k:Nat,k≤m.ds.length∧i=.int .i64 (k:Nat)∧Hid (DOwnS wr w1.heap.size S v ((m.ds.take k).filter (fun d=>decide (m.floor≤d.at_)&&(decide (a<d.seq)&&(decide (d.seq≤t)&&aC d.fs q)))))∧Hid (zWW w1 wr)) (fun _ i _=>m.ds.length-(intOf i).toNat)
 case atStart=>exact⟨0,zS _,rfl,zh (DOwnS.start _ _ _),zh (zw _ _)⟩
 obtain⟨k,hk,rfl,hO,hBr⟩:=hrel;by_cases hlt:k<m.ds.length
 ·have hkz:(k:Int)<(z.n:Int):=jo;have hk0:(0:Int)≤(k:Int):=jo;have hbw:=hBr.out.size;have hMr:=HM.out.below hBr.out jo;have hQr:=HQB.out.below hBr.out jo;have hAr:=HA.out.below hBr.out;obtain⟨gb,go,F,fc,hzA,hgb,q0,q1,q2,hdc,hev⟩:=hAr.doc hlt
  have hlnk:((m.ds.take k).filter (fun d=>decide (m.floor≤d.at_)&&(decide (a<d.seq)&&(decide (d.seq≤t)&&aC d.fs q)))).length≤k:=by
   refine zY (List.length_filter_le _ _) ?_;rw[zK];omega
  have HTK:Hid ((m.ds.take (k+1)).filter (fun d=>decide (m.floor≤d.at_)&&(decide (a<d.seq)&&(decide (d.seq≤t)&&aC d.fs q)))=(m.ds.take k).filter (fun d=>decide (m.floor≤d.at_)&&(decide (a<d.seq)&&(decide (d.seq≤t)&&aC d.fs q)))++if(decide (m.floor≤m.ds[k].at_)&&(decide (a<m.ds[k].seq)&&(decide (m.ds[k].seq≤t)&&aC m.ds[k].fs q)))=true then[m.ds[k]]else[]):=zh (by
   rw[zL hlt,List.filter_append];congr 1
   by_cases hp:(decide (m.floor≤m.ds[k].at_)&&(decide (a<m.ds[k].seq)&&(decide (m.ds[k].seq≤t)&&aC m.ds[k].fs q)))=true<;>simp[List.filter_cons,hp])
  have HLN:=zh hlnk;clear hlnk;have CM:Hid (∀wx,zWW wr wx→Calls prog 118 #[.agg #[.int .i64 q.kind,.string q.name,.slice A1 n1 c1,.slice A2 n2 c2],.agg #[.int .i64 m.ds[k].at_,.slice F m.ds[k].fs.length fc]] wx fun e w'=>e=.returned (.bool (aC m.ds[k].fs q))∧zWW wx w'):=zh (fun wx hb=>HMT.out _ wx _ _ _ _ _ F _ fc ((HQA.out.grow hBr.out).grow hb) (hev.grow hb));have HDC:=zh hdc;clear hev hdc;generalize hpd:aC m.ds[k].fs q=pd at *;clear hpd;generalize hD0:(m.ds.take k).filter (fun d=>decide (m.floor≤d.at_)&&(decide (a<d.seq)&&(decide (d.seq≤t)&&aC d.fs q)))=D0 at *;clear hD0;generalize m.ds[k]=d at *;have hBx:zWW wr (wr.alloc (.cells #[.int .i64 d.seq,.int .i64 d.at_,.slice F d.fs.length fc] 48)):=zRR _;have HBX:=zh hBx;have HXX:=zh (Blk.new wr 48 #[.int .i64 d.seq,.int .i64 d.at_,.slice F d.fs.length fc]);have HMX:=zh (hMr.below hBx hMr.lt);have HQX:=zh (hQr.below hBx hQr.lt);have hm7:=hMr.cell 7;simp only[rmC,zA,zB,zC]at hm7;clear hBx hMr hQr hAr
  go_upto_region 6 with(fail);generalize wr.alloc (.cells #[.int .i64 d.seq,.int .i64 d.at_,.slice F d.fs.length fc] 48)=w2 at *;clear q0 q1 q2 hm7;have f0:=HXX.out.cell 0;have f1:=HXX.out.cell 1;have f2:=HXX.out.cell 2;simp only[zA,zB,zC]at f0 f1 f2;have g8:=HMX.out.cell 8;simp only[rmC,zA,zB,zC]at g8;have r0:=HQX.out.cell 0;have r1:=HQX.out.cell 1;have r2:=HQX.out.cell 2;have r3:=HQX.out.cell 3;simp only[zA,zB,zC]at r0 r1 r2 r3;have HB2:=zh (hBr.out.trans (HBX.out.mono hbw));have HO2:=zh (hO.out.below HBX.out (fun b hb=>by have:=HSW.out b hb;omega));have HDC2:=zh (HDC.out.same (fun b hb=>⟨hb,HBX.out.block b (by have:=HSW.out b hb;omega)⟩));have hs2:=HBX.out.size;clear hO;by_cases e1:m.floor≤d.at_
  ·by_cases e2:a<d.seq
   ·by_cases e3:d.seq≤t
    ·rw[zO e1,zO e2,zO e3,Bool.true_and,Bool.true_and,Bool.true_and]at HTK;go_wp2_with fail;refine(CM.out w2 HBX.out).mono ?_;rintro e w3 ⟨rfl,hb3⟩;have HB3:=zt HB2 hb3;have HO3:=zh (HO2.out.below hb3 (fun b hb=>by have:=HSW.out b hb;omega));have HDC3:=zh (HDC2.out.same (fun b hb=>⟨hb,hb3.block b (by have:=HSW.out b hb;omega)⟩));have HX3:=zb HXX hb3;have hs3:=hb3.size;clear hb3 HO2 HDC2 HB2 CM f0 f1 f2 g8 r0 r1 r2 r3
     cases pd with
     | false=>
      rw[zH jd,List.append_nil]at HTK;clear HX3 HDC3;go_wp2;go_roundw
      case rel=>exact⟨k+1,jo,ju,by rw[HTK.out];exact HO3,HB3⟩
      simp[intOf];omega
     | true=>
      rw[zI rfl]at HTK;have f0:=HX3.out.cell 0;have f1:=HX3.out.cell 1;have f2:=HX3.out.cell 2;simp only[zA,zB,zC]at f0 f1 f2;have hal:zWW w3 (w3.alloc (.cells #[.int .i64 d.seq,.int .i64 d.at_,.slice F d.fs.length fc] 48)):=zRR _;have hO4:=HO3.out.below hal (fun b hb=>by have:=HSW.out b hb;omega);have hdc4:=HDC3.out.same (fun b hb=>⟨hb,hal.block b (by have:=HSW.out b hb;omega)⟩);obtain⟨vss,g1,g2,g3⟩:=hO4.ex;have hza:(World.heap (w3.alloc (.cells #[.int .i64 d.seq,.int .i64 d.at_,.slice F d.fs.length fc] 48))).size=w3.heap.size+1:=jz
      have hput:∀v' w5,w5.ownsRow w1.heap.size 48 3 v' (D0.length+1) (vss.flatten ++ [.int .i64 d.seq,.int .i64 d.at_,.slice F d.fs.length fc])→(w3.alloc (.cells #[.int .i64 d.seq,.int .i64 d.at_,.slice F d.fs.length fc] 48)).grownBy w5 u9.ownBlock→DOwnS w5 w1.heap.size S v' (D0 ++ [d])∧zWW w1 w5:=
       fun v' w5 h1 h2=>⟨DOwnS.put ⟨vss,g1,g2,g3,rfl⟩ h1 h2 hdc4 (fun b hb=>by have:=HSW.out b hb;omega) jo,(HB3.out.trans (hal.mono HB3.out.size)).grown h2 jo (fun j hj=>(g2.lt j hj).1)⟩
      have Hput:=zh hput;have hzw:w1.heap.size≤w3.heap.size:=jo;have hln:=HLN.out;clear hput g1 g3 hO4 hal hdc4 hza;go_wp2_with (at_builtin;refine vH _ rfl _ _ 26 rfl w1.heap.size 48 i0 _ 3 40 underlying26 hi0 hz0 hz1 hz2 rfl jd _ _ _ rfl g2 ⟨w3.heap.size,0,none⟩ 1 1 [.int .i64 d.seq,.int .i64 d.at_,.slice F d.fs.length fc] rfl rfl ?d1 ?d2 ?d3 ?d4 ?d5 ?_)
      case d1=>exact zy (cs:=#[.int .i64 d.seq,.int .i64 d.at_,.slice F d.fs.length fc]) (t:=48) (fr:=(0,0)) (vI w3 _)
      case d2=>first|(intro u hu;simp at hu;rcases hu with rfl|rfl|rfl<;>rfl)|rfl|simp[Value.oneCell']
      case d3=>unfold maxLen;omega
      case d4=>omega
      case d5=>first|omega|(simp;omega)
      intro v' w5 hown5 hg5 _;have Fin:=zh (Hput.out v' w5 hown5 hg5);clear hown5 hg5;go_wp2;go_roundw
      case rel=>exact⟨k+1,jo,ju,by rw[HTK.out];exact zh Fin.out.1,zh Fin.out.2⟩
      simp[intOf];omega
    rw[zO e1,zO e2,zN e3,Bool.true_and,Bool.true_and,Bool.false_and,zH jd,List.append_nil]at HTK;clear CM;go_wp2;go_roundw
    case rel=>exact⟨k+1,jo,ju,by rw[HTK.out];exact HO2,HB2⟩
    simp[intOf];omega
   rw[zO e1,zN e2,Bool.true_and,Bool.false_and,zH jd,List.append_nil]at HTK;clear CM;go_wp2;go_roundw
   case rel=>exact⟨k+1,jo,ju,by rw[HTK.out];exact HO2,HB2⟩
   simp[intOf];omega
  rw[zN e1,Bool.false_and,zH jd,List.append_nil]at HTK;clear CM;go_wp2;go_roundw
  case rel=>exact⟨k+1,jo,ju,by rw[HTK.out];exact HO2,HB2⟩
  simp[intOf];omega
 obtain rfl:k=m.ds.length:=jo;rw[zR (zG _),←HAL.out]at hO;have hm7:=(HM.out.below hBr.out jo).cell 7;simp only[rmC,zA,zB,zC]at hm7;have hnl:¬(m.ds.length:Int)<(z.n:Int):=jo;go_wp2;go_ret;exact⟨_,rfl,hO.out.mono jo,HB.out.trans (hBr.out.mono HB.out.size)⟩
end
end Md

namespace Md
open Go.RowKit Ut Tk Qy Qp Ev Cu
def rB(w:World)(S:Nat→Prop)(L:List Dc)(e:Ending)(w':World):Prop:=∃v D,e=.returned v∧DOwnS w' w.heap.size S v D∧ByT L D∧zWW w w'
section
variable {w:World} {S:Nat→Prop} {K:Nat} {m:M} {z:Rz}
theorem ui(h:RAt w S K m z)(hK:K≤60000)(q:Q)(hq:QSz q)(a0 a1 a2 a3:Value)(fr ti:Int)(hQ:∃A n c B k d,[a0,a1,a2,a3]=[.int .i64 q.kind,.string q.name,.slice A n c,.slice B k d])(hqa:QAt w w.heap.size q [a0,a1,a2,a3]) :
  Calls prog 85 #[.agg (rmC m z),.agg #[a0,a1,a2,a3],.int .i64 fr,.int .i64 ti] w (rB w S (upL m (inB fr ti q))):=by
 obtain⟨i0,hi0,hz0,hz1,hz2⟩:=info_parts Ev.fR;obtain⟨A1,n1,c1,A2,n2,c2,hq4⟩:=hQ;simp only[zQ,and_true]at hq4;obtain⟨rfl,rfl,rfl,rfl⟩:=hq4;have hb:zWW w ((w.alloc (.cells (rmC m z) 29)).alloc (.cells #[.int .i64 q.kind,.string q.name,.slice A1 n1 c1,.slice A2 n2 c2] 60)):=(zRR _).alloc jz _;have hm:=(Blk.new w 29 (rmC m z)).alloc (.cells #[.int .i64 q.kind,.string q.name,.slice A1 n1 c1,.slice A2 n2 c2] 60);have hqb:=Blk.new (w.alloc (.cells (rmC m z) 29)) 60 #[.int .i64 q.kind,.string q.name,.slice A1 n1 c1,.slice A2 n2 c2];have z1:(w.alloc (.cells (rmC m z) 29)).heap.size=w.heap.size+1:=jz;rw[z1]at hqb;have HM:=zh hm;have HQB:=zh hqb;have HB:=zh hb;have HA:=zh (h.below hb);have HQA:=zh (hqa.grow hb);have HMT:Hid (∀fs,kC fs q):=zh (fun fs=>tz fs q hq);have hzn1:m.ds.length≤z.n:=by rw[h.ds.ln];exact zG _
 have hzn2:z.n≤m.ds.length:=by rw[h.ds.ln];exact zG _
 have hsz:w.heap.size+2=(World.heap ((w.alloc (.cells (rmC m z) 29)).alloc (.cells #[.int .i64 q.kind,.string q.name,.slice A1 n1 c1,.slice A2 n2 c2] 60))).size:=jz;have hfew:=h.few;have HSW:Hid (∀b,S b→b<w.heap.size):=zh h.lt;have HUPP:=zh (rD h.ok);clear h hqa hb hm hqb z1;have HAL:Hid (upL m (inB fr ti q)=m.ds.filter (fun d=>decide (m.floor≤d.at_)&&inB fr ti q d)):=zh rfl;generalize hu:upL m (inB fr ti q)=UU at *;clear hu;go_enter func85,ntmps85;go_wp2_with fail;generalize ((w.alloc (.cells (rmC m z) 29)).alloc (.cells #[.int .i64 q.kind,.string q.name,.slice A1 n1 c1,.slice A2 n2 c2] 60))=w1 at *;go_loopw [9,10] (fun v i wr=>∃(k:Nat) (D:List Dc),k≤m.ds.length∧i=.int .i64 (k:Nat)∧Hid (ByT ((m.ds.take k).filter (fun d=>decide (m.floor≤d.at_)&&inB fr ti q d)) D)∧Hid (DOwnS wr w1.heap.size S v D)∧Hid (zWW w1 wr)) (fun _ i _=>m.ds.length-(intOf i).toNat)
 case atStart=>exact⟨0,[],zS _,rfl,zh Ir,zh (DOwnS.start _ _ _),zh (zw _ _)⟩
 obtain⟨k,D0,hk,rfl,HT,hO,hBr⟩:=hrel;by_cases hlt:k<m.ds.length
 ·have hkz:(k:Int)<(z.n:Int):=jo;have hk0:(0:Int)≤(k:Int):=jo;have hbw:=hBr.out.size;have hMr:=HM.out.below hBr.out jo;have hQr:=HQB.out.below hBr.out jo;have hAr:=HA.out.below hBr.out;obtain⟨gb,go,F,fc,hzA,hgb,q0,q1,q2,hdc,hev⟩:=hAr.doc hlt
  have hlnk:D0.length≤k:=by
   rw[HT.out.perm.length_eq];refine zY (List.length_filter_le _ _) ?_;rw[zK];omega
  have HTK:Hid ((m.ds.take (k+1)).filter (fun d=>decide (m.floor≤d.at_)&&inB fr ti q d)=(m.ds.take k).filter (fun d=>decide (m.floor≤d.at_)&&inB fr ti q d)++if(decide (m.floor≤m.ds[k].at_)&&(decide (fr≤m.ds[k].at_)&&decide (m.ds[k].at_≤ti)&&aC m.ds[k].fs q))=true then[m.ds[k]]else[]):=zh (by
   rw[zL hlt,List.filter_append];congr 1
   by_cases hp:(decide (m.floor≤m.ds[k].at_)&&(decide (fr≤m.ds[k].at_)&&decide (m.ds[k].at_≤ti)&&aC m.ds[k].fs q))=true<;>simp[List.filter_cons,inB,hp])
  have HSEQ:Hid (∀x∈(m.ds.take k).filter (fun d=>decide (m.floor≤d.at_)&&inB fr ti q d),x.seq<m.ds[k].seq):=zh (fun x hx=>by
   obtain⟨i,hi,rfl⟩:=zp.1 (List.mem_filter.1 hx).1;rw[zK]at hi;rw[List.getElem_take]
   exact List.pairwise_iff_getElem.1 HUPP.out i k jo hlt jo)
  have HLN:=zh hlnk;have CM:Hid (∀wx,zWW wr wx→Calls prog 118 #[.agg #[.int .i64 q.kind,.string q.name,.slice A1 n1 c1,.slice A2 n2 c2],.agg #[.int .i64 m.ds[k].at_,.slice F m.ds[k].fs.length fc]] wx fun e w'=>e=.returned (.bool (aC m.ds[k].fs q))∧zWW wx w'):=zh (fun wx hb=>HMT.out _ wx _ _ _ _ _ F _ fc ((HQA.out.grow hBr.out).grow hb) (hev.grow hb));have HDC:=zh hdc;clear hev hdc hlnk;generalize hpd:aC m.ds[k].fs q=pd at *;clear hpd;generalize hD0:(m.ds.take k).filter (fun d=>decide (m.floor≤d.at_)&&inB fr ti q d)=L0 at *;clear hD0;generalize m.ds[k]=d at *;have hBx:zWW wr (wr.alloc (.cells #[.int .i64 d.seq,.int .i64 d.at_,.slice F d.fs.length fc] 48)):=zRR _;have HBX:=zh hBx;have HXX:=zh (Blk.new wr 48 #[.int .i64 d.seq,.int .i64 d.at_,.slice F d.fs.length fc]);have HMX:=zh (hMr.below hBx hMr.lt);have HQX:=zh (hQr.below hBx hQr.lt);have hm7:=hMr.cell 7;simp only[rmC,zA,zB,zC]at hm7;clear hBx hMr hQr hAr
  go_upto_region 6 with(fail);generalize wr.alloc (.cells #[.int .i64 d.seq,.int .i64 d.at_,.slice F d.fs.length fc] 48)=w2 at *;generalize hbx:wr.heap.size=bx at *;clear q0 q1 q2 hm7;have f0:=HXX.out.cell 0;have f1:=HXX.out.cell 1;have f2:=HXX.out.cell 2;simp only[zA,zB,zC]at f0 f1 f2;have g8:=HMX.out.cell 8;simp only[rmC,zA,zB,zC]at g8;have r0:=HQX.out.cell 0;have r1:=HQX.out.cell 1;have r2:=HQX.out.cell 2;have r3:=HQX.out.cell 3;simp only[zA,zB,zC]at r0 r1 r2 r3;have HB2:Hid (zWW w1 w2):=zh (hBr.out.trans (HBX.out.mono (by have:=hBr.out.size;omega)));have HO2:=zh (hO.out.below (HBX.out.mono jo) (fun b hb=>by have:=HSW.out b hb;omega));have HDC2:=zh (HDC.out.same (fun b hb=>⟨hb,HBX.out.block b (by have:=HSW.out b hb;omega)⟩));have hs2:=HBX.out.size;have hx2:=HXX.out.lt;have CM2:Hid (Calls prog 118 #[.agg #[.int .i64 q.kind,.string q.name,.slice A1 n1 c1,.slice A2 n2 c2],.agg #[.int .i64 d.at_,.slice F d.fs.length fc]] w2 fun e w'=>e=.returned (.bool pd)∧zWW w2 w'):=zh (CM.out w2 HBX.out);clear hO CM;have CM:=CM2;clear CM2;by_cases e1:m.floor≤d.at_
  ·by_cases e2:fr≤d.at_
   ·by_cases e3:d.at_≤ti
    ·rw[zO e1,zO e2,zO e3,Bool.true_and,Bool.true_and,Bool.true_and]at HTK;go_wp2_with fail;refine CM.out.mono ?_;rintro e w3 ⟨rfl,hb3⟩;have HB3:=zt HB2 hb3;have HO3:=zh (HO2.out.below hb3 (fun b hb=>by have:=HSW.out b hb;omega));have HDC3:=zh (HDC2.out.same (fun b hb=>⟨hb,hb3.block b (by have:=HSW.out b hb;omega)⟩));have HX3:=zb HXX hb3;have hs3:=hb3.size;have hx3:=HX3.out.lt;clear hb3 HO2 HDC2 HB2 CM f0 f1 f2 g8 r0 r1 r2 r3 HXX HMX HQX HBX
     cases pd with
     | false=>
      rw[zH jd,List.append_nil]at HTK;clear HX3 HDC3;go_wp2;go_roundw
      case rel=>exact⟨k+1,D0,jo,ju,by rw[HTK.out];exact HT,HO3,HB3⟩
      simp[intOf];omega
     | true=>
      rw[zI rfl]at HTK;obtain⟨A9,c9,hv9,hDS,hc9,hn9⟩:=HO3.out.read;have hDA:=wS hDS (fun b hb=>hb.2) (fun b hb=>by have:=HSW.out b hb;omega);have HDA:=zh hDA;have hln:=HLN.out;subst hv9;have HX3':=zh HX3.out;clear hDS hDA;obtain⟨n9,hn9e⟩:∃n9,D0.length=n9:=⟨_,rfl⟩;rw[hn9e]at HDA hc9 hln ⊢;have HN9:=zh hn9e;clear hn9e HLN
      go_upto_region 8 with(fail);go_loopw [12] (fun kv wy=>∃(p:Nat) (pi:Int),kv=.int .i64 pi∧Hid (pi=(p:Int))∧p≤n9∧Hid (∀x∈D0.drop p,ltD d x)∧Hid (zWW w3 wy)) (fun kv _=>(intOf kv).toNat)
      case atStart=>exact⟨n9,_,rfl,zh rfl,zG _,zh (fun x hx=>by rw[←HN9.out,List.drop_length]at hx;cases hx),zh (zw _ _)⟩
      obtain⟨p,pi,rfl,HPI,hp9,HLT,HBy⟩:=hrel;have hpi1:pi≤(p:Int):=by rw[HPI.out];exact Int.le_refl _
      have hpi2:(p:Int)≤pi:=by rw[HPI.out];exact Int.le_refl _
      have hys:=HBy.out.size;have HXy:=zh (HX3.out.below HBy.out HX3.out.lt)
      go_upto_region 8 with(fail);go_cut [64]from 54 to 64 (fun v wx=>∃b:Bool,v=.bool b∧Hid (b=true→0<p∧∀x,D0[p-1]?=some x→ltD d x)∧Hid (b=false→∀x,D0[p-1]?=some x→0<p→¬ltD d x)∧zWW wr wx)
      case first=>
       by_cases hp0:p=0
       ·have hpg:¬(0:Int)<pi:=jo;refine cH (aI []) (fun wx=>Below (World.heap wr).size wr wx) (fun w1 w2=>zWW w1 w2) jk jk (aX) (zw _ _).drew ?_
        iterate 3
         refine aH _ ?_ rfl jr jr (fun wx hC hD=>?_) ?_;rotate_left
         ·go_simp;all_goals with_reducible rfl
         try simp only[Act.put,zD,zE,zF]
        refine aS 4 (some false) true rfl jr jr jr ?_;try simp only[Act.put,zD,zE,zF]
        refine aS 5 (some false) true rfl jr jr jr ?_;try simp only[Act.put,zD,zE,zF]
        refine aS 6 (some false) true rfl jr jr jr ?_;try simp only[Act.put,zD,zE,zF]
        refine aS 7 (some false) true rfl jr jr jr ?_;try simp only[Act.put,zD,zE,zF]
        refine aS 8 (some false) true rfl jr jr jr ?_;try simp only[Act.put,zD,zE,zF]
        refine aS 9 (some false) true rfl jr jr jr ?_;try simp only[Act.put,zD,zE,zF]
        refine aS 10 (some false) true rfl jr jr jr ?_;try simp only[Act.put,zD,zE,zF]
        refine aH 11 ?_ rfl jr jr (fun wx hC hD=>?_) ?_;rotate_left
        ·go_simp;all_goals with_reducible rfl
        try simp only[Act.put,zD,zE,zF]
        refine ah (fun wq hC hF=>?_);clear hF;go_wp2;go_meet;exact⟨false,rfl,zh (fun h=>by cases h),zh (fun _ x _ h0=>absurd h0 jo),hC⟩
       have hpg:(0:Int)<pi:=jo;have hpl:p-1<D0.length:=by rw[HN9.out];omega
       obtain⟨yb,yo,G,yn,yc,hA9,hyb,y0,y1,y2,_,hyn,_⟩:=(HDA.out.grow HBy.out).at_ hpl;have CA:Hid (∀wx,Calls prog 119 #[.agg #[.int .i64 d.seq,.int .i64 d.at_,.slice F d.fs.length fc],.agg #[.int .i64 D0[p-1].seq,.int .i64 D0[p-1].at_,.slice G yn yc]] wx fun e w'=>e=.returned (.bool (decide (ltD d D0[p-1])))∧zWW wx w'):=zh (fun wx=>EN d D0[p-1] F G d.fs.length fc yn yc wx);have hge:D0[p-1]?=some D0[p-1]:=zU hpl;have HGE:=zh hge;have HBB:Hid (∀b:Bool,decide (ltD d D0[p-1])=b→(b=true→0<p∧∀x,D0[p-1]?=some x→ltD d x)∧(b=false→∀x,D0[p-1]?=some x→0<p→¬ltD d x)):=zh (fun b hb=>⟨fun e=>⟨jo,fun x hx=>by rw[HGE.out]at hx;injection hx with hx;subst hx;exact of_decide_eq_true (hb.trans e)⟩,fun e x hx _=>by rw[HGE.out]at hx;injection hx with hx;subst hx;exact of_decide_eq_false (hb.trans e)⟩);clear hge hyn;generalize hbd:decide (ltD d D0[p-1])=bd at *;have HBD:=zh (HBB.out bd rfl);clear HBB hbd HGE;generalize D0[p-1].seq=ys at *;generalize D0[p-1].at_=ya at *;have hwp:IntKind.i64.wrap (pi-1)=((p-1:Nat):Int):=by rw[IntKind.wrap_i64];omega
       obtain⟨p1,hp1⟩:∃p1,p-1=p1:=⟨_,rfl⟩;have hi0':(0:Int)≤(p1:Int):=jo;have hi1':(p1:Int)<(n9:Int):=jo;rw[hp1]at hwp y0 y1 y2
       have Hcy:Hid (∀wx,zWW wr wx→wx.cell? ⟨bx,0,none⟩=some (.int .i64 d.seq)∧wx.cell? ⟨bx,1,none⟩=some (.int .i64 d.at_)∧wx.cell? ⟨bx,2,none⟩=some (.slice F d.fs.length fc)∧wx.cell? ⟨yb,yo+p1*3,none⟩=some (.int .i64 ys)∧wx.cell? ⟨yb,yo+p1*3+1,none⟩=some (.int .i64 ya)∧wx.cell? ⟨yb,yo+p1*3+2,none⟩=some (.slice G yn yc)):=zh (fun wx hb=>by
        have r:=HXy.out.below hb HXy.out.lt;have r0:=r.cell 0;have r1:=r.cell 1;have r2:=r.cell 2;simp only[zA,zB,zC]at r0 r1 r2
        exact⟨r0,r1,r2,(hb.cell hyb).trans y0,(hb.cell hyb).trans y1,(hb.cell hyb).trans y2⟩)
       clear y0 y1 y2 hp1;subst hA9;refine cH (aI [(9,⟨Unit,fun _=>(.bool bd),fun _ _=>True⟩)]) (fun wx=>Below (World.heap wr).size wr wx) (fun w1 w2=>zWW w1 w2) jk jk (aN (fun _ _ _ _ h=>h) (aX)) (zw _ _).drew ?_
       iterate 9
        refine aH _ ?_ rfl jr jr (fun wx hC hD=>?_) ?_;rotate_left
        ·have hSw:=Hcy.out wx hC;go_simp;all_goals with_reducible rfl
        try simp only[Act.put,zD,zE,zF]
       refine ae 10 _ rfl jr jr (fun wx hC hD=>?_) (fun x=>?_)
       ·refine aZ (f:=?_) (args:=?_) ?_ ?_;rotate_left 2
        ·have hSw:=Hcy.out wx hC;go_simp;all_goals first|with_reducible rfl|(refine⟨?_,?_⟩<;>with_reducible rfl)
        exact cz hC (CA.out wx)
       obtain⟨⟩:=x;try simp only[Act.put,zD,zE,zF]
       refine aH 11 ?_ rfl jr jr (fun wx hC hD=>?_) ?_;rotate_left
       ·have hSw:=Hcy.out wx hC;go_simp;all_goals with_reducible rfl
       try simp only[Act.put,zD,zE,zF]
       refine ah (fun wq hC hF=>?_);clear hF;go_wp2;go_meet;exact⟨bd,rfl,zh HBD.out.1,zh HBD.out.2,hC⟩
      case rest=>
      obtain⟨b,rfl,HBT,HBF,hBw⟩:=hcut
      cases b with
      | true=>
       obtain⟨hp0,hlx⟩:=HBT.out rfl;have hwp:IntKind.i64.wrap (pi-1)=pi-1:=by rw[IntKind.wrap_i64];omega
       have hpl:p-1<D0.length:=by rw[HN9.out];omega
       have HLT2:Hid (∀x∈D0.drop (p-1),ltD d x):=zh (fun x hx=>by
        rw[zc hpl,show p-1+1=p by omega]at hx;rcases List.mem_cons.1 hx with rfl|hx
        ·exact hlx _ (zU hpl)
        exact HLT.out x hx)
       have HBy2:=zh (HBy.out.trans (hBw.mono hys));clear hBw hlx hpl HBT HBF HLT;go_wp2;go_roundw
       case rel=>exact⟨p-1,pi-1,rfl,zh jo,jo,HLT2,HBy2⟩
       simp[intOf];omega
      | false=>
       have hst:=HBF.out rfl;have HINS:Hid (ByT (L0 ++ [d]) (D0.take p ++ [d]++D0.drop p)):=zh (Iq HT.out (by rw[HN9.out];exact hp9) HLT.out hst HSEQ.out);have HBy2:=zh (HBy.out.trans (hBw.mono hys));clear hBw hst HBT HBF HLT HBy HXy
       go_upto_region 10 with(fail);rename World=>w5
       have hy5:=HBy2.out.size;have HO5:=zh (HO3.out.below HBy2.out (fun b hb=>by have:=HSW.out b hb;omega));have HDC5:=zh (HDC3.out.same (fun b hb=>⟨hb,HBy2.out.block b (by have:=HSW.out b hb;omega)⟩));have HX5:=zh (HX3.out.below HBy2.out HX3.out.lt);obtain⟨vss,g1,g2,g3⟩:=HO5.out.ex;obtain⟨A',c',e9,hR9,_⟩:=Ev.aP g2;injection e9 with e9a e9b e9c;subst e9a e9c;rw[HN9.out]at hR9 g1
       have h4:∀v∈vss,v.length=3:=fun v hv=>by
        obtain⟨j,hj,rfl⟩:=zp.1 hv;exact(g3 j (by rw[HN9.out];omega) hj).len
       have hone:∀u∈vss.flatten,u.oneCell'=true:=p7 (by rw[HN9.out];exact g1) g3
       have HRT:Hid (∀wx,zWW w5 wx→Reads wx wx.heap.size 3 A9 p (vss.flatten.take (p*3))∧Reads wx wx.heap.size 3 (if c9=p then A9 else A9.map (·.add (p*3))) (n9-p) (vss.flatten.drop (p*3))):=zh (fun wx hb=>by
        have hr:=(hR9.below hb).more hb.size
        exact⟨EK hr hp9,Jz hr hp9 hc9⟩)
       have HONT:Hid ((∀u∈vss.flatten.take (p*3),u.oneCell'=true)∧(∀u∈vss.flatten.drop (p*3),u.oneCell'=true)):=zh ⟨fun u hu=>hone u (List.mem_of_mem_take hu),fun u hu=>hone u (List.mem_of_mem_drop hu)⟩;have HFLT:Hid (vss.flatten.take (p*3)=(vss.take p).flatten∧vss.flatten.drop (p*3)=(vss.drop p).flatten):=zh ⟨(l7 h4 p).symm,(EM h4 p).symm⟩
       have HNLA:Hid ((A9=none→c9=0)∧((if c9=p then A9 else A9.map (·.add (p*3)))=none→c9-p=0)):=zh ⟨hn9,fun e=>by
        split at e
        ·omega
        cases A9 with
        | none=>have:=hn9 rfl;omega
        | some a=>cases e⟩
       obtain⟨T1,hT1⟩:∃T1,vss.flatten.take (p*3)=T1:=⟨_,rfl⟩;obtain⟨T2,hT2⟩:∃T2,vss.flatten.drop (p*3)=T2:=⟨_,rfl⟩;rw[hT1,hT2]at HRT HONT HFLT;have G1:=zh g1;have G3:=zh g3;clear hT1 hT2 g1 g2 g3 hR9 h4 hone;have hpi':pi=(p:Int):=HPI.out;clear HPI hpi1 hpi2;subst hpi';have hp0:(0:Int)≤(p:Int):=jo;have hpn:(p:Int)≤(n9:Int):=jo;have hpc:(p:Int)≤(c9:Int):=jo;have hnc:(n9:Int)≤(c9:Int):=jo
       have Hc5:Hid (∀wx,zWW w5 wx→wx.cell? ⟨bx,0,none⟩=some (.int .i64 d.seq)∧wx.cell? ⟨bx,1,none⟩=some (.int .i64 d.at_)∧wx.cell? ⟨bx,2,none⟩=some (.slice F d.fs.length fc)):=zh (fun wx hb=>by
        have r:=HX5.out.below hb HX5.out.lt;have r0:=r.cell 0;have r1:=r.cell 1;have r2:=r.cell 2;simp only[zA,zB,zC]at r0 r1 r2
        exact⟨r0,r1,r2⟩)
       refine Gx.rL 12 (aI [(0,⟨Nat,fun g=>.slice (some ⟨g,0,none⟩) 0 0,fun g wx=>wx.ownsRow w5.heap.size 48 3 (.slice (some ⟨g,0,none⟩) 0 0) 0 []⟩),(4,⟨Value,fun v=>v,fun v wx=>wx.ownsRow w5.heap.size 48 3 v p T1⟩),(6,⟨Nat,fun g=>.slice (some ⟨g,0,none⟩) 1 1,fun g wx=>Blk wx g 48 #[.int .i64 d.seq,.int .i64 d.at_,.slice F d.fs.length fc]⟩),(7,⟨Value,fun v=>v,fun v wx=>wx.ownsRow w5.heap.size 48 3 v (p+1) (T1 ++ [.int .i64 d.seq,.int .i64 d.at_,.slice F d.fs.length fc])⟩),(11,⟨Value,fun v=>v,fun v wx=>wx.ownsRow w5.heap.size 48 3 v (n9+1) (T1 ++ [.int .i64 d.seq,.int .i64 d.at_,.slice F d.fs.length fc]++T2)⟩)]) (fun i=>i==7 || i==11) (fun wx=>Below (World.heap w5).size w5 wx) (fun w1 w2=>zWW w1 w2) jk jk (Gx.ug jk) (aN (fun g wa wb hg h=>h.kept (aJ hg none) (by simp[Value.ownBlock])) (aN (fun g wa wb hg h=>h.kept (aJ hg none) (by cases hv:g.ownBlock<;>simp)) (aN (fun g wa wb hg h=>h.below hg h.lt) (aN (fun g wa wb hg h=>h.kept (aJ hg none) (by cases hv:g.ownBlock<;>simp)) (aN (fun g wa wb hg h=>h.kept (aJ hg none) (by cases hv:g.ownBlock<;>simp)) (aX)))))) ((zw _ _).drew) ?_;simp only[zX,List.take_zero,zm,List.drop_zero];refine Gx.kK 1 _ rfl jr jr jr (fun wx hC hD=>?_) (fun x=>?_)
       ·refine fQ (u:=?_) (w':=?_) ?_ ?_ ?_;rotate_left 2
        ·have hSw:=Hc5.out wx hC;go_simp;all_goals first|with_reducible rfl|(refine⟨?_,?_⟩<;>with_reducible rfl)
        ·exact(zRR _)
        exact⟨hC.alloc hC.size _,wx.heap.size,rfl,World.ownsRow_made (base:=w5.heap.size) (e:=48) (size:=3) wx #[] 0 hC.size jx rfl⟩
       rename Nat=>x0
       try simp only[Act.put,zD,zE,zF]
       refine Gx.eZ 2 ?_ rfl jr jr (fun wx hC hD=>?_) ?_;rotate_left
       ·have hSw:=Hc5.out wx hC;go_simp;all_goals with_reducible rfl
       try simp only[Act.put,zD,zE,zF]
       refine Gx.eZ 3 ?_ rfl jr jr (fun wx hC hD=>?_) ?_;rotate_left
       ·have hSw:=Hc5.out wx hC;go_simp;all_goals with_reducible rfl
       try simp only[Act.put,zD,zE,zF]
       refine Gx.eZ 4 ?_ rfl jr jr (fun wx hC hD=>?_) ?_;rotate_left
       ·have hSw:=Hc5.out wx hC;go_simp;all_goals with_reducible rfl
       try simp only[Act.put,zD,zE,zF]
       refine Gx.kK 5 _ rfl jr jr jr (fun wx hC hD=>?_) (fun x=>?_)
       ·have hown:=bf (fC hD 0 jk) jd;obtain⟨hr,_⟩:=HRT.out wx hC;refine rM _ _ 26 rfl w5.heap.size 48 i0 _ 3 40 underlying26 hi0 hz0 hz1 hz2 rfl jd x0 rfl hown A9 p c9 T1 rfl hr HNLA.out.1 HONT.out.1 jx jo hC.size (fun v' w' ho hb=>⟨hC.trans (hb.mono hC.size),v',rfl,ho⟩)
       rename Value=>x4
       try simp only[Act.put,zD,zE,zF]
       refine Gx.eZ 6 ?_ rfl jr jr (fun wx hC hD=>?_) ?_;rotate_left
       ·have hSw:=Hc5.out wx hC;go_simp;all_goals with_reducible rfl
       try simp only[Act.put,zD,zE,zF]
       refine Gx.kK 7 _ rfl jr jr jr (fun wx hC hD=>?_) (fun x=>?_)
       ·refine fQ (u:=?_) (w':=?_) ?_ ?_ ?_;rotate_left 2
        ·have hSw:=Hc5.out wx hC;go_simp;all_goals first|with_reducible rfl|(refine⟨?_,?_⟩<;>with_reducible rfl)
        ·exact(zRR _)
        exact⟨hC.alloc hC.size _,wx.heap.size,rfl,Blk.new _ _ _⟩
       rename Nat=>x6
       try simp only[Act.put,zD,zE,zF]
       refine Gx.qa 8 _ rfl jr jr jr (fun wx hC hI hD=>?_) (fun x=>?_)
       ·have hown:=bf (mK (fC hD 4 jk) jd) jd;have hb6:=bf (fC hD 6 jk) jd;refine kU _ _ 26 rfl w5.heap.size 48 i0 _ 3 40 underlying26 hi0 hz0 hz1 hz2 rfl jd x4 p T1 rfl hown (Bd:=wx.heap.size) (some ⟨x6,0,none⟩) 1 1 [.int .i64 d.seq,.int .i64 d.at_,.slice F d.fs.length fc] rfl ⟨rfl,fun _=>⟨x6,0,rfl,hb6.lt,fun j u hj=>by rw[zf];exact(hb6.cell j).trans (by simpa using hj)⟩⟩ (fun e=>nomatch e) (fun u hu=>by simp at hu;rcases hu with rfl|rfl|rfl<;>rfl) jx jo hC.size (fun v' w' ho hg _=>⟨hC.grown hg hC.size (fun j hj=>(hown.lt j hj).1),v',rfl,ho⟩)
       rename Value=>x7
       try simp only[Act.put,zD,zE,zF]
       refine Gx.eZ 9 ?_ rfl jr jr (fun wx hC hD=>?_) ?_;rotate_left
       ·have hSw:=Hc5.out wx hC;go_simp;all_goals with_reducible rfl
       try simp only[Act.put,zD,zE,zF]
       refine Gx.eZ 10 ?_ rfl jr jr (fun wx hC hD=>?_) ?_;rotate_left
       ·have hSw:=Hc5.out wx hC;go_simp;all_goals with_reducible rfl
       try simp only[Act.put,zD,zE,zF]
       refine Gx.eZ 11 ?_ rfl jr jr (fun wx hC hD=>?_) ?_;rotate_left
       ·have hSw:=Hc5.out wx hC;go_simp;all_goals with_reducible rfl
       try simp only[Act.put,zD,zE,zF]
       refine Gx.qa 12 _ rfl jr jr jr (fun wx hC hI hD=>?_) (fun x=>?_)
       ·obtain⟨_,hr⟩:=HRT.out wx hC;refine kU _ _ 26 rfl w5.heap.size 48 i0 _ 3 40 underlying26 hi0 hz0 hz1 hz2 rfl jd x7 (p+1) _ rfl hI (Bd:=wx.heap.size) _ (n9-p) (c9-p) T2 rfl hr HNLA.out.2 HONT.out.2 jx jo hC.size (fun v' w' ho hg _=>⟨hC.grown hg hC.size (fun j hj=>(hI.lt j hj).1),v',rfl,by rw[show n9+1=p+1+(n9-p) by omega];exact ho⟩)
       rename Value=>x11
       try simp only[Act.put,zD,zE,zF]
       refine Gx.yd (fun w6 hC hF hI=>?_);have HBD:Hid (zWW w5 w6):=zh hC;have h6s:=hC.size
       have HFin:Hid (DOwnS w6 w1.heap.size S x11 (D0.take p ++ [d]++D0.drop p)):=zh (by
        have hDS:=(HDC5.out.same (fun b hb=>⟨hb,hC.block b (by have:=HSW.out b hb;omega)⟩));refine(uh (w:=w6) (base:=w5.heap.size) (by rw[HN9.out];exact G1.out) (fun i a b=>(G3.out i a b).same (fun b hb=>⟨hb,hC.block b (by have:=HSW.out b hb;omega)⟩)) hDS (by rw[HN9.out];exact hp9) ?_ (fun b hb=>rfl)).mono jo;rw[HN9.out,←HFLT.out.1,←HFLT.out.2]
        exact hI)
       have HB6:=zh ((HB3.out.trans (HBy2.out.mono jo)).trans (hC.mono jo));clear hF hC hI;go_wp2;go_roundw
       case rel=>exact⟨k+1,_,jo,ju,by rw[HTK.out];exact HINS,HFin,HB6⟩
       simp[intOf];omega
    have e0:(decide (m.floor≤d.at_)&&(decide (fr≤d.at_)&&decide (d.at_≤ti)&&pd))=false:=by rw[zO e1,zO e2,zN e3];cases pd<;>rfl
    rw[e0,zH jd,List.append_nil]at HTK;clear CM e0;go_wp2;go_roundw
    case rel=>exact⟨k+1,D0,jo,ju,by rw[HTK.out];exact HT,HO2,HB2⟩
    simp[intOf];omega
   have e0:(decide (m.floor≤d.at_)&&(decide (fr≤d.at_)&&decide (d.at_≤ti)&&pd))=false:=by rw[zO e1,zN e2];simp
   rw[e0,zH jd,List.append_nil]at HTK;clear CM e0;go_wp2;go_roundw
   case rel=>exact⟨k+1,D0,jo,ju,by rw[HTK.out];exact HT,HO2,HB2⟩
   simp[intOf];omega
  have e0:(decide (m.floor≤d.at_)&&(decide (fr≤d.at_)&&decide (d.at_≤ti)&&pd))=false:=by rw[zN e1];simp
  rw[e0,zH jd,List.append_nil]at HTK;clear CM e0;go_wp2;go_roundw
  case rel=>exact⟨k+1,D0,jo,ju,by rw[HTK.out];exact HT,HO2,HB2⟩
  simp[intOf];omega
 obtain rfl:k=m.ds.length:=jo;rw[zR (zG _),←HAL.out]at HT;have hm7:=(HM.out.below hBr.out jo).cell 7;simp only[rmC,zA,zB,zC]at hm7;have hnl:¬(m.ds.length:Int)<(z.n:Int):=jo;go_wp2;go_ret;exact⟨_,_,rfl,hO.out.mono jo,HT.out,HB.out.trans (hBr.out.mono HB.out.size)⟩
end
end Md
end Go.Proofs.YtmomjpolkkbhnaaGreat
