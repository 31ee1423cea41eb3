/- (*Model).up, over whatever function value; (*Model).Docs (printed by gen_mdb.py). -/
import Derived.Shelf.GgSortFunc.RowK
import Derived.Sort.OwnSorted
import Derived.Sort.Grow
import Derived.Shelf.SlSortCmp.HeapSortK
import Derived.Test.YtmomjpolkkbhnaaGreatQModelCountsRow14
set_option linter.unusedSectionVars false
set_option linter.unusedSimpArgs false
set_option linter.unusedVariables false
set_option maxRecDepth 20000
set_option maxHeartbeats 100000000
open Go.Proofs.Tryz
namespace Go.Proofs.YtmomjpolkkbhnaaGreat
namespace Md
open Go.RowKit Ut Tk Qy Qp Ev
theorem At.docs{w:World}{n0 X K:Nat}{v:Value}{m:M}(h:At w n0 X K v m):∃A c,v=.slice A m.ds.length c∧m.ds.length≤c∧(A=none→c=0)∧∀i (hi:i<m.ds.length),∃g o Fa fc,A=some ⟨g,o,none⟩∧g<w.heap.size ∧
  w.cell? ⟨g,o+i*3,none⟩=some (.int .i64 m.ds[i].seq)∧w.cell? ⟨g,o+i*3+1,none⟩=some (.int .i64 m.ds[i].at_)∧w.cell? ⟨g,o+i*3+2,none⟩=some (.slice Fa m.ds[i].fs.length fc)∧FlAt w w.heap.size Fa m.ds[i].fs.length fc m.ds[i].fs:=by
 obtain⟨A,c,rfl,hD,hc,hn⟩:=h.own.read;refine⟨A,c,rfl,hc,hn,fun i hi=>?_⟩;obtain⟨b,o,F,fn,fc,e,hb,c0,c1,c2,hr,hl,h1,h2,h3⟩:=hD.at_ hi;subst hl;exact⟨b,o,F,fc,e,hb.2,c0,c1,c2,⟨hr.mono (fun b hb=>hb.2.lt),rfl,h1,h2,fun f hf=>by have:=((gP (h.ok.doc i hi).1).2 f hf);have:=this.1;omega,h3⟩⟩
theorem flg{w w':World}{F:Option Addr}{fn fc:Nat}{fs:List Fl}(h:FlAt w w.heap.size F fn fc fs)(hb:zWW w w'):FlAt w' w'.heap.size F fn fc fs:=(h.keep (fun b o hl=>hb.cell (p:=⟨b,o,none⟩) hl)).more hb.size
def upL(m:M)(p:Dc→Bool):List Dc:=m.ds.filter (fun d=>decide (m.floor≤d.at_)&&p d)
theorem qi{w:World}{n0 X K:Nat}{v:Value}{m:M}(h:At w n0 X K v m)(hK:K≤60000)(g:Nat)(cb:Array Value)(p:Dc→Bool)(hcf:∀args wx,(callFunc g args).run prog wx=.ok (.enter g args) wx)
  (hG:∀d∈m.ds,∀wx,zWW w wx→∀Fa fc,FlAt wx wx.heap.size Fa d.fs.length fc d.fs→Calls prog g (#[.agg #[.int .i64 d.seq,.int .i64 d.at_,.slice Fa d.fs.length fc]]++cb) wx fun e w'=>e=.returned (.bool (p d))∧zWW wx w') :
  Calls prog 72 #[.pointer (some ⟨X,0,none⟩),.func (.func g) #[] cb] w (kw w (upL m p)):=by
 obtain⟨i0,hi0,hz0,hz1,hz2⟩:=info_parts Ev.fR;obtain⟨A8,c8,rfl,hc8,hn8,hfl⟩:=h.docs;have hB:=h.blk;have k7:=hB.cell 7;simp only[mdC,zA,zB,zC]at k7;have hfew:=h.few
 have HG:Hid (∀wx,zWW w wx→∀i (hi:i<m.ds.length),∃g o Fa fc,A8=some ⟨g,o,none⟩∧g<wx.heap.size∧wx.cell? ⟨g,o+i*3,none⟩=some (.int .i64 m.ds[i].seq)∧wx.cell? ⟨g,o+i*3+1,none⟩=some (.int .i64 m.ds[i].at_)∧wx.cell? ⟨g,o+i*3+2,none⟩=some (.slice Fa m.ds[i].fs.length fc)∧FlAt wx wx.heap.size Fa m.ds[i].fs.length fc m.ds[i].fs):=zh (fun wx hb i hi=>by
  obtain⟨g,o,Fa,fc,e,hg,q0,q1,q2,hr⟩:=hfl i hi
  exact⟨g,o,Fa,fc,e,zT hg hb.size,(hb.cell hg).trans q0,(hb.cell hg).trans q1,(hb.cell hg).trans q2,flg hr hb⟩)
 have H8:Hid (∀wx,zWW w wx→wx.cell? ⟨X,8,none⟩=some (.int .i64 m.floor)):=zh (fun wx hb=>by
  have:=(hB.below hb hB.lt).cell 8
  simpa only[mdC,zA,zB,zC]using this)
 have HC:=zh hG;have HDOC:=zh h.ok.doc;have HUP:Hid (upL m p=m.ds.filter (fun d=>decide (m.floor≤d.at_)&&p d)):=zh rfl;generalize hu:upL m p=UU at *;obtain⟨c,ds,fl,nw,ak⟩:=m;simp only at *;clear h hfl hG hu hB;go_enter func72,ntmps72;go_wp2_with fail;go_loopw [5,13] (fun v i wr=>∃k:Nat,k≤ds.length∧i=.int .i64 (k:Nat)∧Hid (DOwn wr w.heap.size v ((ds.take k).filter (fun d=>decide (fl≤d.at_)&&p d)))∧Hid (zWW w wr)) (fun _ i _=>ds.length-(intOf i).toNat)
 case atStart=>exact⟨0,zS _,rfl,zh (DOwn.start _ _),zh (zw _ _)⟩
 obtain⟨k,hk,rfl,hO,hB⟩:=hrel;by_cases hlt:k<ds.length
 ·have hkz:(k:Int)<(ds.length:Int):=jo;have hk0:(0:Int)≤(k:Int):=jo;obtain⟨gb,go,Fa,fc,rfl,hg,q0,q1,q2,hr⟩:=HG.out wr hB.out k hlt
  have hlnk:((ds.take k).filter (fun d=>decide (fl≤d.at_)&&p d)).length≤k:=by
   refine zY (List.length_filter_le _ _) ?_;rw[zK];omega
  have hf16:=(gP (HDOC.out k hlt).1).1
  have HTK:Hid ((ds.take (k+1)).filter (fun d=>decide (fl≤d.at_)&&p d)=(ds.take k).filter (fun d=>decide (fl≤d.at_)&&p d)++if(decide (fl≤ds[k].at_)&&p ds[k])=true then[ds[k]]else[]):=zh (by
   rw[zL hlt,List.filter_append];congr 1
   by_cases hp:(decide (fl≤ds[k].at_)&&p ds[k])=true<;>simp[List.filter_cons,hp])
  have CD:Hid (∀wx,zWW wr wx→Calls prog g (#[.agg #[.int .i64 ds[k].seq,.int .i64 ds[k].at_,.slice Fa ds[k].fs.length fc]]++cb) wx fun e w'=>e=.returned (.bool (p ds[k]))∧zWW wx w'):=zh (fun wx hb=>HC.out _ (za hlt) wx (hB.out.trans (hb.mono hB.out.size)) Fa fc (flg hr hb));have HLN:=zh hlnk;clear hlnk;generalize hpd:p ds[k]=pd at *;generalize ds[k]=d at *;generalize (ds.take k).filter (fun d=>decide (fl≤d.at_)&&p d)=D0 at *;have hBx:zWW wr (wr.alloc (.cells #[.int .i64 d.seq,.int .i64 d.at_,.slice Fa d.fs.length fc] 48)):=zRR _;have hbx:=Blk.new wr 48 #[.int .i64 d.seq,.int .i64 d.at_,.slice Fa d.fs.length fc];have HBX:=zh hBx;have HXX:=zh hbx;have HFL:=zh (flg hr hBx);have hw:=hB.out.size;clear hpd hr hbx hBx
  go_upto_region 5 with(fail);generalize hw1:wr.alloc (.cells #[.int .i64 d.seq,.int .i64 d.at_,.slice Fa d.fs.length fc] 48)=w1 at *;clear hw1 q0 q1 q2
  have Hc5:Hid (∀wx,zWW w1 wx→wx.cell? ⟨wr.heap.size,0,none⟩=some (.int .i64 d.seq)∧wx.cell? ⟨wr.heap.size,1,none⟩=some (.int .i64 d.at_)∧wx.cell? ⟨wr.heap.size,2,none⟩=some (.slice Fa d.fs.length fc)∧wx.cell? ⟨X,8,none⟩=some (.int .i64 fl)):=zh (fun wx hb=>by
   have r0:=(HXX.out.below hb HXX.out.lt).cell 0;have r1:=(HXX.out.below hb HXX.out.lt).cell 1;have r2:=(HXX.out.below hb HXX.out.lt).cell 2;simp only[zA,zB,zC]at r0 r1 r2
   exact⟨r0,r1,r2,H8.out wx (hB.out.trans ((HBX.out.trans (hb.mono HBX.out.size)).mono hB.out.size))⟩)
  by_cases hfa:fl≤d.at_
  ·have hfd:decide (fl≤d.at_)=true:=zO hfa;rw[hfd,Bool.true_and]at HTK;have CD1:Hid (∀wx,zWW w1 wx→Calls prog g (#[.agg #[.int .i64 d.seq,.int .i64 d.at_,.slice Fa d.fs.length fc]]++cb) wx fun e w'=>e=.returned (.bool pd)∧zWW wx w'):=zh (fun wx hb=>CD.out wx (HBX.out.trans (hb.mono HBX.out.size)));clear hfd;refine cH (aI [(11,⟨Unit,fun _=>(.bool pd),fun _ _=>True⟩)]) (fun wx=>Below (World.heap w1).size w1 wx) (fun w1 w2=>zWW w1 w2) jk jk (aN (fun _ _ _ _ h=>h) (aX)) (zw _ _).drew ?_
   iterate 11
    refine aH _ ?_ rfl jr jr (fun wx hC hD=>?_) ?_;rotate_left
    ·have hSw:=Hc5.out wx hC;go_simp;all_goals with_reducible rfl
    try simp only[Act.put,zD,zE,zF]
   refine ae 12 _ rfl jr jr (fun wx hC hD=>?_) (fun x=>?_)
   ·refine aZ (f:=?_) (args:=?_) ?_ ?_;rotate_left 2
    ·have hSw:=Hc5.out wx hC;go_simp;all_goals first|with_reducible rfl|(refine⟨?_,?_⟩<;>with_reducible rfl)
    refine(CD1.out wx hC).mono ?_;rintro e w9 ⟨rfl,hb9⟩;exact⟨_,rfl,hb9,hC.trans (hb9.mono hC.size),(),rfl,trivial⟩
   obtain⟨⟩:=x;try simp only[Act.put,zD,zE,zF]
   refine aH 13 ?_ rfl jr jr (fun wx hC hD=>?_) ?_;rotate_left
   ·have hSw:=Hc5.out wx hC;go_simp;all_goals with_reducible rfl
   try simp only[Act.put,zD,zE,zF]
   refine ah (fun w2 hC hF=>?_);have HB2:=zt HBX hC;have hcl:=Hc5.out w2 hC;have HFL2:=zh (flg HFL.out hC);clear hF hC CD CD1 Hc5;obtain⟨b0,b1,b2,_⟩:=hcl
   cases pd with
   | true=>
    rw[zI rfl]at HTK;have C2:=zh (tH d Fa d.fs.length fc w2 HFL2.out.rd rfl jo HFL2.out.nl);go_wp2_with fail;refine C2.out.mono ?_;rintro e w3 ⟨A3,q3,rfl,hnq3,hnl3,hown3,hb3⟩;have hbW:zWW wr w3:=HB2.out.trans (hb3.mono HB2.out.size);have hbS:zWW wr (w3.alloc (.cells #[.int .i64 d.seq,.int .i64 d.at_,.slice A3 d.fs.length q3] 48)):=hbW.alloc hbW.size _;have hO6:=hO.out.below hbS;obtain⟨vss,g1,g2,g3⟩:=hO6.ex;have hown6:=hown3.alloc (.cells #[.int .i64 d.seq,.int .i64 d.at_,.slice A3 d.fs.length q3] 48)
    have hd6:DcS (w3.alloc (.cells #[.int .i64 d.seq,.int .i64 d.at_,.slice A3 d.fs.length q3] 48)) (Go.Proofs.YtmomjpolkkbhnaaGreat.Ev.Fd _ w.heap.size) d [.int .i64 d.seq,.int .i64 d.at_,.slice A3 d.fs.length q3]:=
     ⟨A3,_,q3,rfl,(ReadsS.of_own hown6).mono (fun b hb=>⟨by have:=hb.1;have:=HB2.out.size;omega,aY hown6 hb.2.2⟩),rfl,jo,hnq3,hnl3⟩
    have Put:Hid (∀v' w5,w5.ownsRow w.heap.size 48 3 v' (D0.length+1) (vss.flatten ++ [.int .i64 d.seq,.int .i64 d.at_,.slice A3 d.fs.length q3])→_→DOwn w5 w.heap.size v' ((ds.take (k+1)).filter (fun d=>decide (fl≤d.at_)&&p d))):=zh (fun v' w5 p1 p2=>by
     rw[HTK.out]
     exact DOwn.put ⟨vss,g1,g2,g3,rfl⟩ p1 p2 hd6)
    have G2:=zh g2;have hzs:=hbS.size;have HBS:=zh hbS;have hD0:D0.length≤k:=HLN.out;clear hown6 hbS hO6 g1 g2 g3 hd6 hown3 hnq3 hnl3 hbW b0 b1 b2;generalize D0.length=dn at *;go_wp2_with (at_builtin;refine vH _ rfl _ _ 26 rfl w.heap.size 48 i0 _ 3 40 underlying26 hi0 hz0 hz1 hz2 rfl jd _ _ _ rfl G2.out ⟨w3.heap.size,0,none⟩ 1 1 [.int .i64 d.seq,.int .i64 d.at_,.slice A3 d.fs.length q3] rfl rfl ?d1 ?d2 ?d3 ?d4 ?d5 ?_)
    case d1=>exact zy (cs:=#[.int .i64 d.seq,.int .i64 d.at_,.slice A3 d.fs.length q3]) (t:=48) (fr:=(0,0)) (vI w3 (.cells #[.int .i64 d.seq,.int .i64 d.at_,.slice A3 d.fs.length q3] 48))
    case d2=>simp[Value.oneCell']
    case d3=>unfold maxLen;omega
    case d4=>omega
    case d5=>first|omega|(simp;omega)
    intro v' w5 hown5 hg5 _;have Fin:=zh (Put.out v' w5 hown5 hg5);have hbF:Hid (zWW w w5):=zh ((hB.out.trans (HBS.out.mono hB.out.size)).grown hg5 jo (fun j hj=>(G2.out.lt j hj).1));clear hown5 hg5;go_wp2;go_roundw
    case rel=>exact⟨k+1,jo,ju,Fin,hbF⟩
    simp[intOf];omega
   | false=>
    rw[zH jd,List.append_nil]at HTK;have Fin:Hid (DOwn w2 w.heap.size _ ((ds.take (k+1)).filter (fun d=>decide (fl≤d.at_)&&p d))):=zh (by rw[HTK.out];exact hO.out.below HB2.out);have hbF:Hid (zWW w w2):=zh (hB.out.trans (HB2.out.mono hB.out.size));go_wp2;go_roundw
    case rel=>exact⟨k+1,jo,ju,Fin,hbF⟩
    simp[intOf];omega
  have hfd:decide (fl≤d.at_)=false:=zN hfa;rw[hfd,Bool.false_and,zH jd,List.append_nil]at HTK;clear hfd CD;refine cH (aI []) (fun wx=>Below (World.heap w1).size w1 wx) (fun w1 w2=>zWW w1 w2) jk jk (aX) (zw _ _).drew ?_
  iterate 9
   refine aH _ ?_ rfl jr jr (fun wx hC hD=>?_) ?_;rotate_left
   ·have hSw:=Hc5.out wx hC;go_simp;all_goals with_reducible rfl
   try simp only[Act.put,zD,zE,zF]
  refine aS 10 (some false) true rfl jr jr jr ?_;try simp only[Act.put,zD,zE,zF]
  refine aS 11 (some false) true rfl jr jr jr ?_;try simp only[Act.put,zD,zE,zF]
  refine aS 12 (some false) true rfl jr jr jr ?_;try simp only[Act.put,zD,zE,zF]
  refine aH 13 ?_ rfl jr jr (fun wx hC hD=>?_) ?_;rotate_left
  ·have hSw:=Hc5.out wx hC;go_simp;all_goals with_reducible rfl
  try simp only[Act.put,zD,zE,zF]
  refine ah (fun w2 hC hF=>?_);have HB2:=zt HBX hC;have Fin:Hid (DOwn w2 w.heap.size _ ((ds.take (k+1)).filter (fun d=>decide (fl≤d.at_)&&p d))):=zh (by rw[HTK.out];exact hO.out.below HB2.out);have hbF:Hid (zWW w w2):=zh (hB.out.trans (HB2.out.mono hB.out.size));clear hF hC Hc5;go_wp2;go_roundw
  case rel=>exact⟨k+1,jo,ju,Fin,hbF⟩
  simp[intOf];omega
 obtain rfl:k=ds.length:=jo;have hkz:¬(ds.length:Int)<(ds.length:Int):=jo;rw[List.take_length,←HUP.out]at hO;go_wp2;go_ret;exact⟨_,rfl,hO.out,hB.out⟩
end Md

namespace Ss
open Go.RowKit Go.Sort Go.Shelf Go.Lib
variable {α:Type} [Inhabited α] {enc:α→List Value} {k:Nat}
theorem jG(hk:∀x,(enc x).length=k)(l:List α):(l.flatMap enc).length=l.length*k:=by
 induction l with
 | nil=>simp
 | cons x l ih=>rw[List.flatMap_cons,zJ,hk,ih,zV,Nat.add_mul,Nat.one_mul,Nat.add_comm]
theorem FK(hk:∀x,(enc x).length=k)(l:List α)(i j:Nat)(hi:i<l.length)(hj:j<k):(l.flatMap enc)[i*k+j]?=(enc l[i])[j]?:=by
 have:=Qy.cQ (k:=k) (vss:=l.map enc) (fun v hv=>by obtain⟨x,_,rfl⟩:=List.mem_map.1 hv;exact hk x) i j (by simpa using hi) hj;rw[List.getElem_map]at this;rw[List.flatMap_def];exact this
theorem wF(hk:∀x,(enc x).length=k)(h0:0<k)(l:List α):flatK enc k l.toArray=(l.flatMap enc).toArray:=by
 apply Array.ext
 ·simp only[size_flatK,List.size_toArray,jG hk]
 intro i h1 h2;rw[size_flatK]at h1;have hs:l.toArray.size=l.length:=jz;rw[hs]at h1;have hi:i/k<l.length:=Nat.div_lt_of_lt_mul (by rw[Nat.mul_comm];exact h1);have e1:(flatK enc k l.toArray)[i]! = (enc l.toArray[i/k]!)[i%k]!:=get_flatK enc k l.toArray i (by rw[hs];exact h1);rw[getElem!_pos _ i (by rw[size_flatK,hs];exact h1)]at e1;have e2:l.toArray[i/k]! = l[i/k]:=by rw[getElem!_pos _ _ (by simpa using hi)];simp
 have hm:i%k<k:=Nat.mod_lt _ h0;have g:=FK hk l (i/k) (i%k) hi hm;have ei:i/k*k+i%k=i:=by rw[Nat.mul_comm];exact Nat.div_add_mod i k
 rw[ei]at g;rw[e1,e2];have h3:i<(l.flatMap enc).length:=by rw[jG hk];exact h1
 rw[zU h3,zU (by rw[hk];exact hm)]at g;injection g with g;rw[getElem!_pos _ _ (by rw[hk];exact hm),←g];simp
theorem Jc(hk:∀x,(enc x).length=k)(h0:0<k){w:World}{g:Nat}{cur:Array Value}{e:TypeId}{l:List α}(hb:w.heap[g]?=some (.cells cur e (0,0)))(ht:cur.toList.take (l.length*k)=l.flatMap enc):HoldsK enc k w g 0 l.toArray:=by
 unfold HoldsK;rw[wF hk h0];intro j hj;have hj':j<(l.flatMap enc).length:=by simpa using hj
 have hj2:j<l.length*k:=by rw[jG hk]at hj';exact hj'
 refine⟨?_,by simp[World.frozen?,hb]⟩;have h1:(cur.toList.take (l.length*k))[j]?=(l.flatMap enc)[j]?:=by rw[ht]
 rw[List.getElem?_take_of_lt hj2]at h1;simp only[World.cell?,hb,zf];simp only[Option.isSome_none,Bool.false_eq_true,if_false];rw[←Array.getElem?_toList,h1];simp[hj',zU hj']
theorem KM{w:World}{g n:Nat}{os:Array Obj}{cur:Array Value}{e:TypeId}{fr:Nat × Nat}(d:Array Value)(hb:w.heap[g]?=some (.cells cur e fr)) :
  (grow (putRow id (Sort.ahead w n) g 0 d) os).heap[g]?=some (.cells (putCells id 0 d cur) e fr):=by
 have hg:g<w.heap.size:=(Array.getElem?_eq_some_iff.1 hb).1;rw[heap_grow_old _ _ (by simpa using hg)];simp[putRow,mapBlock,Sort.ahead,Array.getElem?_modify,hb,onCells]
theorem Jd{w:World}{g n:Nat}{os:Array Obj}(d:Array α):w.grownBy (sortWorldK enc k w g 0 n d os) (some g):=by
 unfold sortWorldK putRowK;refine⟨rfl,rfl,rfl,jz,fun j hj hne=>?_⟩;rw[heap_grow_old _ _ (by simpa using hj)];have:g≠j:=fun e=>hne (by rw[e])
 simp[putRow,mapBlock,Sort.ahead,Array.getElem?_modify,this]
theorem KN(cur:Array Value)(F:List Value)(h:F.length≤cur.size):(putCells id 0 F.toArray cur).toList.take F.length=F:=by
 apply List.ext_getElem?;intro j;by_cases hj:j<F.length
 ·rw[List.getElem?_take_of_lt hj,Array.getElem?_toList];simp[putCells,hj,show j<cur.size by omega]
 rw[List.getElem?_take_eq_none jo,List.getElem?_eq_none jo]
theorem KZ(hk:∀x,(enc x).length=k)(h0:0<k){w:World}{base g cap n:Nat}{e:TypeId}{os:Array Obj}{cur:Array Value}{l m:List α}(hl:m.length=l.length)(hbase:base≤g)(hb:w.heap[g]?=some (.cells cur e (0,0)))
  (h1:l.length≤cap) (h2:cap≤maxLen) (h3:cur.size=cap*k) :
  (sortWorldK enc k w g 0 n m.toArray os).ownsRow base e k (.slice (some ⟨g,0,none⟩) m.length cap) m.length (m.flatMap enc):=by
 unfold sortWorldK putRowK;rw[wF hk h0];refine⟨jG hk m,.inr ⟨g,cap,_,rfl,hbase,KM _ hb,jo,h2,by simp[putCells,h3],?_⟩⟩;rw[←jG hk m];exact KN cur (m.flatMap enc) (by rw[jG hk,h3];exact Nat.mul_le_mul_right k jo)
end Ss

namespace Md
open Go.RowKit Ut Tk Qy Qp Ev Ss Go.Sort Go.Shelf Go.Lib
def Grw(w w':World):Prop:=∃q os,w'=grow (w.drewN q) os
theorem Grw.refl(w:World):Grw w w:=⟨0,#[],by rw[grow_empty];rfl⟩
theorem Grw.trans{a b c:World}(h1:Grw a b)(h2:Grw b c):Grw a c:=by
 obtain⟨q,os,rfl⟩:=h1;obtain⟨q',os',rfl⟩:=h2;refine⟨q+q',os++os',?_⟩;rw[show ((grow (a.drewN q) os).drewN q')=grow ((a.drewN q).drewN q') os from rfl,grow_grow,World.drewN_drewN]
theorem Grw.alloc{a b:World}(h:Grw a b)(o:Obj):Grw a (b.alloc o):=h.trans ⟨0,#[o],by rw[alloc_eq_grow];rfl⟩
theorem Grw.drew{a b:World}(h:Grw a b):Grw a b.drew:=h.trans ⟨1,#[],by rw[grow_empty];rfl⟩
def cOr(a b:Int):Int:=if a=0 then b else a
theorem rW(x y:Int)(w:World):Calls prog 105 #[.int .i64 x,.int .i64 y] w fun e w'=>e=.returned (.int .i64 (Lib.compareInt x y))∧w'=w:=Tryz.cmp_Compare_int x y w
theorem Je(A:Option Addr)(c:Nat)(a b:Int)(w:World)(hR:Reads w w.heap.size 1 A 2 [.int .i64 a,.int .i64 b]) :
  Calls prog 104 #[.slice A 2 c] w fun e w'=>e=.returned (.int .i64 (cOr a b))∧Grw w w':=by
 obtain⟨bb,o,rfl,hbb,hc⟩:=hR.2 jd;have h0:=hc 0 _ rfl;have h1:=hc 1 _ rfl;simp at h0 h1;have Fin:Hid (cOr a b=if a=0 then b else a):=rfl;clear hR hc;generalize cOr a b=r at *;go_enter func104,ntmps104;go_wp2_with fail;go_loopw [8] (fun i wr=>∃k:Nat,k≤2∧i=.int .i64 (k:Nat)∧wr=w∧Hid (1≤k→a=0)∧Hid (2≤k→b=0)) (fun i _=>2-(intOf i).toNat)
 case atStart=>exact⟨0,jo,rfl,rfl,zh (fun h=>absurd h jo),zh (fun h=>absurd h jo)⟩
 obtain⟨k,hk,rfl,rfl,ha,hb⟩:=hrel;have hk3:k=0∨k=1∨k=2:=jo;rcases hk3 with rfl|rfl|rfl
 ·by_cases e:a=0
  ·have He:=zh e;subst e;clear ha hb;go_wp2;go_roundw
   case rel=>exact⟨1,jo,ju,by trivial,zh (fun _=>by trivial),zh (fun h=>absurd h jo)⟩
   simp[intOf]
  have e':(a != 0)=true:=by simpa using e
  have Fin2:Hid (r=a):=zh (by rw[Fin.out,zH e]);clear ha hb Fin e;go_wp2;go_ret;exact⟨by rw[Fin2.out];rfl,Grw.refl _⟩
 ·have ha0:=ha.out jo;by_cases e:b=0
  ·subst e;have Ha0:=zh ha0;clear ha hb ha0;go_wp2;go_roundw
   case rel=>exact⟨2,jo,ju,by trivial,zh (fun _=>Ha0.out),zh (fun _=>by trivial)⟩
   simp[intOf]
  have e':(b != 0)=true:=by simpa using e
  have Fin2:Hid (r=b):=zh (by rw[Fin.out,zI ha0]);clear ha hb Fin e ha0;go_wp2;go_ret;exact⟨by rw[Fin2.out];rfl,Grw.refl _⟩
 have Fin2:Hid (r=0):=zh (by rw[Fin.out,zI (ha.out jo),hb.out jo]);clear ha hb Fin;go_wp2;go_ret;exact⟨by rw[Fin2.out];rfl,Grw.refl _⟩
theorem Grw.size{W w:World}(h:Grw W w):W.heap.size≤w.heap.size:=by obtain⟨q,os,rfl⟩:=h;simp[grow]
theorem Grw.heap{W w:World}(h:Grw W w){b:Nat}(hb:b<W.heap.size):w.heap[b]?=W.heap[b]?:=by
 obtain⟨q,os,rfl⟩:=h;show (W.heap++os)[b]?=W.heap[b]?;rw[Array.getElem?_append_left hb]
theorem Grw.cell{W w:World}(h:Grw W w){p:Addr}(hb:p.block<W.heap.size):w.cell? p=W.cell? p:=by
 unfold World.cell?;rw[h.heap hb]
theorem Grw.blk{W w:World}(h:Grw W w){g:Nat}{t:TypeId}{cs:Array Value}(hB:Blk W g t cs):Blk w g t cs:=by
 have:=h.heap hB.lt;unfold Blk at *;rw[this];exact hB
theorem oz{P:Program}{W w:World}{f:FuncId}{args:Array Value}{c:Value}(hC:Grw W w)(h:Calls P f args w fun e w'=>e=.returned c∧Grw w w') :
  Calls P f args w fun e w'=>∃v,e=.returned v∧Grw w w'∧Grw W w'∧∃x:Unit,v=(fun _=>c) x∧True:=
 h.mono fun e w' h=>⟨c,h.1,h.2,hC.trans h.2,(),rfl,trivial⟩
structure El where
 d:Dc
 F:Option Addr
 n:Nat
 c:Nat
instance:Inhabited El:=⟨⟨⟨0,0,[]⟩,none,0,0⟩⟩
def eT(x:El):List Value:=[.int .i64 x.d.seq,.int .i64 x.d.at_,.slice x.F x.n x.c]
def cfD(x y:Dc):Int:=cOr (Lib.compareInt x.at_ y.at_) (Lib.compareInt x.seq y.seq)
def cfE(x y:El):Int:=cfD x.d y.d
def ltD(x y:Dc):Prop:=x.at_<y.at_∨(x.at_=y.at_∧x.seq<y.seq)
instance (x y:Dc):Decidable (ltD x y):=by unfold ltD;infer_instance
theorem nB(x y:Dc):cfD x y<0↔ltD x y:=by
 unfold cfD cOr ltD Lib.compareInt;by_cases h1:x.at_<y.at_
 ·simp[h1]
 by_cases h2:y.at_<x.at_
 ·have:x.at_≠y.at_:=jo;simp[h1,h2,this]
 have e:x.at_=y.at_:=jo;by_cases h3:x.seq<y.seq
 ·simp[e,h3]
 by_cases h4:y.seq<x.seq
 ·simp[e,h3,h4]
 simp[e,h3,h4]
theorem qj(x y:El):ltOf cfE x y=decide (ltD x.d y.d):=by
 unfold ltOf cfE;by_cases h:ltD x.d y.d
 ·rw[zO h];exact zO ((nB _ _).2 h)
 rw[zN h];exact zN (fun hh=>h ((nB _ _).1 hh))
theorem Ka:SWO (ltOf cfE) where
 irrefl x:=by rw[qj];exact zN (by unfold ltD;omega)
 trans x y z h1 h2:=by
  rw[qj]at *;have h1:=of_decide_eq_true h1;have h2:=of_decide_eq_true h2;exact zO (by unfold ltD at *;omega)
 ntrans x y z h1 h2:=by
  rw[qj]at *;have h1:=of_decide_eq_false h1;have h2:=of_decide_eq_false h2;exact zN (by unfold ltD at *;omega)
theorem De(x y:El)(w:World) :
  Calls prog 103 #[.agg (eT x).toArray,.agg (eT y).toArray] w fun e w'=>e=.returned (.int .i64 (cfE x y))∧Grw w w':=by
 obtain⟨⟨s,ta,fs⟩,F,n,c⟩:=x;obtain⟨⟨t,tb,gs⟩,G,m,d⟩:=y;simp only[eT,cfE,cfD];have hg:Grw w ((w.alloc (.cells #[.int .i64 s,.int .i64 ta,.slice F n c] 48)).alloc (.cells #[.int .i64 t,.int .i64 tb,.slice G m d] 48)):=((Grw.refl w).alloc _).alloc _;have hB1:=(Blk.new w 48 #[.int .i64 s,.int .i64 ta,.slice F n c]).alloc (.cells #[.int .i64 t,.int .i64 tb,.slice G m d] 48);have hB2:=Blk.new (w.alloc (.cells #[.int .i64 s,.int .i64 ta,.slice F n c] 48)) 48 #[.int .i64 t,.int .i64 tb,.slice G m d];have z1:(w.alloc (.cells #[.int .i64 s,.int .i64 ta,.slice F n c] 48)).heap.size=w.heap.size+1:=jz;rw[z1]at hB2
 have hcells:∀wx,Grw ((w.alloc (.cells #[.int .i64 s,.int .i64 ta,.slice F n c] 48)).alloc (.cells #[.int .i64 t,.int .i64 tb,.slice G m d] 48)) wx→wx.cell? ⟨w.heap.size,0,none⟩=some (.int .i64 s)∧wx.cell? ⟨w.heap.size,1,none⟩=some (.int .i64 ta)∧wx.cell? ⟨w.heap.size+1,0,none⟩=some (.int .i64 t)∧wx.cell? ⟨w.heap.size+1,1,none⟩=some (.int .i64 tb):=fun wx hC=>
  ⟨(hC.blk hB1).cell 0,(hC.blk hB1).cell 1,(hC.blk hB2).cell 0,(hC.blk hB2).cell 1⟩
 have Hcells:=zh hcells;have Hg:=zh hg;clear hg hB1 hB2 z1 hcells;go_enter func103,ntmps103
 go_upto_region 1 with(fail);generalize hw2:((w.alloc (.cells #[.int .i64 s,.int .i64 ta,.slice F n c] 48)).alloc (.cells #[.int .i64 t,.int .i64 tb,.slice G m d] 48))=w2 at *;clear hw2;refine cH (aI [(6,⟨Unit,fun _=>(.int .i64 (Lib.compareInt ta tb)),fun _ _=>True⟩),(11,⟨Unit,fun _=>(.int .i64 (Lib.compareInt s t)),fun _ _=>True⟩),(12,⟨Nat,fun x=>.slice (some ⟨x,0,none⟩) 2 2,fun g wx=>Blk wx g 3 #[.int .i64 (Lib.compareInt ta tb),.int .i64 (Lib.compareInt s t)]⟩),(13,⟨Unit,fun _=>(.int .i64 (cOr (Lib.compareInt ta tb) (Lib.compareInt s t))),fun _ _=>True⟩)]) (fun wx=>Grw w2 wx) Grw jk jk (aN (fun _ _ _ _ h=>h) (aN (fun _ _ _ _ h=>h) (aN (fun x w1 w2 hg h=>hg.blk h) (aN (fun _ _ _ _ h=>h) (aX))))) (Grw.refl _).drew ?_
 iterate 6
  refine aH _ ?_ rfl jr jr (fun wx hC hD=>?_) ?_;rotate_left
  ·have hSw:=Hcells.out wx hC;go_simp;all_goals with_reducible rfl
  try simp only[Act.put,zD,zE,zF]
 refine ae 7 _ rfl jr jr (fun wx hC hD=>?_) (fun x=>?_)
 ·refine aZ (f:=?_) (args:=?_) ?_ ?_;rotate_left 2
  ·have hSw:=Hcells.out wx hC;go_simp;all_goals first|with_reducible rfl|(refine⟨?_,?_⟩<;>with_reducible rfl)
  exact oz hC ((rW _ _ wx).mono (fun e w' h=>⟨h.1,h.2 ▸ Grw.refl _⟩))
 obtain⟨⟩:=x;try simp only[Act.put,zD,zE,zF]
 iterate 4
  refine aH _ ?_ rfl jr jr (fun wx hC hD=>?_) ?_;rotate_left
  ·have hSw:=Hcells.out wx hC;go_simp;all_goals with_reducible rfl
  try simp only[Act.put,zD,zE,zF]
 refine ae 12 _ rfl jr jr (fun wx hC hD=>?_) (fun x=>?_)
 ·refine aZ (f:=?_) (args:=?_) ?_ ?_;rotate_left 2
  ·have hSw:=Hcells.out wx hC;go_simp;all_goals first|with_reducible rfl|(refine⟨?_,?_⟩<;>with_reducible rfl)
  exact oz hC ((rW _ _ wx).mono (fun e w' h=>⟨h.1,h.2 ▸ Grw.refl _⟩))
 obtain⟨⟩:=x;try simp only[Act.put,zD,zE,zF]
 refine ae 13 _ rfl jr jr (fun wx hC hD=>?_) (fun x=>?_)
 ·refine fQ (u:=?_) (w':=?_) ?_ ?_ ?_;rotate_left 2
  ·have hSw:=Hcells.out wx hC;go_simp;all_goals first|with_reducible rfl|(refine⟨?_,?_⟩<;>with_reducible rfl)
  ·exact(Grw.refl _).alloc _
  exact⟨hC.alloc _,wx.heap.size,rfl,Blk.new _ _ _⟩
 rename Nat=>x9
 try simp only[Act.put,zD,zE,zF]
 refine ae 14 _ rfl jr jr (fun wx hC hD=>?_) (fun x=>?_)
 ·refine aZ (f:=?_) (args:=?_) ?_ ?_;rotate_left 2
  ·have hSw:=Hcells.out wx hC;go_simp;all_goals first|with_reducible rfl|(refine⟨?_,?_⟩<;>with_reducible rfl)
  have hbk:=bf (fC hD 12 jk) jd;exact oz hC (Je _ _ _ _ wx ⟨jz,fun _=>⟨_,_,rfl,hbk.lt,fun j u hj=>by rw[zf,hbk.cell j];simpa using hj⟩⟩)
 obtain⟨⟩:=x;try simp only[Act.put,zD,zE,zF]
 refine aH 15 ?_ rfl jr jr (fun wx hC hD=>?_) ?_;rotate_left
 ·have hSw:=Hcells.out wx hC;go_simp;all_goals with_reducible rfl
 try simp only[Act.put,zD,zE,zF]
 refine ah (fun w9 hC hF=>?_);have hgf:=Hg.out.trans hC;clear hF hC;go_wp2;go_ret;exact⟨rfl,hgf⟩
theorem FL(blk off size:Nat)(w:World):CmpLays prog 103 #[] eT 3 cfE blk off size w:=fun m os dk hs x y=>De x y _
theorem Bn{l:List El}{d':Array El}(h:PermIn 0 l.length l.toArray d'):d'.toList.Perm l:=by
 obtain⟨h1,_,h3⟩:=h;have hs:d'.size=l.length:=by simpa using h1
 have e1:d'.extract 0 l.length=d':=by rw[←hs];simp
 have e2:l.toArray.extract 0 l.length=l.toArray:=by
  have:l.length=l.toArray.size:=jz;rw[this,Array.extract_size]
 rw[e1,e2]at h3;exact h3
theorem Bo{l:List El}{d':Array El}(hP:PermIn 0 l.length l.toArray d')(hs:Srt cfE (fun x=>x.d.seq.toNat) d' 0 l.length)(h0:∀x∈l,0≤x.d.seq)(hn:l.Pairwise (fun x y=>x.d.seq<y.d.seq)) :
  d'.toList.Perm l∧d'.toList.Pairwise (fun x y=>ltD x.d y.d):=by
 have hp:=Bn hP;refine⟨hp,?_⟩;have hz:d'.size=l.length:=by have:=hP.1;simpa using this
 have hne:d'.toList.Pairwise (fun x y=>x.d.seq≠y.d.seq):=(hp.pairwise_iff (fun h=>Ne.symm h)).2 (hn.imp (fun h=>jo));rw[List.pairwise_iff_getElem]at hne ⊢;intro i j hi hj hij;have h1:i<d'.size:=by simpa using hi
 have h2:j<d'.size:=by simpa using hj
 have h3:=hs i j (zS _) hij jo;rw[getElem!_pos d' i h1,getElem!_pos d' j h2]at h3;have h4:=hne i j hi hj hij;simp only[Array.getElem_toList]at h4 ⊢;have h5:=h0 d'[i] (hp.mem_iff.1 jz);have h6:=h0 d'[j] (hp.mem_iff.1 jz);rcases h3 with h|⟨h,h'⟩
 ·exact(nB _ _).1 h
 have hh:¬ltD d'[j].d d'[i].d:=fun hl=>h ((nB _ _).2 hl)
 unfold ltD at hh ⊢;omega
theorem Df(base g cap:Nat)(l:List El)(cur:Array Value)(w:World)(hb:w.heap[g]?=some (.cells cur 48 (0,0)))(ht:cur.toList.take (l.length*3)=l.flatMap eT)(hl:l.length≤1048576)
  (hg:base≤g) (h1:l.length≤cap) (h2:cap≤maxLen) (h3:cur.size=cap*3) (h0:∀x∈l,0≤x.d.seq) (hp:l.Pairwise (fun x y=>x.d.seq<y.d.seq)) :
  Calls prog 102 #[.slice (some ⟨g,0,none⟩) l.length cap,.func (.func 103) #[] #[]] w fun e w'=>
   e=.returned (.tuple #[])∧∃m:List El,m.Perm l∧m.Pairwise (fun x y=>ltD x.d y.d)∧w'.ownsRow base 48 3 (.slice (some ⟨g,0,none⟩) l.length cap) l.length (m.flatMap eT)∧w.grownBy w' (some g):=by
 have hH:=Jc (enc:=eT) (k:=3) (fun _=>rfl) jd hb ht;have hsz:l.toArray.size=l.length:=jz;have hgl:g<w.heap.size:=(Array.getElem?_eq_some_iff.1 hb).1
 have c:=AJ (enc:=eT) (cf:=cfE) (tag:=fun x=>x.d.seq.toNat) Ka 3 rfl 103 #[] g 0 cap l.toArray w (enters_of func103 jk rfl) (FL g 0 _ w)
  ⟨fun _=>rfl,fun x v hv=>by simp[eT]at hv;rcases hv with rfl|rfl|rfl<;>rfl,hH,hgl⟩ (SWK.start hH) (by rw[hsz];omega) (fun x y hxy hy=>by
   rw[hsz]at hy;rw[getElem!_pos _ x jm,getElem!_pos _ y jm];have q1:=List.pairwise_iff_getElem.1 hp x y jo hy hxy;have q2:=h0 _ (za (by omega:x<l.length));simp only[List.getElem_toArray]
   omega)
 rw[hsz]at c;refine c.mono ?_;rintro e w' ⟨rfl,d',⟨n,os,rfl⟩,hd,hP,hS⟩;obtain⟨q1,q2⟩:=Bo hP hS h0 hp;have hm:d'.toList.length=l.length:=q1.length_eq;have ho:=KZ (enc:=eT) (k:=3) (fun _=>rfl) jd (base:=base) (n:=n) (os:=os) (l:=l) (m:=d'.toList) hm hg hb h1 h2 h3;rw[hm]at ho;exact⟨rfl,d'.toList,q1,q2,by simpa using ho,Jd _⟩
theorem AO(w:World)(fv:Value):Calls prog 153 #[.slice none 0 0,.int .i64 0,.int .i64 0,fv] w fun e w'=>e=.returned (.tuple #[])∧w=w':=by
 go_enter func153,ntmps153;go_wp2
 go_loop [8] (fun i=>i=.int .i64 1) (fun _=>0)
 case atStart=>rfl
 subst hrel;go_wp2
 go_end0
 exact⟨rfl,rfl⟩
theorem Bp(w:World)(fv:Value):Calls prog 129 #[.slice none 0 0,.int .i64 0,fv] w fun e w'=>e=.returned (.tuple #[])∧w=w':=by
 go_enter func129,ntmps129;go_wp2
 go_loop [7,8] (fun a b=>a=.int .i64 0∧b=.int .i64 20) (fun _ _=>0)
 case atStart=>exact⟨rfl,rfl⟩
 obtain⟨rfl,rfl⟩:=hrel;go_wp2_with fail;refine(AO _ _).mono ?_;rintro e w' ⟨rfl,rfl⟩;go_wp2
 go_loop [6] (fun b=>b=.int .i64 20) (fun _=>0)
 case atStart=>rfl
 subst hrel;go_wp2
 go_end0
 exact⟨rfl,rfl⟩
theorem Dg(w:World)(fv:Value):Calls prog 102 #[.slice none 0 0,fv] w fun e w'=>e=.returned (.tuple #[])∧w=w':=by
 go_enter func102,ntmps102;go_wp2_with fail;refine(Bp _ _).mono ?_;rintro e w' ⟨rfl,rfl⟩;go_wp2
 go_end0
 exact⟨rfl,rfl⟩
end Md

namespace Cr
open Go.RowKit
def bv(L:List UInt8):List Value:=L.map fun c=>.int .u8 (c.toNat:Int)
theorem dH(L:List UInt8):(bv L).length=L.length:=by unfold bv;rw[List.length_map]
theorem qo(L M:List UInt8):bv (L++M)=bv L++bv M:=by unfold bv;rw[List.map_append]
theorem TabAt.get{w wr:World}{g k:Nat}(h:TabAt w wr g k){j:Nat}(hj:j<k):wr.cell? ⟨g,j,none⟩=some (.int .u32 (tab j:Nat)):=by
 obtain⟨hb,rfl,cs,hB,hz,hc⟩:=h;rw[hB.cell];exact hc j hj
theorem mN(x:Nat)(h:x<2 ^ 32):bits .xor .u32 IntKind.u32.max (x:Int)=((cZ x:Nat):Int):=by
 have:=kz 4294967295 x jo h;rw[show IntKind.u32.max=((4294967295:Nat):Int) by rfl,this,Nat.xor_comm];rfl
theorem lC(s:Nat)(A:Option Addr)(n c:Nat)(L:List UInt8)(w:World)(hs:s<2 ^ 32)(hR:Reads w w.heap.size 1 A n (bv L))(hn:n≤140737488351232) :
  Calls prog 135 #[.int .u32 (s:Int),.slice A n c] w fun e w'=>e=.returned (.int .u32 (cZ (run (cZ s) L):Nat))∧zWW w w':=by
 have hln:L.length=n:=by have:=hR.1;rw[dH]at this;omega
 have Hln:=zh hln;have HR:=zh hR;have hs0:(0:Int)≤(s:Int):=jo;have hs1:(s:Int)≤4294967295:=jo;have hns:=qL hs;have hnb:=mN s hs;have hsg:IntKind.u32.signed=false:=rfl;have hr0:=nD hns ([]:List UInt8);clear hR hln;have c1:=Dz w;go_enter func135,ntmps135;go_wp2_with fail;refine c1.mono ?_;rintro e w1 ⟨g,rfl,hT⟩;have hb:=hT.bel;have hg:g=w.heap.size:=hT.ge;have HR1:=zh (HR.out.below hb);have HT:=zh hT;have Hb:=zh hb;clear c1 hT hb HR hg;go_wp2_with fail;clear hnb
 go_loop [6,14] (fun x i=>∃k:Nat,k≤n∧i=.int .i64 k∧x=.int .u32 (run (cZ s) (L.take k):Nat)) (fun _ i=>n-(intOf i).toNat)
 case atStart=>exact⟨0,zS _,rfl,rfl⟩
 obtain⟨k,hk,rfl,rfl⟩:=hrel;have hx:=nD hns (L.take k);by_cases hlt:k<n
 ·have hkl:k<L.length:=by rw[Hln.out];exact hlt
  obtain⟨b,o,hl,rfl,hbl,hcell⟩:=HR1.out.at_map hlt
  have hts:run (cZ s) (L.take (k+1))=on (run (cZ s) (L.take k)) L[k]:=by
   rw[zL hkl,wK]
  have Hts:=zh hts;clear hts;generalize run (cZ s) (L.take k)=x at *;generalize L[k]=q at *;have hq:=q.toNat_lt
  have hI:bits .xor .u8 ((x:Int)%256) (q.toNat:Int)=(((x%256) ^^^ q.toNat:Nat):Int):=by
   have:=u8_xor_nat (x%256) q.toNat jo hq;rw[←this];rfl
  have hy:(x%256) ^^^ q.toNat<256:=Nat.xor_lt_two_pow (n:=8) jo jo;have Ho:=zh (Fe x q);generalize (x%256) ^^^ q.toNat=y at *;have hg:=HT.out.get hy;have hty:=yD (x:=y) jo
  have hdv:bits .xor .u32 (tab y:Int) ((x:Int)/256)=((on x q:Nat):Int):=by
   rw[show (x:Int)/256=((x/256:Nat):Int) by omega,kz _ _ hty jo,Ho.out]
  generalize tab y=ty at *;have hx0:(0:Int)≤(x:Int):=jo;have hx1:(x:Int)≤4294967295:=jo;have hyi:(y:Int)<256:=jo;go_wp2
  go_round
  case rel=>exact⟨k+1,jo,ju,by rw[Hts.out]⟩
  simp[intOf];omega
 obtain rfl:k=n:=jo;have Fin:Hid (L.take k=L):=zh (zR (by rw[Hln.out];exact zG _));have hnb:=mN _ hx;rw[Fin.out]at hx hnb ⊢;generalize hxx:run (cZ s) L=x at *;have Hx:=zh hxx;clear hxx;go_wp2;go_ret;rw[Hx.out];exact⟨rfl,Hb.out⟩
theorem uU:cZ 0=4294967295:=by decide
theorem IX(p:Nat)(A:Option Addr)(n c c1:Nat)(L:List UInt8)(w:World)(hp:w.cell? ⟨p,0,none⟩=some (.slice A n c))(hpl:p<w.heap.size)(hR:Reads w w.heap.size 1 A n (bv L))(hn:n≤140737488351232) :
  Calls prog 109 #[.slice (some ⟨p,0,none⟩) 1 c1] w fun e w'=>e=.returned (.int .u32 (crc L:Nat))∧zWW w w':=by
 have c1:=lC 0 A n c L w jo hR hn;rw[uU]at c1;have hcr:crc L=cZ (run 4294967295 L):=rfl;rw[←hcr]at c1;generalize crc L=r at *;clear hcr hR;go_enter func109,ntmps109;go_wp2_with fail;go_loopw [3,8] (fun x i wr=>(i=.int .i64 0∧x=.int .u32 0∧wr=w)∨(i=.int .i64 1∧x=.int .u32 (r:Int)∧zWW w wr)) (fun _ i _=>1-(intOf i).toNat)
 case atStart=>exact .inl ⟨rfl,rfl,rfl⟩
 rcases hrel with⟨rfl,rfl,rfl⟩|⟨rfl,rfl,hb⟩
 ·go_wp2_with fail;refine c1.mono ?_;rintro e w2 ⟨rfl,hb⟩;have Hb:=zh hb;clear hb c1;go_wp2;go_roundw
  case rel=>exact .inr ⟨rfl,rfl,Hb.out⟩
  simp[intOf]
 have Hb:=zh hb;clear hb;go_wp2;go_ret;exact⟨rfl,Hb.out⟩
end Cr

namespace Cr
open Go.RowKit
theorem Jp(s:Nat)(q:UInt8)(w:World)(hs:s<2 ^ 32):Calls prog 174 #[.int .u32 (s:Int),.int .u8 (q.toNat:Int)] w fun e w'=>e=.returned (.int .u32 (on s q:Nat))∧w=w':=by
 have hq:=q.toNat_lt;have hxb:=kz s q.toNat hs jo;have hz:s ^^^ q.toNat<2 ^ 32:=Nat.xor_lt_two_pow hs jo;have Ho:Hid (on s q=ons 8 (s ^^^ q.toNat)):=zh rfl;generalize on s q=r at *;generalize s ^^^ q.toNat=z at *;have hs0:(0:Int)≤(s:Int):=jo;have hs1:(s:Int)≤4294967295:=jo;have hq1:(q.toNat:Int)<256:=jo;go_enter func174,ntmps174;go_wp2_with fail;clear hxb
 go_loop [0,5] (fun x n=>∃m:Nat,m≤8∧n=.int .i64 m∧x=.int .u32 (ons m z:Nat)) (fun _ n=>8-(intOf n).toNat)
 case atStart=>exact⟨0,jo,rfl,rfl⟩
 obtain⟨m,hm,rfl,rfl⟩:=hrel;have hx:=yF m hz;have Hs:Hid (ons (m+1) z=on1 (ons m z)):=zh rfl;have H8:Hid (m=8→ons m z=r):=zh (fun e=>by rw[e,Ho.out]);generalize ons m z=x at *;have hx0:(0:Int)≤(x:Int):=jo;have hx1:(x:Int)≤4294967295:=jo;by_cases hm8:m<8
 ·have hmi:(m:Int)<8:=jo;rcases Nat.mod_two_eq_zero_or_one x with h2|h2
  ·have hb:(x:Int)%2=0:=jo;have Fin:Hid (on1 x=x/2):=zh (by unfold on1;rw[zH jo]);clear h2;go_wp2
   go_round
   case rel=>exact⟨m+1,jo,ju,by rw[Hs.out,Fin.out,nY]⟩
   simp[intOf];omega
  have hb:(x:Int)%2=1:=jo
  have hxb:bits .xor .u32 ((x:Int)/2) 3988292384=((on1 x:Nat):Int):=by
   rw[←nY,show (3988292384:Int)=((3988292384:Nat):Int)from rfl,kz _ _ jo jo];unfold on1;rw[zI h2]
  clear h2;go_wp2
  go_round
  case rel=>exact⟨m+1,jo,ju,by rw[Hs.out]⟩
  simp[intOf];omega
 obtain rfl:m=8:=jo;have e8:=H8.out rfl;have H9:=zh e8;clear e8;go_wp2;go_ret;rw[H9.out];exact⟨rfl,rfl⟩
theorem D9(s:Nat)(A:Option Addr)(n c:Nat)(L:List UInt8)(w:World)(hs:s<2 ^ 32)(hR:Reads w w.heap.size 1 A n (bv L))(hn:n≤140737488351232) :
  Calls prog 148 #[.int .u32 (s:Int),.slice A n c] w fun e w'=>e=.returned (.int .u32 (cZ (run (cZ s) L):Nat))∧w=w':=by
 have hln:L.length=n:=by have:=hR.1;rw[dH]at this;omega
 have Hln:=zh hln;have HR:=zh hR;have hs0:(0:Int)≤(s:Int):=jo;have hs1:(s:Int)≤4294967295:=jo;have hns:=qL hs;have hnb:=mN s hs;have hsg:IntKind.u32.signed=false:=rfl;clear hR hln;go_enter func148,ntmps148;go_wp2_with fail;clear hnb
 go_loop [0,5] (fun x i=>∃k:Nat,k≤n∧i=.int .i64 k∧x=.int .u32 (run (cZ s) (L.take k):Nat)) (fun _ i=>n-(intOf i).toNat)
 case atStart=>exact⟨0,zS _,rfl,rfl⟩
 obtain⟨k,hk,rfl,rfl⟩:=hrel;have hx:=nD hns (L.take k);by_cases hlt:k<n
 ·have hkl:k<L.length:=by rw[Hln.out];exact hlt
  obtain⟨b,o,hl,rfl,hbl,hcell⟩:=HR.out.at_map hlt
  have hts:run (cZ s) (L.take (k+1))=on (run (cZ s) (L.take k)) L[k]:=by
   rw[zL hkl,wK]
  have Hts:=zh hts;clear hts;generalize run (cZ s) (L.take k)=x at *;generalize L[k]=q at *;have c1:=Jp x q w hx;go_wp2_with fail;refine c1.mono ?_;rintro e w' ⟨rfl,rfl⟩;clear c1;go_wp2
  go_round
  case rel=>exact⟨k+1,jo,ju,by rw[Hts.out]⟩
  simp[intOf];omega
 obtain rfl:k=n:=jo;have Fin:Hid (L.take k=L):=zh (zR (by rw[Hln.out];exact zG _));have hnb:=mN _ hx;rw[Fin.out]at hx hnb ⊢;generalize hxx:run (cZ s) L=x at *;have Hx:=zh hxx;clear hxx;go_wp2;go_ret;rw[Hx.out];exact⟨rfl,rfl⟩
theorem ij(A:Option Addr)(n c:Nat)(L:List UInt8)(w:World)(hR:Reads w w.heap.size 1 A n (bv L))(hn:n≤140737488351232) :
  Calls prog 122 #[.slice A n c] w fun e w'=>e=.returned (.int .u32 (crc L:Nat))∧w=w':=by
 have c1:=D9 0 A n c L w jo hR hn;rw[uU]at c1;have hcr:crc L=cZ (run 4294967295 L):=rfl;rw[←hcr]at c1;generalize crc L=r at *;clear hcr hR;go_enter func122,ntmps122;go_wp2_with fail;refine c1.mono ?_;rintro e w' ⟨rfl,rfl⟩;clear c1;go_wp2;go_ret;exact⟨rfl,rfl⟩
end Cr

namespace Mx
open Go.RowKit Ut Tk Qy Ev Qp
abbrev Bt:=Int × List Evn
def BtV(w:World)(B:Nat)(b:Bt)(v:List Value):Prop:=∃A n c,v=[.int .i64 b.1,.slice A n c]∧EvsAt w B A n c b.2
theorem BtV.len{w:World}{B:Nat}{b:Bt}{v:List Value}(h:BtV w B b v):v.length=2:=by obtain⟨A,n,c,rfl,_⟩:=h;rfl
theorem BtV.keep{w w':World}{B:Nat}{b:Bt}{v:List Value}(h:BtV w B b v)(hk:∀b o,b<B→w'.cell? ⟨b,o,none⟩=w.cell? ⟨b,o,none⟩):BtV w' B b v:=by
 obtain⟨A,n,c,e,g⟩:=h;exact⟨A,n,c,e,g.keep hk⟩
theorem BtV.more{w:World}{B B':Nat}{b:Bt}{v:List Value}(h:BtV w B b v)(hB:B≤B'):BtV w B' b v:=by
 obtain⟨A,n,c,e,g⟩:=h;exact⟨A,n,c,e,g.more hB⟩
structure BtsAt (w:World) (R:Nat→Prop) (B:Nat) (A:Option Addr) (n c:Nat) (l:List Bt):Prop where
 ln:l.length=n
 cap:n≤c
 ex:∃vss:List (List Value),vss.length=n∧ReadsS w R 2 A n vss.flatten∧∀i (h:i<l.length) (h':i<vss.length),BtV w B l[i] vss[i]
theorem BtsAt.keep{w w':World}{R:Nat→Prop}{B n c:Nat}{A:Option Addr}{l:List Bt}(h:BtsAt w R B A n c l)(hr:∀b o,R b→w'.cell? ⟨b,o,none⟩=w.cell? ⟨b,o,none⟩)(hk:∀b o,b<B→w'.cell? ⟨b,o,none⟩=w.cell? ⟨b,o,none⟩):BtsAt w' R B A n c l:=by
 obtain⟨vss,h1,h2,h3⟩:=h.ex;exact⟨h.ln,h.cap,vss,h1,h2.keep hr,fun i a b=>(h3 i a b).keep hk⟩
theorem BtsAt.at_{w:World}{R:Nat→Prop}{B n c:Nat}{A:Option Addr}{l:List Bt}(h:BtsAt w R B A n c l){i:Nat}(hi:i<l.length) :
  ∃b o E m k,A=some ⟨b,o,none⟩∧R b∧w.cell? ⟨b,o+i*2,none⟩=some (.int .i64 l[i].1)∧w.cell? ⟨b,o+i*2+1,none⟩=some (.slice E m k)∧EvsAt w B E m k l[i].2:=by
 obtain⟨vss,h1,h2,h3⟩:=h.ex;have hl:=h.ln;have hi':i<vss.length:=jo
 have h4:∀v∈vss,v.length=2:=fun v hv=>by
  obtain⟨j,hj,rfl⟩:=zp.1 hv;exact(h3 j jo hj).len
 obtain⟨E,m,k,e,g⟩:=h3 i hi hi';obtain⟨b,o,eA,hb,hc⟩:=h2.2 jo;have f0:=cQ h4 i 0 hi' jo;have f1:=cQ h4 i 1 hi' jo;rw[e]at f0 f1;have c0:=hc _ _ f0;have c1:=hc _ _ f1;rw[←Nat.add_assoc]at c1;exact⟨b,o,E,m,k,eA,hb,c0,c1,g⟩
structure BOwn (w:World) (base B:Nat) (v:Value) (l:List Bt):Prop where
 ex:∃vss:List (List Value),vss.length=l.length∧w.ownsRow base 111 2 v l.length vss.flatten∧∀i (h:i<l.length) (h':i<vss.length),BtV w B l[i] vss[i]
theorem BOwn.start(w:World)(base B:Nat):BOwn w base B (.slice none 0 0) []:=⟨[],rfl,vM _ _ _ _,fun i h=>absurd h (by simp)⟩
theorem BOwn.below{w w':World}{base B:Nat}{v:Value}{l:List Bt}(h:BOwn w base B v l)(hb:zWW w w')(hB:B≤w.heap.size):BOwn w' base B v l:=by
 obtain⟨vss,h1,h2,h3⟩:=h.ex;exact⟨vss,h1,h2.kept (aJ hb none) (by cases hv:v.ownBlock<;>simp),fun i a b=>(h3 i a b).keep (fun b o hlt=>hb.cell (zT hlt hB))⟩
theorem BOwn.put{w w5:World}{base B:Nat}{v v':Value}{l:List Bt}{d:Bt}{u:List Value}{xs:List Value}(hx:∃vss:List (List Value),vss.length=l.length∧w.ownsRow base 111 2 v l.length vss.flatten∧(∀i (h:i<l.length) (h':i<vss.length),BtV w B l[i] vss[i])∧xs=vss.flatten)
  (hp:w5.ownsRow base 111 2 v' (l.length+1) (xs++u)) (hg:w.grownBy w5 v.ownBlock) (hd:BtV w B d u) (hB:B≤base) (hw:B≤w.heap.size):BOwn w5 base B v' (l ++ [d]):=by
 obtain⟨vss,h1,h2,h3,rfl⟩:=hx;have keep:∀b o,b<B→w5.cell? ⟨b,o,none⟩=w.cell? ⟨b,o,none⟩:=fun b o hlt=>uK (hg.block b (zT hlt hw) (fun e=>by have:=(h2.lt b e.symm).1;omega)) o
 refine⟨vss ++ [u],by simp[h1],?_,fun i a b=>?_⟩
 ·rw[List.flatten_append,zJ]
  simpa using hp
 by_cases hi:i<l.length
 ·rw[zi hi,zi jo];exact(h3 i hi jo).keep keep
 have hi':i=l.length:=by simp at a;omega
 subst hi';rw[zl jo,zl jo];simp only[Nat.sub_self,h1,List.getElem_cons_zero];exact hd.keep keep
theorem BOwn.read{w:World}{base B:Nat}{v:Value}{l:List Bt}(h:BOwn w base B v l):∃A c,v=.slice A l.length c∧BtsAt w (fun b=>base≤b∧b<w.heap.size) B A l.length c l:=by
 obtain⟨vss,h1,h2,h3⟩:=h.ex;obtain⟨A,c,rfl,_,hc,hn,_⟩:=Ev.aP h2;exact⟨A,c,rfl,⟨rfl,hc,vss,h1,(ReadsS.of_own h2).mono (fun b hb=>⟨hb.1,hb.2.1⟩),fun i a b=>h3 i a b⟩⟩
end Mx
end Go.Proofs.YtmomjpolkkbhnaaGreat
