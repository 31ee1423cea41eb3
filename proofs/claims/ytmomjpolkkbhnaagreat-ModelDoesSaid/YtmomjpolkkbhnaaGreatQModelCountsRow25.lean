/- loggiaref17: colon, words, leaf: the walks (printed by gen_qpr.py). -/
import Derived.Test.YtmomjpolkkbhnaaGreatQModelCountsRow23
import Derived.Test.YtmomjpolkkbhnaaGreatQModelCountsRow11
set_option linter.unusedSimpArgs false
set_option maxRecDepth 20000
set_option maxHeartbeats 100000000
open Go.Proofs.Tryz
namespace Go.Proofs.YtmomjpolkkbhnaaGreat
namespace Qp
open Go.RowKit Ut Tk Qy
def gV(s:P):Int:=if dM s then(az s:Nat)else -1
theorem D5(s:ByteArray)(w:World)(hs:s.size≤1048576):Calls prog 167 #[.string s] w fun e w'=>e=.returned (.int .i64 (gV s.data.toList))∧w=w':=by
 have Hend:=zh (kY (fun c=>c==58 || c==34) s.data.toList);have Hnm:Hid (dM s.data.toList=(s.data.toList[az s.data.toList]? == some 58)):=rfl;have Hcv:Hid (gV s.data.toList=if dM s.data.toList then((az s.data.toList:Nat):Int)else -1):=rfl;go_enter func167,ntmps167;go_wp2_with fail;go_loopw [3] (fun i wr=>∃k:Nat,k≤s.size∧i=.int .i64 (k:Int)∧w=wr∧Hid (∀x∈s.data.toList.take k,(x==58 || x==34)=false)) (fun i _=>s.size-(intOf i).toNat)
 case atStart=>exact⟨0,zS _,rfl,rfl,zh (fun x hx=>by simp at hx)⟩
 obtain⟨k,hk,rfl,rfl,hal⟩:=hrel;have hk0:(0:Int)≤(k:Int):=jo;by_cases hlt:k<s.size
 ·have hts:=iU s k hlt;have g1:=fV s k hlt;have u0:=bU s[k] 58;have u1:=bU s[k] 34;simp only[show (UInt8.toNat 34:Int)=34 from rfl,show (UInt8.toNat 58:Int)=58 from rfl]at u0 u1
  have Hk:Hid ((s[k]=58∨s[k]=34)→az s.data.toList=k):=zh (fun h=>Hend.out k hal.out (by rw[aB];omega) (fun _=>by
   show (s[k]==58 || s[k]==34)=true
   rcases h with h|h<;>simp[h]))
  by_cases q1:s[k]=34
  ·have t1:((s[k].toNat:Int) != 34)=false:=by rw[bne_eq_false_iff_eq];rw[q1];rfl
   have Fin:Hid (gV s.data.toList=-1):=zh (by rw[Hcv.out,Hnm.out,Hk.out (.inr q1),g1,q1];rfl);clear hts g1 u0 u1 Hk q1 hal Hend Hnm Hcv;go_wp2_with fail;go_ret;exact⟨by rw[Fin.out];rfl,rfl⟩
  have t1:((s[k].toNat:Int) != 34)=true:=by
   have:((s[k].toNat:Int)==34)=false:=by rw[u1];exact zM.2 q1
   simp[bne,this]
  by_cases q2:s[k]=58
  ·have t2:((s[k].toNat:Int)==58)=true:=by rw[u0];exact beq_iff_eq.2 q2
   have Fin:Hid (gV s.data.toList=(k:Int)):=zh (by rw[Hcv.out,Hnm.out,Hk.out (.inl q2),g1,q2];rfl);clear hts g1 u0 u1 Hk q1 q2 hal Hend Hnm Hcv;go_wp2_with fail;go_ret;exact⟨by rw[Fin.out];rfl,rfl⟩
  have t2:((s[k].toNat:Int)==58)=false:=by rw[u0];exact zM.2 q2
  have Hnx:Hid (∀x∈s.data.toList.take (k+1),(x==58 || x==34)=false):=zh (fun x hx=>by
   rw[hts,List.mem_append]at hx;rcases hx with hx|hx
   ·exact hal.out x hx
   rw[List.mem_singleton]at hx;rw[hx];simp[q1,q2])
  clear hts g1 u0 u1 Hk q1 q2 hal Hend Hnm Hcv;go_wp2_with fail;go_roundw
  case rel=>exact⟨k+1,jo,ju,by first|rfl|trivial,Hnx⟩
  simp[intOf];omega
 have Fin:Hid (gV s.data.toList=-1):=zh (by
  have e:az s.data.toList=k:=Hend.out k hal.out (by rw[aB];omega) (fun h=>absurd h (by rw[aB];omega))
  rw[Hcv.out,Hnm.out,e,List.getElem?_eq_none (by rw[aB];omega)];rfl)
 clear hal Hend Hnm Hcv;go_wp2_with fail;go_ret;exact⟨by rw[Fin.out];rfl,rfl⟩
def rI(vs:List Value):Prop:=∃(k:Int) (nm:ByteArray) (A:Option Addr) (n c:Nat) (C:Option Addr) (m d:Nat),vs=[.int .i64 k,.string nm,.slice A n c,.slice C m d]
def yI(base:Nat)(w:World)(o:Option Q)(e:Ending)(w':World):Prop:=
 ∃a0 a1 a2 a3,e=.returned (.tuple #[.agg #[a0,a1,a2,a3],.bool o.isSome])∧rI [a0,a1,a2,a3]∧(∀q,o=some q→QF w' (fun b=>base≤b∧b<w'.heap.size) q [a0,a1,a2,a3])∧zWW w w'
theorem cu{fn:Func}{p1 p2:Tmp}(hf:fn.results=#[.cell p1 60,.tmp p2]){tmps:Array Value}{W:World}{b1:Nat}{a0 a1 a2 a3 v:Value}(h1:tmps.getD p1 undef=.pointer (some ⟨b1,0,none⟩))(h2:tmps.getD p2 undef=v)(B1:Blk W b1 60 #[a0,a1,a2,a3]) :
  (results fn tmps).run prog W=.ok (.tuple #[.agg #[a0,a1,a2,a3],v]) W:=by
 have l1:=zr (P:=prog) W b1 60 60 #[a0,a1,a2,a3] (0,0) _ B1 underlying60 rfl jk;have h1':tmps[p1]?.getD undef=.pointer (some ⟨b1,0,none⟩):=by simpa using h1
 have h2':tmps[p2]?.getD undef=v:=by simpa using h2
 simp[results,hf,h1',h2',asAddr,l1]
theorem wO(base:Nat)(nm:ByteArray)(l:List P)(A:Option Addr)(c:Nat)(w:World)(hR:ReadsS w (fun b=>base≤b∧b<w.heap.size) 1 A l.length (sv l)) :
  Calls prog 169 #[.string nm,.slice A l.length c] w (yI base w (bN nm.data.toList l)):=by
 have Hnm:=zh (fE nm);by_cases h0:l=[]
 ·have Fin:Hid (bN nm.data.toList l=none):=zh (by unfold bN;rw[zI h0]);have hB:=Blk.new w 60 #[.int .i64 0,.string ⟨#[]⟩,.slice none 0 0,.slice none 0 0];have hbl:=zh ((zw w.heap.size w).alloc (zG _) (.cells #[.int .i64 0,.string ⟨#[]⟩,.slice none 0 0,.slice none 0 0] 60));clear hR;subst h0;go_enter func169,ntmps169;go_wp2_with fail;refine zu (cu rfl rfl rfl hB) rfl ?_;rw[Fin.out];exact⟨_,_,_,_,rfl,⟨_,_,_,_,_,_,_,_,rfl⟩,(fun q h=>by cases h),hbl.out⟩
 have hl0:l.length≠0:=fun e=>h0 (List.length_eq_zero_iff.1 e)
 have z0:((l.length:Int)==0)=false:=by rw[zM];omega
 by_cases h1:l.length=1
 ·have Fin:Hid (bN nm.data.toList l=some (.mk 2 nm (l.map str) [])):=zh (by unfold bN;rw[zH h0,zI h1,Hnm.out]);have z1:((l.length:Int)==1)=true:=by rw[h1];rfl
  have hB:=Blk.new w 60 #[.int .i64 2,.string nm,.slice A l.length c,.slice none 0 0];have hbl:=(zw w.heap.size w).alloc (zG _) (.cells #[.int .i64 2,.string nm,.slice A l.length c,.slice none 0 0] 60)
  have HF:Hid (QF (w.alloc (.cells #[.int .i64 2,.string nm,.slice A l.length c,.slice none 0 0] 60)) (fun b=>base≤b∧b<(w.alloc (.cells #[.int .i64 2,.string nm,.slice A l.length c,.slice none 0 0] 60)).heap.size) (.mk 2 nm (l.map str) []) [.int .i64 2,.string nm,.slice A l.length c,.slice none 0 0]):=zh
   (.mk [] (by rw[List.length_map]) ((hR.keep fun b o hS=>hbl.cell (p:=⟨b,o,none⟩) hS.2).mono fun b hS=>⟨hS.1,zT hS.2 hbl.size⟩) rfl rfl jz ReadsS.none_ (fun i hi=>absurd hi jz))
  have Hbl:=zh hbl;have HB:=zh hB;clear hR h0 hl0 hbl hB h1;generalize l.length=n at *;go_enter func169,ntmps169;go_wp2_with fail;refine zu (cu rfl rfl rfl HB.out) rfl ?_;rw[Fin.out];exact⟨_,_,_,_,rfl,⟨_,_,_,_,_,_,_,_,rfl⟩,(fun q h=>by injection h with h;subst h;exact HF.out),Hbl.out⟩
 have Fin:Hid (bN nm.data.toList l=some (.mk 4 nm (l.map str) [])):=zh (by unfold bN;rw[zH h0,zH h1,Hnm.out]);have z1:((l.length:Int)==1)=false:=by rw[zM];omega
 have hB:=Blk.new w 60 #[.int .i64 4,.string nm,.slice A l.length c,.slice none 0 0];have hbl:=(zw w.heap.size w).alloc (zG _) (.cells #[.int .i64 4,.string nm,.slice A l.length c,.slice none 0 0] 60)
 have HF:Hid (QF (w.alloc (.cells #[.int .i64 4,.string nm,.slice A l.length c,.slice none 0 0] 60)) (fun b=>base≤b∧b<(w.alloc (.cells #[.int .i64 4,.string nm,.slice A l.length c,.slice none 0 0] 60)).heap.size) (.mk 4 nm (l.map str) []) [.int .i64 4,.string nm,.slice A l.length c,.slice none 0 0]):=zh
  (.mk [] (by rw[List.length_map]) ((hR.keep fun b o hS=>hbl.cell (p:=⟨b,o,none⟩) hS.2).mono fun b hS=>⟨hS.1,zT hS.2 hbl.size⟩) rfl rfl jz ReadsS.none_ (fun i hi=>absurd hi jz))
 have Hbl:=zh hbl;have HB:=zh hB;clear hR h0 hl0 hbl hB h1;generalize l.length=n at *;go_enter func169,ntmps169;go_wp2_with fail;refine zu (cu rfl rfl rfl HB.out) rfl ?_;rw[Fin.out];exact⟨_,_,_,_,rfl,⟨_,_,_,_,_,_,_,_,rfl⟩,(fun q h=>by injection h with h;subst h;exact HF.out),Hbl.out⟩
end Qp

namespace Qp
open Go.RowKit Ut Tk Qy
theorem IY(s:P)(hp:Pc s)(hl:s.length≤1048576)(w:World):Calls prog 144 #[.string (str s)] w (yI w.heap.size w (aV s)):=by
 by_cases hst:s=[42]
 ·have Fin:Hid (aV s=some (.mk 1 ⟨#[]⟩ [] [])):=zh (by unfold aV;rw[zI hst];rfl);subst hst;have hh:=Blk.new w 60 #[.int .i64 1,.string ⟨#[]⟩,.slice none 0 0,.slice none 0 0];have Hbl:=zh ((zw w.heap.size w).alloc (zG _) (.cells #[.int .i64 1,.string ⟨#[]⟩,.slice none 0 0,.slice none 0 0] 60));have e0:(str [42]).toList=[42]:=by rw[tl,bE]
  clear hp hl;go_enter func144,ntmps144;go_wp2_with fail;refine zu (cu rfl rfl rfl hh) rfl ?_;rw[Fin.out];exact⟨_,_,_,_,rfl,⟨_,_,_,_,_,_,_,_,rfl⟩,(fun q h=>by injection h with h;subst h;exact .mk [] rfl (by simpa using ReadsS.none_) rfl rfl jz ReadsS.none_ (fun i hi=>absurd hi jz)),Hbl.out⟩
 have e0:((str s).toList == [42])=false:=by rw[xG];simpa using hst
 have hsz:(str s).size≤1048576:=by rw[←aB,bE];exact hl
 have hb0:=(zw w.heap.size w).alloc (zG _) (.cells #[.int .i64 0,.string ByteArray.empty,.slice none 0 0,.slice none 0 0] 60);have hB0:=Blk.new w 60 #[.int .i64 0,.string ByteArray.empty,.slice none 0 0,.slice none 0 0];have hz0:(w.alloc (.cells #[.int .i64 0,.string ByteArray.empty,.slice none 0 0,.slice none 0 0] 60)).heap.size=w.heap.size+1:=jz;have c0:=D5 (str s) (w.alloc (.cells #[.int .i64 0,.string ByteArray.empty,.slice none 0 0,.slice none 0 0] 60)) hsz;rw[bE]at c0;have Hq:=zh hp.qt;have Hb0:=zh hb0;have HB0:=zh hB0;have Hz0:=zh hz0;have Hst:=zh hst;have hsle:=Jh s;clear hp hb0 hB0 hz0 hst;go_enter func144,ntmps144;go_wp2_with fail;refine c0.mono ?_;rintro e w' ⟨rfl,rfl⟩;clear c0;by_cases hn:dM s=true
 case' pos=>
  have hcv:gV s=((az s:Nat):Int):=by unfold gV;rw[zI hn]
  have hlt:az s<s.length:=by
   unfold dM at hn;rw[beq_iff_eq]at hn;rcases zg (az s) s.length with h|h
   ·exact h
   rw[List.getElem?_eq_none h]at hn;cases hn
  have hsl:(str s).size=s.length:=by rw[←aB,bE]
  rw[hcv];have Hnm:Hid (((str s).extract 0 (az s)).data.toList=dX s):=zh (by unfold dX;rw[zI hn,Lib.extract_data,bE];simp);have Hrs:Hid (((str s).extract (az s+1) (str s).size).data.toList=bB s):=zh (by unfold bB;rw[zI hn,Lib.extract_data,bE,zR (by rw[zP];omega)]);have hnz:((str s).extract 0 (az s)).size≤1048576:=by rw[ByteArray.size_extract];omega
  have hrz:((str s).extract (az s+1) (str s).size).size≤1048576:=by rw[ByteArray.size_extract];omega
  have hk0:(0:Int)≤(az s:Int):=jo;have hk1:(az s:Int)≤((str s).size:Int):=jo;have hk2:IntKind.i64.wrap ((az s:Int)+1)=(az s:Int)+1:=IntWalk.i64_in _ jo;have hk3:(0:Int)≤(az s:Int)+1:=jo;have hk4:(az s:Int)+1≤((str s).size:Int):=jo;clear hcv hsle;generalize hks:az s=k at *;have Hks:=zh hks;clear hks hsl hlt;go_wp2_with fail;go_region;clear hk2;generalize (str s).extract 0 k=nm at *;generalize (str s).extract (k+1) (str s).size=rs at *;have HBk:=zh (HB0.out.drew);have Hbk:=zh (Hb0.out.drew);have hszk:w.heap.size<(w.alloc (.cells #[.int .i64 0,.string ByteArray.empty,.slice none 0 0,.slice none 0 0] 60)).drew.heap.size:=by show w.heap.size<(w.alloc (.cells #[.int .i64 0,.string ByteArray.empty,.slice none 0 0,.slice none 0 0] 60)).heap.size;rw[Hz0.out];omega
  clear HB0 Hb0 Hz0;generalize (w.alloc (.cells #[.int .i64 0,.string ByteArray.empty,.slice none 0 0,.slice none 0 0] 60)).drew=wk at *;go_wp2_with fail
 case' neg=>
  have hcv:gV s=-1:=by unfold gV;rw[zH hn]
  rw[hcv];have HBk:=HB0;have Hbk:=Hb0;have hszk:w.heap.size<(w.alloc (.cells #[.int .i64 0,.string ByteArray.empty,.slice none 0 0,.slice none 0 0] 60)).heap.size:=by rw[Hz0.out];omega
  clear HB0 Hb0 Hz0 hcv;go_wp2_with fail;generalize hnm:(⟨#[109,115,103]⟩:ByteArray)=nm;have Hnm:Hid (nm.data.toList=dX s):=zh (by unfold dX;rw[zH hn,←hnm];rfl);have hnz:nm.size≤1048576:=by rw[←hnm];decide
  obtain⟨rs,hrs⟩:∃rs,rs=str s:=⟨_,rfl⟩;have Hrs:Hid (rs.data.toList=bB s):=zh (by unfold bB;rw[zH hn,hrs,bE]);have hrz:rs.size≤1048576:=by rw[hrs];exact hsz
  rw[←hrs];clear hrs hnm hsle;generalize (w.alloc (.cells #[.int .i64 0,.string ByteArray.empty,.slice none 0 0,.slice none 0 0] 60))=wk at *
 all_goals
  have CN:=zh (Bh nm wk hnz);by_cases hN:isN nm.data.toList=true
  case' neg=>
   have hN':isN nm.data.toList=false:=by simpa using hN
   rw[hN']at CN;have Fin:=zh (show aV s=none by unfold aV;rw[zH Hst.out,zI (by rw[←Hnm.out,←Hrs.out];exact .inl hN')]);refine CN.out.mono ?_;rintro e w' ⟨rfl,rfl⟩;obtain⟨q0,q1,q2,q3,f0,f1,f2,f3⟩:=HBk.out.four;have hX:=HBk.out.set4 (.int .i64 0) (.string ⟨#[]⟩) (.slice none 0 0) (.slice none 0 0);have Hbl:=zh (bP Hbk.out (zG _) (.int .i64 0) (.string ⟨#[]⟩) (.slice none 0 0) (.slice none 0 0));have HX:=zh hX;clear hX;go_wp2_with fail;refine zu (cu rfl rfl rfl HX.out) rfl ?_;rw[Fin.out];exact⟨_,_,_,_,rfl,⟨_,_,_,_,_,_,_,_,rfl⟩,(fun q h=>by cases h),Hbl.out⟩
  case' pos=>
   rw[hN]at CN;by_cases hr:rs.size=0
   case' pos=>
    have hre:rs.data.toList=[]:=qm rs hr;have Fin:=zh (show aV s=none by unfold aV;rw[zH Hst.out,zI (by rw[←Hnm.out,←Hrs.out];exact .inr hre)]);have hr':((rs.size:Int)==0)=true:=by rw[hr];rfl
    clear hre hr;refine CN.out.mono ?_;rintro e w' ⟨rfl,rfl⟩;obtain⟨q0,q1,q2,q3,f0,f1,f2,f3⟩:=HBk.out.four;have hX:=HBk.out.set4 (.int .i64 0) (.string ⟨#[]⟩) (.slice none 0 0) (.slice none 0 0);have Hbl:=zh (bP Hbk.out (zG _) (.int .i64 0) (.string ⟨#[]⟩) (.slice none 0 0) (.slice none 0 0));have HX:=zh hX;clear hX;go_wp2_with fail;refine zu (cu rfl rfl rfl HX.out) rfl ?_;rw[Fin.out];exact⟨_,_,_,_,rfl,⟨_,_,_,_,_,_,_,_,rfl⟩,(fun q h=>by cases h),Hbl.out⟩
   case' neg=>
    have hr1:0<rs.size:=jo;have hr':((rs.size:Int)==0)=false:=by rw[zM];omega
    have hh:rs.data.toList.head?=some rs[0]:=by rw[←fV rs 0 hr1];cases rs.data.toList<;>rfl
    have u2:=bU rs[0] 34;rw[show (UInt8.toNat 34:Int)=34 from rfl]at u2
    have hrne:Hid (¬(isN (dX s)=false∨bB s=[])):=zh (by
     rw[←Hnm.out,←Hrs.out,hN];rintro(h|h)
     ·cases h
     rw[h]at hh;cases hh)
    by_cases hq:rs[0]=34
    case' pos=>
     have t2:((rs[0].toNat:Int)==34)=true:=by rw[u2];exact beq_iff_eq.2 hq
     have h2:2≤rs.size:=by
      have:=wH s Hq.out (by rw[←Hrs.out,hh,hq]);rw[←Hrs.out,aB]at this;exact this
     have h2i:(1:Int)≤(rs.size:Int)-1:=jo;have cW:=ow (rs.extract 1 (rs.size-1)) wk (by rw[ByteArray.size_extract];omega)
     have Fin:Hid (aV s=bN nm.data.toList (words (rs.extract 1 (rs.size-1)).data.toList)):=zh (by
      unfold aV
      rw[zH Hst.out,zH hrne.out,←Hrs.out,hh,hq,zI rfl,←Hnm.out,Lib.extract_data,aB,List.drop_take])
     clear hh u2 hq;generalize words (rs.extract 1 (rs.size-1)).data.toList=l at *;refine CN.out.mono ?_;rintro e w' ⟨rfl,rfl⟩;go_wp2_with fail;refine cW.mono ?_;rintro e w4 ⟨v,rfl,hown,hb4⟩;obtain⟨A4,c4,rfl,_⟩:=aU hown;have hR4:=(ReadsS.of_own hown).mono (S':=fun b=>wk.heap.size≤b∧b<w4.heap.size) fun b hS=>⟨hS.1,hS.2.1⟩
     have hsz4:wk.heap.size≤w4.heap.size:=hb4.size;have HB4:=zh (HBk.out.below hb4 hszk);have Hb4:=zh (Hbk.out.trans (hb4.mono jo));clear hown hb4 cW;have c5:=wO wk.heap.size nm l A4 c4 w4 hR4;generalize bN nm.data.toList l=oq at *;clear hR4;go_wp2_with fail;refine c5.mono ?_;rintro e w5 ⟨a0,a1,a2,a3,rfl,⟨k',nm',A',n',c',C',m',d',e4⟩,hF,hb5⟩;simp only[zQ,and_true]at e4;obtain⟨rfl,rfl,rfl,rfl⟩:=e4;have HB5:=HB4.out.below hb5 jo;have Hb5:=Hb4.out.trans (hb5.mono jo)
     have HF:Hid (∀q,oq=some q→QF (set4 w5 w.heap.size (.int .i64 k') (.string nm') (.slice A' n' c') (.slice C' m' d')) (fun b=>w.heap.size≤b∧b<(set4 w5 w.heap.size (.int .i64 k') (.string nm') (.slice A' n' c') (.slice C' m' d')).heap.size) q [.int .i64 k',.string nm',.slice A' n' c',.slice C' m' d']):=
      zh (fun q h=>eO (w:=w) (hF q h) hszk (zG _))
     clear hF hb5;obtain⟨q0,q1,q2,q3,f0,f1,f2,f3⟩:=HB5.four;have hX:=HB5.set4 (.int .i64 k') (.string nm') (.slice A' n' c') (.slice C' m' d');have Hbl:=zh (bP Hb5 (zG _) (.int .i64 k') (.string nm') (.slice A' n' c') (.slice C' m' d'));have HX:=zh hX;clear hX;go_wp2_with fail;refine zu (cu rfl rfl rfl HX.out) rfl ?_;rw[Fin.out];exact⟨_,_,_,_,rfl,⟨_,_,_,_,_,_,_,_,rfl⟩,HF.out,Hbl.out⟩
    case' neg=>
     have t2:((rs[0].toNat:Int)==34)=false:=by rw[u2];exact zM.2 hq
     have hqn:¬(bB s).head?=some 34:=by rw[←Hrs.out,hh];simpa using hq
     have hm1:rs.size-1<rs.size:=jo
     have hlast:rs.data.toList.getLast?=some (rs[rs.size-1]'hm1):=by
      rw[List.getLast?_eq_getElem?,aB];exact fV rs _ hm1
     have u3:=bU (rs[rs.size-1]'hm1) 42;rw[show (UInt8.toNat 42:Int)=42 from rfl]at u3;have h0i:(0:Int)≤(rs.size:Int)-1:=jo;by_cases hs:rs[rs.size-1]'hm1=42
     case' neg=>
      have t3:(((rs[rs.size-1]'hm1).toNat:Int)==42)=false:=by rw[u3];exact zM.2 hs
      have hs2:¬rs.data.toList.getLast?=some 42:=by rw[hlast];simpa using hs
      have cW:=ow rs wk hrz
      have Fin:Hid (aV s=bN nm.data.toList (words rs.data.toList)):=zh (by
       unfold aV
       rw[zH Hst.out,zH hrne.out,zH hqn,←Hrs.out,zH hs2,←Hnm.out])
      clear hh u2 u3 hq hqn hs hs2 hlast;generalize words rs.data.toList=l at *;refine CN.out.mono ?_;rintro e w' ⟨rfl,rfl⟩;go_wp2_with fail;refine cW.mono ?_;rintro e w4 ⟨v,rfl,hown,hb4⟩;obtain⟨A4,c4,rfl,_⟩:=aU hown;have hR4:=(ReadsS.of_own hown).mono (S':=fun b=>wk.heap.size≤b∧b<w4.heap.size) fun b hS=>⟨hS.1,hS.2.1⟩
      have hsz4:wk.heap.size≤w4.heap.size:=hb4.size;have HB4:=zh (HBk.out.below hb4 hszk);have Hb4:=zh (Hbk.out.trans (hb4.mono jo));clear hown hb4 cW;have c5:=wO wk.heap.size nm l A4 c4 w4 hR4;generalize bN nm.data.toList l=oq at *;clear hR4;go_wp2_with fail;refine c5.mono ?_;rintro e w5 ⟨a0,a1,a2,a3,rfl,⟨k',nm',A',n',c',C',m',d',e4⟩,hF,hb5⟩;simp only[zQ,and_true]at e4;obtain⟨rfl,rfl,rfl,rfl⟩:=e4;have HB5:=HB4.out.below hb5 jo;have Hb5:=Hb4.out.trans (hb5.mono jo)
      have HF:Hid (∀q,oq=some q→QF (set4 w5 w.heap.size (.int .i64 k') (.string nm') (.slice A' n' c') (.slice C' m' d')) (fun b=>w.heap.size≤b∧b<(set4 w5 w.heap.size (.int .i64 k') (.string nm') (.slice A' n' c') (.slice C' m' d')).heap.size) q [.int .i64 k',.string nm',.slice A' n' c',.slice C' m' d']):=
       zh (fun q h=>eO (w:=w) (hF q h) hszk (zG _))
      clear hF hb5;obtain⟨q0,q1,q2,q3,f0,f1,f2,f3⟩:=HB5.four;have hX:=HB5.set4 (.int .i64 k') (.string nm') (.slice A' n' c') (.slice C' m' d');have Hbl:=zh (bP Hb5 (zG _) (.int .i64 k') (.string nm') (.slice A' n' c') (.slice C' m' d'));have HX:=zh hX;clear hX;go_wp2_with fail;refine zu (cu rfl rfl rfl HX.out) rfl ?_;rw[Fin.out];exact⟨_,_,_,_,rfl,⟨_,_,_,_,_,_,_,_,rfl⟩,HF.out,Hbl.out⟩
     case' pos=>
      have t3:(((rs[rs.size-1]'hm1).toNat:Int)==42)=true:=by rw[u3];exact beq_iff_eq.2 hs
      have hs2:rs.data.toList.getLast?=some 42:=by rw[hlast,hs]
      have hdl:(rs.extract 0 (rs.size-1)).data.toList=rs.data.toList.dropLast:=by rw[Lib.extract_data,List.dropLast_eq_take,aB];rfl
      have cW:=ow (rs.extract 0 (rs.size-1)) wk (by rw[ByteArray.size_extract];omega)
      have Fin0:Hid (aV s=if rs.size=1 then some (.mk 3 nm [ByteArray.empty] [])else if(words (rs.extract 0 (rs.size-1)).data.toList).length=1 then some (.mk 3 nm ((words (rs.extract 0 (rs.size-1)).data.toList).map str) [])else none):=zh (by
       unfold aV
       rw[zH Hst.out,zH hrne.out,zH hqn,←Hrs.out,zI hs2,aB,←Hnm.out,fE,hdl])
      clear hh u2 u3 hq hqn hs hs2 hlast hdl;generalize words (rs.extract 0 (rs.size-1)).data.toList=l at *;refine CN.out.mono ?_;rintro e w' ⟨rfl,rfl⟩;go_wp2_with fail;refine cW.mono ?_;rintro e w4 ⟨v,rfl,hown,hb4⟩;obtain⟨A4,c4,rfl,_⟩:=aU hown;have hR4:=(ReadsS.of_own hown).mono (S':=fun b=>wk.heap.size≤b∧b<w4.heap.size) fun b hS=>⟨hS.1,hS.2.1⟩
      have hsz4:wk.heap.size≤w4.heap.size:=hb4.size;have HB4:=zh (HBk.out.below hb4 hszk);have Hb4:=zh (Hbk.out.trans (hb4.mono jo));clear hown hb4 cW;by_cases hr1':rs.size=1
      case' pos=>
       have t5:((rs.size:Int)==1)=true:=by rw[hr1'];rfl
       have Fin:Hid (aV s=some (.mk 3 nm [⟨#[]⟩] [])):=zh (by rw[Fin0.out,zI hr1'];rfl);obtain⟨q0,q1,q2,q3,f0,f1,f2,f3⟩:=HB4.out.four;have hlt3:w.heap.size<w4.heap.size:=jo;have hne3:w.heap.size≠w4.heap.size:=jo;have hNx:=Blk.new (set4 w4 w.heap.size (.int .i64 3) (.string nm) (.slice (some ⟨w4.heap.size,0,none⟩) 1 1) (.slice none 0 0)) 9 #[.string ⟨#[]⟩];have hzx:(World.heap ((set4 w4 w.heap.size (.int .i64 3) (.string nm) (.slice (some ⟨w4.heap.size,0,none⟩) 1 1) (.slice none 0 0)).alloc (.cells #[.string ⟨#[]⟩] 9))).size=w4.heap.size+1:=by rw[vK,dQ]
       rw[dQ]at hNx;have hX:=(HB4.out.set4 (.int .i64 3) (.string nm) (.slice (some ⟨w4.heap.size,0,none⟩) 1 1) (.slice none 0 0)).alloc (.cells #[.string ⟨#[]⟩] 9)
       have HF:Hid (QF ((set4 w4 w.heap.size (.int .i64 3) (.string nm) (.slice (some ⟨w4.heap.size,0,none⟩) 1 1) (.slice none 0 0)).alloc (.cells #[.string ⟨#[]⟩] 9)) (fun b=>w.heap.size≤b∧b<(World.heap ((set4 w4 w.heap.size (.int .i64 3) (.string nm) (.slice (some ⟨w4.heap.size,0,none⟩) 1 1) (.slice none 0 0)).alloc (.cells #[.string ⟨#[]⟩] 9))).size) (.mk 3 nm [⟨#[]⟩] []) [.int .i64 3,.string nm,.slice (some ⟨w4.heap.size,0,none⟩) 1 1,.slice none 0 0]):=zh
        (.mk [] rfl ⟨rfl,fun _=>⟨w4.heap.size,0,rfl,⟨jo,jo⟩,fun j u hu=>by
         rw[hNx.cell];match j,hu with
         | 0,hu=>simpa using hu
         | j+1,hu=>simp at hu⟩⟩ rfl rfl jz ReadsS.none_ (fun i hi=>absurd hi jz))
       have Hbl:=zh ((bP Hb4.out (zG _) (.int .i64 3) (.string nm) (.slice (some ⟨w4.heap.size,0,none⟩) 1 1) (.slice none 0 0)).alloc (by rw[dQ];omega) (.cells #[.string ⟨#[]⟩] 9));have HX:=zh hX;clear hNx hzx hX hR4 hr1';go_wp2_with fail;refine zu (cu rfl rfl rfl HX.out) rfl ?_;rw[Fin.out];exact⟨_,_,_,_,rfl,⟨_,_,_,_,_,_,_,_,rfl⟩,(fun q h=>by injection h with h;subst h;exact HF.out),Hbl.out⟩
      case' neg=>
       have t5:((rs.size:Int)==1)=false:=by rw[zM];omega
       by_cases hl1:l.length=1
       case' pos=>
        have Fin:Hid (aV s=some (.mk 3 nm (l.map str) [])):=zh (by rw[Fin0.out,zH hr1',zI hl1]);have t6:((l.length:Int)==1)=true:=by rw[hl1];rfl
        have hF:QF w4 (fun b=>wk.heap.size≤b∧b<w4.heap.size) (.mk 3 nm (l.map str) []) [.int .i64 3,.string nm,.slice A4 l.length c4,.slice none 0 0]:=
         .mk [] (by rw[List.length_map]) hR4 rfl rfl jz ReadsS.none_ (fun i hi=>absurd hi jz)
        have HF:=zh (eO (w:=w) hF hszk (zG _));clear hF hR4 hr1' hl1;generalize l.length=n at *;obtain⟨q0,q1,q2,q3,f0,f1,f2,f3⟩:=HB4.out.four;have hX:=HB4.out.set4 (.int .i64 3) (.string nm) (.slice A4 n c4) (.slice none 0 0);have Hbl:=zh (bP Hb4.out (zG _) (.int .i64 3) (.string nm) (.slice A4 n c4) (.slice none 0 0));have HX:=zh hX;clear hX;go_wp2_with fail;refine zu (cu rfl rfl rfl HX.out) rfl ?_;rw[Fin.out];exact⟨_,_,_,_,rfl,⟨_,_,_,_,_,_,_,_,rfl⟩,(fun q h=>by injection h with h;subst h;exact HF.out),Hbl.out⟩
       case' neg=>
        have Fin:Hid (aV s=none):=zh (by rw[Fin0.out,zH hr1',zH hl1]);have t6:((l.length:Int)==1)=false:=by rw[zM];omega
        clear hR4 hr1' hl1;generalize l.length=n at *;obtain⟨q0,q1,q2,q3,f0,f1,f2,f3⟩:=HB4.out.four;have hX:=HB4.out.set4 (.int .i64 3) (.string nm) (.slice A4 n c4) (.slice none 0 0);have Hbl:=zh (bP Hb4.out (zG _) (.int .i64 3) (.string nm) (.slice A4 n c4) (.slice none 0 0));have HX:=zh hX;clear hX;go_wp2_with fail;refine zu (cu rfl rfl rfl HX.out) rfl ?_;rw[Fin.out];exact⟨_,_,_,_,rfl,⟨_,_,_,_,_,_,_,_,rfl⟩,(fun q h=>by cases h),Hbl.out⟩
end Qp
end Go.Proofs.YtmomjpolkkbhnaaGreat
