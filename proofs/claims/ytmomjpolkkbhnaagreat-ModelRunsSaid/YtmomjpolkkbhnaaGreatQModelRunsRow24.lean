/- loggiaref17: colon, words, leaf: the walks (printed by gen_qpr.py). -/
import Derived.Test.YtmomjpolkkbhnaaGreatQModelRunsRow23
set_option linter.unusedSimpArgs false
set_option maxRecDepth 20000
set_option maxHeartbeats 100000000
open Go.Proofs.Tryz
namespace Go.Proofs.YtmomjpolkkbhnaaGreat
namespace Qp
open Go.RowKit Ut Tk Qy
def mW(s:P):Int:=if jF s then(gH s:Nat)else -1
theorem Hn(s:ByteArray)(w:World)(hs:s.size≤1048576):Calls prog 167 #[.string s] w fun e w'=>e=.returned (.int .i64 (mW s.data.toList))∧w=w':=by
 have Hend:=zh (pV (fun c=>c==58 || c==34) s.data.toList);have Hnm:Hid (jF s.data.toList=(s.data.toList[gH s.data.toList]? == some 58)):=rfl;have Hcv:Hid (mW s.data.toList=if jF s.data.toList then((gH s.data.toList:Nat):Int)else -1):=rfl;go_enter func167,ntmps167;go_wp2_with fail;go_loopw [3] (fun i wr=>∃k:Nat,k≤s.size∧i=.int .i64 (k:Int)∧w=wr∧Hid (∀x∈s.data.toList.take k,(x==58 || x==34)=false)) (fun i _=>s.size-(intOf i).toNat)
 case atStart=>exact⟨0,zS _,rfl,rfl,zh (fun x hx=>by simp at hx)⟩
 obtain⟨k,q,rfl,rfl,a⟩:=hrel;have n:(0:Int)≤(k:Int):=jo;by_cases g:k<s.size
 ·have b:=nW s k g;have l:=lZ s k g;have u0:=gu s[k] 58;have u1:=gu s[k] 34;simp only[show (UInt8.toNat 34:Int)=34 from rfl,show (UInt8.toNat 58:Int)=58 from rfl]at u0 u1
  have j:Hid ((s[k]=58∨s[k]=34)→gH s.data.toList=k):=zh (fun h=>Hend.out k a.out (by rw[fB];omega) (fun _=>by
   show (s[k]==58 || s[k]==34)=true
   rcases h with h|h<;>simp[h]))
  by_cases d:s[k]=34
  ·have o:((s[k].toNat:Int) != 34)=false:=by rw[bne_eq_false_iff_eq];rw[d];rfl
   have Fin:Hid (mW s.data.toList=-1):=zh (by rw[Hcv.out,Hnm.out,j.out (.inr d),l,d];rfl);clear b l u0 u1 j d a Hend Hnm Hcv;go_wp2_with fail;go_ret;exact⟨by rw[Fin.out];rfl,rfl⟩
  have o:((s[k].toNat:Int) != 34)=true:=by
   have:((s[k].toNat:Int)==34)=false:=by rw[u1];exact zM.2 d
   simp[bne,this]
  by_cases f:s[k]=58
  ·have p:((s[k].toNat:Int)==58)=true:=by rw[u0];exact beq_iff_eq.2 f
   have Fin:Hid (mW s.data.toList=(k:Int)):=zh (by rw[Hcv.out,Hnm.out,j.out (.inl f),l,f];rfl);clear b l u0 u1 j d f a Hend Hnm Hcv;go_wp2_with fail;go_ret;exact⟨by rw[Fin.out];rfl,rfl⟩
  have p:((s[k].toNat:Int)==58)=false:=by rw[u0];exact zM.2 f
  have m:Hid (∀x∈s.data.toList.take (k+1),(x==58 || x==34)=false):=zh (fun x hx=>by
   rw[b,List.mem_append]at hx;rcases hx with hx|hx
   ·exact a.out x hx
   rw[List.mem_singleton]at hx;rw[hx];simp[d,f])
  clear b l u0 u1 j d f a Hend Hnm Hcv;go_wp2_with fail;go_roundw
  case rel=>exact⟨k+1,jo,ju,by first|rfl|trivial,m⟩
  simp[intOf];omega
 have Fin:Hid (mW s.data.toList=-1):=zh (by
  have e:gH s.data.toList=k:=Hend.out k a.out (by rw[fB];omega) (fun h=>absurd h (by rw[fB];omega))
  rw[Hcv.out,Hnm.out,e,List.getElem?_eq_none (by rw[fB];omega)];rfl)
 clear a Hend Hnm Hcv;go_wp2_with fail;go_ret;exact⟨by rw[Fin.out];rfl,rfl⟩
def xE(vs:List Value):Prop:=∃(k:Int) (nm:ByteArray) (A:Option Addr) (n c:Nat) (C:Option Addr) (m d:Nat),vs=[.int .i64 k,.string nm,.slice A n c,.slice C m d]
def DD(base:Nat)(w:World)(o:Option Q)(e:Ending)(w':World):Prop:=
 ∃a0 a1 a2 a3,e=.returned (.tuple #[.agg #[a0,a1,a2,a3],.bool o.isSome])∧xE [a0,a1,a2,a3]∧(∀q,o=some q→QF w' (fun b=>base≤b∧b<w'.heap.size) q [a0,a1,a2,a3])∧zWW w w'
theorem iZ{fn:Func}{p1 p2:Tmp}(hf:fn.results=#[.cell p1 60,.tmp p2]){tmps:Array Value}{W:World}{b1:Nat}{a0 a1 a2 a3 v:Value}(h1:tmps.getD p1 undef=.pointer (some ⟨b1,0,none⟩))(h2:tmps.getD p2 undef=v)(B1:Blk W b1 60 #[a0,a1,a2,a3]) :
  (results fn tmps).run prog W=.ok (.tuple #[.agg #[a0,a1,a2,a3],v]) W:=by
 have c:=zv (P:=prog) W b1 60 60 #[a0,a1,a2,a3] (0,0) _ B1 underlying60 rfl jk;have b:tmps[p1]?.getD undef=.pointer (some ⟨b1,0,none⟩):=by simpa using h1
 have a:tmps[p2]?.getD undef=v:=by simpa using h2
 simp[results,hf,b,a,asAddr,c]
theorem BR(base:Nat)(nm:ByteArray)(l:List P)(A:Option Addr)(c:Nat)(w:World)(hR:ReadsS w (fun b=>base≤b∧b<w.heap.size) 1 A l.length (sv l)) :
  Calls prog 169 #[.string nm,.slice A l.length c] w (DD base w (gW nm.data.toList l)):=by
 have Hnm:=zh (kQ nm);by_cases g:l=[]
 ·have Fin:Hid (gW nm.data.toList l=none):=zh (by unfold gW;rw[zI g]);have f:=Blk.new w 60 #[.int .i64 0,.string ⟨#[]⟩,.slice none 0 0,.slice none 0 0];have a:=zh ((zy w.heap.size w).alloc (zG _) (.cells #[.int .i64 0,.string ⟨#[]⟩,.slice none 0 0,.slice none 0 0] 60));clear hR;subst g;go_enter func169,ntmps169;go_wp2_with fail;refine zw (iZ rfl rfl rfl f) rfl ?_;rw[Fin.out];exact⟨_,_,_,_,rfl,⟨_,_,_,_,_,_,_,_,rfl⟩,(fun q h=>by cases h),a.out⟩
 have k:l.length≠0:=fun e=>g (List.length_eq_zero_iff.1 e)
 have u:((l.length:Int)==0)=false:=by rw[zM];omega
 by_cases j:l.length=1
 ·have Fin:Hid (gW nm.data.toList l=some (.mk 2 nm (l.map str) [])):=zh (by unfold gW;rw[zH g,zI j,Hnm.out]);have t:((l.length:Int)==1)=true:=by rw[j];rfl
  have f:=Blk.new w 60 #[.int .i64 2,.string nm,.slice A l.length c,.slice none 0 0];have a:=(zy w.heap.size w).alloc (zG _) (.cells #[.int .i64 2,.string nm,.slice A l.length c,.slice none 0 0] 60)
  have m:Hid (QF (w.alloc (.cells #[.int .i64 2,.string nm,.slice A l.length c,.slice none 0 0] 60)) (fun b=>base≤b∧b<(w.alloc (.cells #[.int .i64 2,.string nm,.slice A l.length c,.slice none 0 0] 60)).heap.size) (.mk 2 nm (l.map str) []) [.int .i64 2,.string nm,.slice A l.length c,.slice none 0 0]):=zh
   (.mk [] (by rw[List.length_map]) ((hR.keep fun b o d=>a.cell (p:=⟨b,o,none⟩) d.2).mono fun b d=>⟨d.1,zT d.2 a.size⟩) rfl rfl jz ReadsS.none_ (fun i s=>absurd s jz))
  have Hbl:=zh a;have r:=zh f;clear hR g k a f j;generalize l.length=n at *;go_enter func169,ntmps169;go_wp2_with fail;refine zw (iZ rfl rfl rfl r.out) rfl ?_;rw[Fin.out];exact⟨_,_,_,_,rfl,⟨_,_,_,_,_,_,_,_,rfl⟩,(fun q h=>by injection h with h;subst h;exact m.out),Hbl.out⟩
 have Fin:Hid (gW nm.data.toList l=some (.mk 4 nm (l.map str) [])):=zh (by unfold gW;rw[zH g,zH j,Hnm.out]);have t:((l.length:Int)==1)=false:=by rw[zM];omega
 have f:=Blk.new w 60 #[.int .i64 4,.string nm,.slice A l.length c,.slice none 0 0];have a:=(zy w.heap.size w).alloc (zG _) (.cells #[.int .i64 4,.string nm,.slice A l.length c,.slice none 0 0] 60)
 have m:Hid (QF (w.alloc (.cells #[.int .i64 4,.string nm,.slice A l.length c,.slice none 0 0] 60)) (fun b=>base≤b∧b<(w.alloc (.cells #[.int .i64 4,.string nm,.slice A l.length c,.slice none 0 0] 60)).heap.size) (.mk 4 nm (l.map str) []) [.int .i64 4,.string nm,.slice A l.length c,.slice none 0 0]):=zh
  (.mk [] (by rw[List.length_map]) ((hR.keep fun b o d=>a.cell (p:=⟨b,o,none⟩) d.2).mono fun b d=>⟨d.1,zT d.2 a.size⟩) rfl rfl jz ReadsS.none_ (fun i s=>absurd s jz))
 have Hbl:=zh a;have r:=zh f;clear hR g k a f j;generalize l.length=n at *;go_enter func169,ntmps169;go_wp2_with fail;refine zw (iZ rfl rfl rfl r.out) rfl ?_;rw[Fin.out];exact⟨_,_,_,_,rfl,⟨_,_,_,_,_,_,_,_,rfl⟩,(fun q h=>by injection h with h;subst h;exact m.out),Hbl.out⟩
end Qp

namespace Qp
open Go.RowKit Ut Tk Qy
theorem LR(s:P)(hp:Pc s)(hl:s.length≤1048576)(w:World):Calls prog 144 #[.string (str s)] w (DD w.heap.size w (fU s)):=by
 by_cases N:s=[42]
 ·have Fin:Hid (fU s=some (.mk 1 ⟨#[]⟩ [] [])):=zh (by unfold fU;rw[zI N];rfl);subst N;have U:=Blk.new w 60 #[.int .i64 1,.string ⟨#[]⟩,.slice none 0 0,.slice none 0 0];have Hbl:=zh ((zy w.heap.size w).alloc (zG _) (.cells #[.int .i64 1,.string ⟨#[]⟩,.slice none 0 0,.slice none 0 0] 60));have e0:(str [42]).toList=[42]:=by rw[tl,gM]
  clear hp hl;go_enter func144,ntmps144;go_wp2_with fail;refine zw (iZ rfl rfl rfl U) rfl ?_;rw[Fin.out];exact⟨_,_,_,_,rfl,⟨_,_,_,_,_,_,_,_,rfl⟩,(fun q h=>by injection h with h;subst h;exact .mk [] rfl (by simpa using ReadsS.none_) rfl rfl jz ReadsS.none_ (fun i hi=>absurd hi jz)),Hbl.out⟩
 have e0:((str s).toList == [42])=false:=by rw[Bq];simpa using N
 have an:(str s).size≤1048576:=by rw[←fB,gM];exact hl
 have ao:=(zy w.heap.size w).alloc (zG _) (.cells #[.int .i64 0,.string ByteArray.empty,.slice none 0 0,.slice none 0 0] 60);have ai:=Blk.new w 60 #[.int .i64 0,.string ByteArray.empty,.slice none 0 0,.slice none 0 0];have am:(w.alloc (.cells #[.int .i64 0,.string ByteArray.empty,.slice none 0 0,.slice none 0 0] 60)).heap.size=w.heap.size+1:=jz;have c0:=Hn (str s) (w.alloc (.cells #[.int .i64 0,.string ByteArray.empty,.slice none 0 0,.slice none 0 0] 60)) an;rw[gM]at c0;have Hq:=zh hp.qt;have ab:=zh ao;have X:=zh ai;have W:=zh am;have Hst:=zh N;have ac:=Mq s;clear hp ao ai am N;go_enter func144,ntmps144;go_wp2_with fail;refine c0.mono ?_;rintro e w' ⟨rfl,rfl⟩;clear c0;by_cases V:jF s=true
 case' pos=>
  have R:mW s=((gH s:Nat):Int):=by unfold mW;rw[zI V]
  have au:gH s<s.length:=by
   unfold jF at V;rw[beq_iff_eq]at V;rcases zj (gH s) s.length with h|h
   ·exact h
   rw[List.getElem?_eq_none h]at V;cases V
  have ar:(str s).size=s.length:=by rw[←fB,gM]
  rw[R];have Hnm:Hid (((str s).extract 0 (gH s)).data.toList=kE s):=zh (by unfold kE;rw[zI V,Lib.extract_data,gM];simp);have Hrs:Hid (((str s).extract (gH s+1) (str s).size).data.toList=gK s):=zh (by unfold gK;rw[zI V,Lib.extract_data,gM,zR (by rw[zP];omega)]);have ah:((str s).extract 0 (gH s)).size≤1048576:=by rw[ByteArray.size_extract];omega
  have aq:((str s).extract (gH s+1) (str s).size).size≤1048576:=by rw[ByteArray.size_extract];omega
  have aF:(0:Int)≤(gH s:Int):=jo;have aG:(gH s:Int)≤((str s).size:Int):=jo;have aw:IntKind.i64.wrap ((gH s:Int)+1)=(gH s:Int)+1:=IntWalk.i64_in _ jo;have aH:(0:Int)≤(gH s:Int)+1:=jo;have aI:(gH s:Int)+1≤((str s).size:Int):=jo;clear R ac;generalize ak:gH s=k at *;have aD:=zh ak;clear ak ar au;go_wp2_with fail;go_region;clear aw;generalize (str s).extract 0 k=d at *;generalize (str s).extract (k+1) (str s).size=a at *;have z:=zh (X.out.drew);have Hbk:=zh (ab.out.drew);have o:w.heap.size<(w.alloc (.cells #[.int .i64 0,.string ByteArray.empty,.slice none 0 0,.slice none 0 0] 60)).drew.heap.size:=by show w.heap.size<(w.alloc (.cells #[.int .i64 0,.string ByteArray.empty,.slice none 0 0,.slice none 0 0] 60)).heap.size;rw[W.out];omega
  clear X ab W;generalize (w.alloc (.cells #[.int .i64 0,.string ByteArray.empty,.slice none 0 0,.slice none 0 0] 60)).drew=C at *;go_wp2_with fail
 case' neg=>
  have R:mW s=-1:=by unfold mW;rw[zH V]
  rw[R];have z:=X;have Hbk:=ab;have o:w.heap.size<(w.alloc (.cells #[.int .i64 0,.string ByteArray.empty,.slice none 0 0,.slice none 0 0] 60)).heap.size:=by rw[W.out];omega
  clear X ab W R;go_wp2_with fail;generalize af:(⟨#[109,115,103]⟩:ByteArray)=d;have Hnm:Hid (d.data.toList=kE s):=zh (by unfold kE;rw[zH V,←af];rfl);have ah:d.size≤1048576:=by rw[←af];decide
  obtain⟨a,aa⟩:∃a,a=str s:=⟨_,rfl⟩;have Hrs:Hid (a.data.toList=gK s):=zh (by unfold gK;rw[zH V,aa,gM]);have aq:a.size≤1048576:=by rw[aa];exact an
  rw[←aa];clear aa af ac;generalize (w.alloc (.cells #[.int .i64 0,.string ByteArray.empty,.slice none 0 0,.slice none 0 0] 60))=C at *
 all_goals
  have CN:=zh (FN d C ah);by_cases hN:isN d.data.toList=true
  case' neg=>
   have ap:isN d.data.toList=false:=by simpa using hN
   rw[ap]at CN;have Fin:=zh (show fU s=none by unfold fU;rw[zH Hst.out,zI (by rw[←Hnm.out,←Hrs.out];exact .inl ap)]);refine CN.out.mono ?_;rintro e w' ⟨rfl,rfl⟩;obtain⟨q0,q1,q2,q3,f0,f1,f2,f3⟩:=z.out.four;have x:=z.out.set4 (.int .i64 0) (.string ⟨#[]⟩) (.slice none 0 0) (.slice none 0 0);have Hbl:=zh (gY Hbk.out (zG _) (.int .i64 0) (.string ⟨#[]⟩) (.slice none 0 0) (.slice none 0 0));have D:=zh x;clear x;go_wp2_with fail;refine zw (iZ rfl rfl rfl D.out) rfl ?_;rw[Fin.out];exact⟨_,_,_,_,rfl,⟨_,_,_,_,_,_,_,_,rfl⟩,(fun q h=>by cases h),Hbl.out⟩
  case' pos=>
   rw[hN]at CN;by_cases hr:a.size=0
   case' pos=>
    have aj:a.data.toList=[]:=wN a hr;have Fin:=zh (show fU s=none by unfold fU;rw[zH Hst.out,zI (by rw[←Hnm.out,←Hrs.out];exact .inr aj)]);have ax:((a.size:Int)==0)=true:=by rw[hr];rfl
    clear aj hr;refine CN.out.mono ?_;rintro e w' ⟨rfl,rfl⟩;obtain⟨q0,q1,q2,q3,f0,f1,f2,f3⟩:=z.out.four;have x:=z.out.set4 (.int .i64 0) (.string ⟨#[]⟩) (.slice none 0 0) (.slice none 0 0);have Hbl:=zh (gY Hbk.out (zG _) (.int .i64 0) (.string ⟨#[]⟩) (.slice none 0 0) (.slice none 0 0));have D:=zh x;clear x;go_wp2_with fail;refine zw (iZ rfl rfl rfl D.out) rfl ?_;rw[Fin.out];exact⟨_,_,_,_,rfl,⟨_,_,_,_,_,_,_,_,rfl⟩,(fun q h=>by cases h),Hbl.out⟩
   case' neg=>
    have az:0<a.size:=jo;have ax:((a.size:Int)==0)=false:=by rw[zM];omega
    have U:a.data.toList.head?=some a[0]:=by rw[←lZ a 0 az];cases a.data.toList<;>rfl
    have u2:=gu a[0] 34;rw[show (UInt8.toNat 34:Int)=34 from rfl]at u2
    have M:Hid (¬(isN (kE s)=false∨gK s=[])):=zh (by
     rw[←Hnm.out,←Hrs.out,hN];rintro(h|h)
     ·cases h
     rw[h]at U;cases U)
    by_cases hq:a[0]=34
    case' pos=>
     have t2:((a[0].toNat:Int)==34)=true:=by rw[u2];exact beq_iff_eq.2 hq
     have h2:2≤a.size:=by
      have:=BK s Hq.out (by rw[←Hrs.out,U,hq]);rw[←Hrs.out,fB]at this;exact this
     have aE:(1:Int)≤(a.size:Int)-1:=jo;have cW:=uC (a.extract 1 (a.size-1)) C (by rw[ByteArray.size_extract];omega)
     have Fin:Hid (fU s=gW d.data.toList (words (a.extract 1 (a.size-1)).data.toList)):=zh (by
      unfold fU
      rw[zH Hst.out,zH M.out,←Hrs.out,U,hq,zI rfl,←Hnm.out,Lib.extract_data,fB,List.drop_take])
     clear U u2 hq;generalize words (a.extract 1 (a.size-1)).data.toList=l at *;refine CN.out.mono ?_;rintro e w' ⟨rfl,rfl⟩;go_wp2_with fail;refine cW.mono ?_;rintro e g ⟨v,rfl,c,f⟩;obtain⟨Z,c4,rfl,_⟩:=fT c;have r:=(ReadsS.of_own c).mono (S':=fun b=>C.heap.size≤b∧b<g.heap.size) fun b hS=>⟨hS.1,hS.2.1⟩
     have ad:C.heap.size≤g.heap.size:=f.size;have t:=zh (z.out.below f o);have B:=zh (Hbk.out.trans (f.mono jo));clear c f cW;have c5:=BR C.heap.size d l Z c4 g r;generalize gW d.data.toList l=oq at *;clear r;go_wp2_with fail;refine c5.mono ?_;rintro e w5 ⟨a0,a1,a2,a3,rfl,⟨T,m,O,H,G,E,I,L,e4⟩,hF,A⟩;simp only[zQ,and_true]at e4;obtain⟨rfl,rfl,rfl,rfl⟩:=e4;have F:=t.out.below A jo;have ag:=B.out.trans (A.mono jo)
     have HF:Hid (∀q,oq=some q→QF (set4 w5 w.heap.size (.int .i64 T) (.string m) (.slice O H G) (.slice E I L)) (fun b=>w.heap.size≤b∧b<(set4 w5 w.heap.size (.int .i64 T) (.string m) (.slice O H G) (.slice E I L)).heap.size) q [.int .i64 T,.string m,.slice O H G,.slice E I L]):=
      zh (fun q h=>kW (w:=w) (hF q h) o (zG _))
     clear hF A;obtain⟨q0,q1,q2,q3,f0,f1,f2,f3⟩:=F.four;have x:=F.set4 (.int .i64 T) (.string m) (.slice O H G) (.slice E I L);have Hbl:=zh (gY ag (zG _) (.int .i64 T) (.string m) (.slice O H G) (.slice E I L));have D:=zh x;clear x;go_wp2_with fail;refine zw (iZ rfl rfl rfl D.out) rfl ?_;rw[Fin.out];exact⟨_,_,_,_,rfl,⟨_,_,_,_,_,_,_,_,rfl⟩,HF.out,Hbl.out⟩
    case' neg=>
     have t2:((a[0].toNat:Int)==34)=false:=by rw[u2];exact zM.2 hq
     have Y:¬(gK s).head?=some 34:=by rw[←Hrs.out,U];simpa using hq
     have av:a.size-1<a.size:=jo
     have y:a.data.toList.getLast?=some (a[a.size-1]'av):=by
      rw[List.getLast?_eq_getElem?,fB];exact lZ a _ av
     have u3:=gu (a[a.size-1]'av) 42;rw[show (UInt8.toNat 42:Int)=42 from rfl]at u3;have aC:(0:Int)≤(a.size:Int)-1:=jo;by_cases hs:a[a.size-1]'av=42
     case' neg=>
      have t3:(((a[a.size-1]'av).toNat:Int)==42)=false:=by rw[u3];exact zM.2 hs
      have J:¬a.data.toList.getLast?=some 42:=by rw[y];simpa using hs
      have cW:=uC a C aq
      have Fin:Hid (fU s=gW d.data.toList (words a.data.toList)):=zh (by
       unfold fU
       rw[zH Hst.out,zH M.out,zH Y,←Hrs.out,zH J,←Hnm.out])
      clear U u2 u3 hq Y hs J y;generalize words a.data.toList=l at *;refine CN.out.mono ?_;rintro e w' ⟨rfl,rfl⟩;go_wp2_with fail;refine cW.mono ?_;rintro e g ⟨v,rfl,c,f⟩;obtain⟨Z,c4,rfl,_⟩:=fT c;have r:=(ReadsS.of_own c).mono (S':=fun b=>C.heap.size≤b∧b<g.heap.size) fun b hS=>⟨hS.1,hS.2.1⟩
      have ad:C.heap.size≤g.heap.size:=f.size;have t:=zh (z.out.below f o);have B:=zh (Hbk.out.trans (f.mono jo));clear c f cW;have c5:=BR C.heap.size d l Z c4 g r;generalize gW d.data.toList l=oq at *;clear r;go_wp2_with fail;refine c5.mono ?_;rintro e w5 ⟨a0,a1,a2,a3,rfl,⟨T,m,O,H,G,E,I,L,e4⟩,hF,A⟩;simp only[zQ,and_true]at e4;obtain⟨rfl,rfl,rfl,rfl⟩:=e4;have F:=t.out.below A jo;have ag:=B.out.trans (A.mono jo)
      have HF:Hid (∀q,oq=some q→QF (set4 w5 w.heap.size (.int .i64 T) (.string m) (.slice O H G) (.slice E I L)) (fun b=>w.heap.size≤b∧b<(set4 w5 w.heap.size (.int .i64 T) (.string m) (.slice O H G) (.slice E I L)).heap.size) q [.int .i64 T,.string m,.slice O H G,.slice E I L]):=
       zh (fun q h=>kW (w:=w) (hF q h) o (zG _))
      clear hF A;obtain⟨q0,q1,q2,q3,f0,f1,f2,f3⟩:=F.four;have x:=F.set4 (.int .i64 T) (.string m) (.slice O H G) (.slice E I L);have Hbl:=zh (gY ag (zG _) (.int .i64 T) (.string m) (.slice O H G) (.slice E I L));have D:=zh x;clear x;go_wp2_with fail;refine zw (iZ rfl rfl rfl D.out) rfl ?_;rw[Fin.out];exact⟨_,_,_,_,rfl,⟨_,_,_,_,_,_,_,_,rfl⟩,HF.out,Hbl.out⟩
     case' pos=>
      have t3:(((a[a.size-1]'av).toNat:Int)==42)=true:=by rw[u3];exact beq_iff_eq.2 hs
      have J:a.data.toList.getLast?=some 42:=by rw[y,hs]
      have al:(a.extract 0 (a.size-1)).data.toList=a.data.toList.dropLast:=by rw[Lib.extract_data,List.dropLast_eq_take,fB];rfl
      have cW:=uC (a.extract 0 (a.size-1)) C (by rw[ByteArray.size_extract];omega)
      have Fin0:Hid (fU s=if a.size=1 then some (.mk 3 d [ByteArray.empty] [])else if(words (a.extract 0 (a.size-1)).data.toList).length=1 then some (.mk 3 d ((words (a.extract 0 (a.size-1)).data.toList).map str) [])else none):=zh (by
       unfold fU
       rw[zH Hst.out,zH M.out,zH Y,←Hrs.out,zI J,fB,←Hnm.out,kQ,al])
      clear U u2 u3 hq Y hs J y al;generalize words (a.extract 0 (a.size-1)).data.toList=l at *;refine CN.out.mono ?_;rintro e w' ⟨rfl,rfl⟩;go_wp2_with fail;refine cW.mono ?_;rintro e g ⟨v,rfl,c,f⟩;obtain⟨Z,c4,rfl,_⟩:=fT c;have r:=(ReadsS.of_own c).mono (S':=fun b=>C.heap.size≤b∧b<g.heap.size) fun b hS=>⟨hS.1,hS.2.1⟩
      have ad:C.heap.size≤g.heap.size:=f.size;have t:=zh (z.out.below f o);have B:=zh (Hbk.out.trans (f.mono jo));clear c f cW;by_cases p:a.size=1
      case' pos=>
       have t5:((a.size:Int)==1)=true:=by rw[p];rfl
       have Fin:Hid (fU s=some (.mk 3 d [⟨#[]⟩] [])):=zh (by rw[Fin0.out,zI p];rfl);obtain⟨q0,q1,q2,q3,f0,f1,f2,f3⟩:=t.out.four;have aA:w.heap.size<g.heap.size:=jo;have aB:w.heap.size≠g.heap.size:=jo;have ae:=Blk.new (set4 g w.heap.size (.int .i64 3) (.string d) (.slice (some ⟨g.heap.size,0,none⟩) 1 1) (.slice none 0 0)) 9 #[.string ⟨#[]⟩];have ay:(World.heap ((set4 g w.heap.size (.int .i64 3) (.string d) (.slice (some ⟨g.heap.size,0,none⟩) 1 1) (.slice none 0 0)).alloc (.cells #[.string ⟨#[]⟩] 9))).size=g.heap.size+1:=by rw[vM,jb]
       rw[jb]at ae;have x:=(t.out.set4 (.int .i64 3) (.string d) (.slice (some ⟨g.heap.size,0,none⟩) 1 1) (.slice none 0 0)).alloc (.cells #[.string ⟨#[]⟩] 9)
       have HF:Hid (QF ((set4 g w.heap.size (.int .i64 3) (.string d) (.slice (some ⟨g.heap.size,0,none⟩) 1 1) (.slice none 0 0)).alloc (.cells #[.string ⟨#[]⟩] 9)) (fun b=>w.heap.size≤b∧b<(World.heap ((set4 g w.heap.size (.int .i64 3) (.string d) (.slice (some ⟨g.heap.size,0,none⟩) 1 1) (.slice none 0 0)).alloc (.cells #[.string ⟨#[]⟩] 9))).size) (.mk 3 d [⟨#[]⟩] []) [.int .i64 3,.string d,.slice (some ⟨g.heap.size,0,none⟩) 1 1,.slice none 0 0]):=zh
        (.mk [] rfl ⟨rfl,fun _=>⟨g.heap.size,0,rfl,⟨jo,jo⟩,fun j u hu=>by
         rw[ae.cell];match j,hu with
         | 0,hu=>simpa using hu
         | j+1,hu=>simp at hu⟩⟩ rfl rfl jz ReadsS.none_ (fun i hi=>absurd hi jz))
       have Hbl:=zh ((gY B.out (zG _) (.int .i64 3) (.string d) (.slice (some ⟨g.heap.size,0,none⟩) 1 1) (.slice none 0 0)).alloc (by rw[jb];omega) (.cells #[.string ⟨#[]⟩] 9));have D:=zh x;clear ae ay x r p;go_wp2_with fail;refine zw (iZ rfl rfl rfl D.out) rfl ?_;rw[Fin.out];exact⟨_,_,_,_,rfl,⟨_,_,_,_,_,_,_,_,rfl⟩,(fun q h=>by injection h with h;subst h;exact HF.out),Hbl.out⟩
      case' neg=>
       have t5:((a.size:Int)==1)=false:=by rw[zM];omega
       by_cases S:l.length=1
       case' pos=>
        have Fin:Hid (fU s=some (.mk 3 d (l.map str) [])):=zh (by rw[Fin0.out,zH p,zI S]);have t6:((l.length:Int)==1)=true:=by rw[S];rfl
        have hF:QF g (fun b=>C.heap.size≤b∧b<g.heap.size) (.mk 3 d (l.map str) []) [.int .i64 3,.string d,.slice Z l.length c4,.slice none 0 0]:=
         .mk [] (by rw[List.length_map]) r rfl rfl jz ReadsS.none_ (fun i hi=>absurd hi jz)
        have HF:=zh (kW (w:=w) hF o (zG _));clear hF r p S;generalize l.length=n at *;obtain⟨q0,q1,q2,q3,f0,f1,f2,f3⟩:=t.out.four;have x:=t.out.set4 (.int .i64 3) (.string d) (.slice Z n c4) (.slice none 0 0);have Hbl:=zh (gY B.out (zG _) (.int .i64 3) (.string d) (.slice Z n c4) (.slice none 0 0));have D:=zh x;clear x;go_wp2_with fail;refine zw (iZ rfl rfl rfl D.out) rfl ?_;rw[Fin.out];exact⟨_,_,_,_,rfl,⟨_,_,_,_,_,_,_,_,rfl⟩,(fun q h=>by injection h with h;subst h;exact HF.out),Hbl.out⟩
       case' neg=>
        have Fin:Hid (fU s=none):=zh (by rw[Fin0.out,zH p,zH S]);have t6:((l.length:Int)==1)=false:=by rw[zM];omega
        clear r p S;generalize l.length=n at *;obtain⟨q0,q1,q2,q3,f0,f1,f2,f3⟩:=t.out.four;have x:=t.out.set4 (.int .i64 3) (.string d) (.slice Z n c4) (.slice none 0 0);have Hbl:=zh (gY B.out (zG _) (.int .i64 3) (.string d) (.slice Z n c4) (.slice none 0 0));have D:=zh x;clear x;go_wp2_with fail;refine zw (iZ rfl rfl rfl D.out) rfl ?_;rw[Fin.out];exact⟨_,_,_,_,rfl,⟨_,_,_,_,_,_,_,_,rfl⟩,(fun q h=>by cases h),Hbl.out⟩
end Qp
end Go.Proofs.YtmomjpolkkbhnaaGreat
