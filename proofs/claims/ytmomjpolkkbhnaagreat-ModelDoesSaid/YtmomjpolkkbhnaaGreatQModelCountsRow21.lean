/- qparse: leaf: the walk (printed by gen_qpg.py). -/
import Derived.RegionTactic
import Derived.RegionDies
import Derived.Test.YtmomjpolkkbhnaaGreatQModelCountsRow3
set_option linter.unusedSimpArgs false
set_option maxRecDepth 20000
set_option maxHeartbeats 100000000
open Go.Proofs.Tryz
namespace Go.Proofs.YtmomjpolkkbhnaaGreat
namespace Qp
open Go.RowKit Ut Tk Qy
theorem eO{w W:World}{g base:Nat}{q:Q}{a0 a1 a2 a3:Value}(hF:QF W (fun b=>base≤b∧b<W.heap.size) q [a0,a1,a2,a3])(hb:g<base)(hw:w.heap.size≤g) :
  QF (set4 W g a0 a1 a2 a3) (fun b=>w.heap.size≤b∧b<(set4 W g a0 a1 a2 a3).heap.size) q [a0,a1,a2,a3]:=
 (hF.keep fun b _ hS=>vN (w:=W) (dw W g b _ _ _ _ (by have:=hS.1;omega))).mono fun b hS=>⟨by have:=hS.1;omega,by rw[dQ];exact hS.2⟩
theorem Jh(s:P):az s≤s.length:=List.findIdx_le_length
theorem Dq(s:P):dM s=decide (atC 58 (s.take (atC 34 s))<(s.take (atC 34 s)).length)∧(dM s=true→az s=atC 58 s):=by
 unfold dM az atC
 induction s with
 | nil=>exact⟨rfl,fun h=>by simp at h⟩
 | cons c t ih=>
  by_cases h1:c=58
  ·subst h1;refine⟨?_,fun _=>?_⟩
   ·simp[List.findIdx_cons]
   simp[List.findIdx_cons]
  have e1:(c==58)=false:=zM.2 h1;by_cases h2:c=34
  ·subst h2;refine⟨?_,fun h=>?_⟩
   ·simp[List.findIdx_cons]
   simp[List.findIdx_cons]at h
  have e2:(c==34)=false:=zM.2 h2;simp only[List.findIdx_cons,e1,e2,Bool.or_self,cond_false,zC,zX,zV];refine⟨?_,fun h=>?_⟩
  ·rw[ih.1];congr 1;simp
  rw[ih.2 h]
theorem pg(l:P):Lib.hasSuffix l [42]=decide (l.getLast?=some 42):=by
 unfold Lib.hasSuffix;rw[Bool.eq_iff_iff,List.isSuffixOf_iff_suffix,decide_eq_true_iff];constructor
 ·rintro⟨t,rfl⟩;simp
 intro h;obtain⟨ys,rfl⟩:=List.getLast?_eq_some_iff.1 h;exact⟨ys,rfl⟩
theorem Dr(l:P)(h:l.getLast?=some 42):Lib.trimSuffix l [42]=l.dropLast:=by
 unfold Lib.trimSuffix;rw[pg,zI (by simpa using h)];rw[List.dropLast_eq_take];rfl
theorem wH(s:P)(hq:dC s<s.length→dC s+2≤s.length)(h:(bB s).head?=some 34):2≤(bB s).length:=by
 unfold bB at h ⊢;by_cases hn:dM s=true
 ·rw[zI hn]at h ⊢;unfold dM at hn;rw[beq_iff_eq]at hn;have h1:=oO (fun c=>c==58 || c==34) s
  have hk:az s<s.length:=by
   rcases zg (az s) s.length with h|h
   ·exact h
   rw[List.getElem?_eq_none h]at hn;cases hn
  have hk1:az s+1<s.length:=by
   rcases zg (az s+1) s.length with h'|h'
   ·exact h'
   rw[List.drop_of_length_le h']at h;cases h
  have hq1:dC s=az s+1:=by
   refine kY _ s _ (fun x hx=>?_) jo (fun hlt=>?_)
   ·rw[zL hk,List.mem_append]at hx;rcases hx with hx|hx
    ·have:=h1.1 x hx;simp only[Bool.or_eq_false_iff]at this;exact this.2
    rw[List.mem_singleton]at hx;rw[zU hk,Option.some.injEq]at hn;rw[hx,hn];rfl
   rw[zc hk1,List.head?_cons,Option.some.injEq]at h;rw[h];rfl
  rw[zP];have:=hq jo;omega
 rw[zH hn]at h ⊢
 cases s with
 | nil=>cases h
 | cons c t=>
  simp only[List.head?_cons,Option.some.injEq]at h;subst h;have e:dC ((34:UInt8)::t)=0:=by simp[dC,List.findIdx_cons]
  rw[e]at hq;exact hq jz
def KP:ByteArray:=⟨#[42]⟩
theorem xG(s:P):((str s).toList == [42])=decide (s=[42]):=by
 rw[tl,bE,Bool.eq_iff_iff,beq_iff_eq,decide_eq_true_iff]
theorem Ji(g:Nat)(s:P)(hp:Pc s)(hl:s.length≤1048576)(w:World):Calls prog 176 #[.pointer (some ⟨g,0,none⟩),.string (str s)] w (yA w (aV s)):=by
 by_cases hst:s=[42]
 ·have Fin:Hid (aV s=some (.mk 1 ByteArray.empty [] [])):=zh (by unfold aV;rw[zI hst]);subst hst;have hh:=Blk.new w 60 #[.int .i64 1,.string ByteArray.empty,.slice none 0 0,.slice none 0 0];have Hbl:=zh ((zw w.heap.size w).alloc (zG _) (.cells #[.int .i64 1,.string ByteArray.empty,.slice none 0 0,.slice none 0 0] 60));have e0:(str [42]).toList=[42]:=by rw[tl,bE]
  clear hp hl;go_enter func176,ntmps176;go_wp2_with fail;refine zu (aA rfl rfl (zr _ w.heap.size 60 60 #[.int .i64 1,.string ByteArray.empty,.slice none 0 0,.slice none 0 0] (0,0) _ hh underlying60 rfl jk)) rfl ?_;rw[Fin.out];exact⟨_,_,_,_,rfl,.mk [] rfl (by simpa using ReadsS.none_) rfl rfl jz ReadsS.none_ (fun i hi=>absurd hi jz),Hbl.out⟩
 have e0:((str s).toList == [42])=false:=by rw[xG];simpa using hst
 have hsz:(str s).size≤1048576:=by rw[←aB,bE];exact hl
 have hb0:=(zw w.heap.size w).alloc (zG _) (.cells #[.int .i64 0,.string ByteArray.empty,.slice none 0 0,.slice none 0 0] 60);have hB0:=Blk.new w 60 #[.int .i64 0,.string ByteArray.empty,.slice none 0 0,.slice none 0 0];have hz0:(w.alloc (.cells #[.int .i64 0,.string ByteArray.empty,.slice none 0 0,.slice none 0 0] 60)).heap.size=w.heap.size+1:=jz;have c0:=DN 34 (str s) (w.alloc (.cells #[.int .i64 0,.string ByteArray.empty,.slice none 0 0,.slice none 0 0] 60)) hsz;have hni:=Dq s;have Hq:=zh hp.qt;have hh34:(gZ 34 (str s)).data.toList=s.take (atC 34 s):=by rw[Bf,bE]
 have hhas:nU 58 (gZ 34 (str s))=dM s:=by
  unfold nU;rw[hh34,hni.1,←aB,hh34]
 have Hhas:=zh hhas;have Hni:=zh hni.2;have Hb0:=zh hb0;have HB0:=zh hB0;have Hz0:=zh hz0;have Hst:=zh hst;have Hne:=zh hp.ne;clear hni hp hb0 hB0 hz0 hhas hh34 hst;go_enter func176,ntmps176;go_wp2_with fail;refine c0.mono ?_;rintro e w1 ⟨y,b1,rfl,hb1⟩;have hsz1:w.heap.size<w1.heap.size:=by have:=hb1.size;rw[Hz0.out]at this;omega
 have HB1:=zh (HB0.out.below hb1 (by rw[Hz0.out];omega));have Hb1:=zh (Hb0.out.trans (hb1.mono (by rw[Hz0.out];omega)));have c1:=DR 58 (gZ 34 (str s)) w1;rw[Hhas.out]at c1;clear hb1 c0;generalize gZ 34 (str s)=hd at *;go_wp2_with fail;refine c1.mono ?_;rintro e w' ⟨rfl,rfl⟩;clear c1 Hhas;by_cases hn:dM s=true
 case' pos=>
  have hat:atC 58 (str s).data.toList<(str s).size:=by
   rw[bE,←aB,bE,←Hni.out hn];unfold dM at hn;rw[beq_iff_eq]at hn;rcases zg (az s) s.length with h|h
   ·exact h
   rw[List.getElem?_eq_none h]at hn;cases hn
  have c2:=vB 58 (str s) w1 hsz hat;have Hnm:Hid ((fK 58 (str s)).data.toList=dX s):=zh (by unfold dX;rw[zI hn,uI,bE,Hni.out hn]);have Hrs:Hid ((fL 58 (str s)).data.toList=bB s):=zh (by unfold bB;rw[zI hn,DI,bE,Hni.out hn]);have hnz:(fK 58 (str s)).size≤1048576:=by have:=DJ 58 (str s);omega
  have hrz:(fL 58 (str s)).size≤1048576:=by have:=DK 58 (str s);omega
  clear hat Hni;generalize fK 58 (str s)=nm at *;generalize fL 58 (str s)=rs at *;go_wp2_with fail;refine c2.mono ?_;rintro e wk ⟨rfl,hb2⟩;have hszk:w.heap.size<wk.heap.size:=zT hsz1 hb2.size;have HBk:=zh (HB1.out.below hb2 hsz1);have Hbk:=zt Hb1 hb2;clear c2 hb2 HB1 Hb1 hsz1 HB0 Hb0;go_wp2_with fail
 case' neg=>
  have hn':dM s=false:=by simpa using hn
  have hszk:=hsz1;have HBk:=HB1;have Hbk:=Hb1;clear HB1 Hb1 hsz1 HB0 Hb0;rename World=>wk
  go_wp2_with fail;generalize hnm:(⟨#[109,115,103]⟩:ByteArray)=nm;have Hnm:Hid (nm.data.toList=dX s):=zh (by unfold dX;rw[zH hn,←hnm];rfl);have hnz:nm.size≤1048576:=by rw[←hnm];decide
  obtain⟨rs,hrs⟩:∃rs,rs=str s:=⟨_,rfl⟩;have Hrs:Hid (rs.data.toList=bB s):=zh (by unfold bB;rw[zH hn,hrs,bE]);have hrz:rs.size≤1048576:=by rw[hrs];exact hsz
  rw[←hrs];clear hrs hnm Hni
 all_goals
  have cN:=fun wx=>Be nm wx hnz
  have CN:=zh cN;clear cN;by_cases hN:isN nm.data.toList=true
  case' neg=>
   have hN':isN nm.data.toList=false:=by simpa using hN
   have Fin:Hid (aV s=none):=zh (by unfold aV;rw[zH Hst.out,zI (by rw[←Hnm.out,←Hrs.out];exact .inl hN')]);rw[hN']at CN;refine dm 9 (aI [(4,⟨Unit,fun _=>(.bool false),fun _ _=>True⟩)]) (fun wx=>zWW wk wx) (fun w1 w2=>zWW w1 w2) jk jk (aN (fun _ _ _ _ _=>trivial) (aX)) ((zw _ _).drew) ?_;simp only[zX,List.take_zero,zm,List.drop_zero]
   iterate 4
    refine aH _ ?_ rfl jr jr (fun wx hC hD=>?_) ?_;rotate_left
    ·go_simp;all_goals with_reducible rfl
    try simp only[Act.put,zD,zE,zF]
   refine ae 5 _ rfl jr jr (fun wx hC hD=>?_) (fun x=>?_)
   ·refine aZ (f:=?_) (args:=?_) ?_ ?_;rotate_left 2
    ·go_simp;all_goals first|with_reducible rfl|(refine⟨?_,?_⟩<;>with_reducible rfl)
    exact cz hC (CN.out wx)
   obtain⟨⟩:=x;try simp only[Act.put,zD,zE,zF]
   refine aH 6 ?_ rfl jr jr (fun wx hC hD=>?_) ?_;rotate_left
   ·go_simp;all_goals with_reducible rfl
   try simp only[Act.put,zD,zE,zF]
   refine aS 7 (some false) true rfl jr jr jr ?_;try simp only[Act.put,zD,zE,zF]
   refine aS 8 (some false) true rfl jr jr jr ?_;try simp only[Act.put,zD,zE,zF]
   refine aH 9 ?_ rfl jr jr (fun wx hC hD=>?_) ?_;rotate_left
   ·go_simp;all_goals with_reducible rfl
   try simp only[Act.put,zD,zE,zF]
   refine ah (fun wn hC hF=>?_);have hbn:=Hid.out (zh hC);clear hF hC;go_wp2_with (go_at_call 98;refine(fU g _).mono ?_;rintro e w' ⟨rfl,rfl⟩);exact⟨rfl,by rw[Fin.out];exact⟨rfl,Hbk.out.trans (hbn.mono jo)⟩⟩
  case' pos=>
   rw[hN]at CN;by_cases hr:rs.size=0
   case' pos=>
    have hre:rs.data.toList=[]:=qm rs hr;have hre2:rs.toList.isEmpty=true:=by rw[tl,hre];rfl
    have hre3:rs.toList=[]:=by rw[tl,hre]
    have Fin:Hid (aV s=none):=zh (by unfold aV;rw[zH Hst.out,zI (by rw[←Hnm.out,←Hrs.out];exact .inr hre)]);clear hre;refine dm 9 (aI [(4,⟨Unit,fun _=>(.bool true),fun _ _=>True⟩)]) (fun wx=>zWW wk wx) (fun w1 w2=>zWW w1 w2) jk jk (aN (fun _ _ _ _ _=>trivial) (aX)) ((zw _ _).drew) ?_;simp only[zX,List.take_zero,zm,List.drop_zero]
    iterate 4
     refine aH _ ?_ rfl jr jr (fun wx hC hD=>?_) ?_;rotate_left
     ·go_simp;all_goals with_reducible rfl
     try simp only[Act.put,zD,zE,zF]
    refine ae 5 _ rfl jr jr (fun wx hC hD=>?_) (fun x=>?_)
    ·refine aZ (f:=?_) (args:=?_) ?_ ?_;rotate_left 2
     ·go_simp;all_goals first|with_reducible rfl|(refine⟨?_,?_⟩<;>with_reducible rfl)
     exact cz hC (CN.out wx)
    obtain⟨⟩:=x;try simp only[Act.put,zD,zE,zF]
    iterate 4
     refine aH _ ?_ rfl jr jr (fun wx hC hD=>?_) ?_;rotate_left
     ·go_simp;all_goals with_reducible rfl
     try simp only[Act.put,zD,zE,zF]
    refine ah (fun wn hC hF=>?_);have hbn:=Hid.out (zh hC);clear hF hC;go_wp2_with (go_at_call 98;refine(fU g _).mono ?_;rintro e w' ⟨rfl,rfl⟩);exact⟨rfl,by rw[Fin.out];exact⟨rfl,Hbk.out.trans (hbn.mono jo)⟩⟩
   case' neg=>
    have hr1:0<rs.size:=jo;have hre2:rs.toList.isEmpty=false:=by rw[tl,xD rs hr1];rfl
    refine dm 9 (aI [(4,⟨Unit,fun _=>(.bool true),fun _ _=>True⟩)]) (fun wx=>zWW wk wx) (fun w1 w2=>zWW w1 w2) jk jk (aN (fun _ _ _ _ _=>trivial) (aX)) ((zw _ _).drew) ?_;simp only[zX,List.take_zero,zm,List.drop_zero]
    iterate 4
     refine aH _ ?_ rfl jr jr (fun wx hC hD=>?_) ?_;rotate_left
     ·go_simp;all_goals with_reducible rfl
     try simp only[Act.put,zD,zE,zF]
    refine ae 5 _ rfl jr jr (fun wx hC hD=>?_) (fun x=>?_)
    ·refine aZ (f:=?_) (args:=?_) ?_ ?_;rotate_left 2
     ·go_simp;all_goals first|with_reducible rfl|(refine⟨?_,?_⟩<;>with_reducible rfl)
     exact cz hC (CN.out wx)
    obtain⟨⟩:=x;try simp only[Act.put,zD,zE,zF]
    iterate 4
     refine aH _ ?_ rfl jr jr (fun wx hC hD=>?_) ?_;rotate_left
     ·go_simp;all_goals with_reducible rfl
     try simp only[Act.put,zD,zE,zF]
    refine ah (fun wn hC hF=>?_);have hbn:=Hid.out (zh hC);clear hF hC;have hszn:w.heap.size<wn.heap.size:=zT hszk hbn.size;have HBn:=zh (HBk.out.below hbn hszk);have Hbn:=zh (Hbk.out.trans (hbn.mono jo));clear hbn HBk Hbk CN hre2;have hh:rs.data.toList.head?=some rs[0]:=by rw[←fV rs 0 hr1];cases rs.data.toList<;>rfl
    have u2:=bU rs[0] 34;rw[show (UInt8.toNat 34:Int)=34 from rfl]at u2
    have hrne:Hid (¬(isN (dX s)=false∨bB s=[])):=zh (by
     rw[←Hnm.out,←Hrs.out,hN];rintro(h|h)
     ·cases h
     rw[h]at hh;cases hh)
    by_cases hq:rs[0]=34
    case' pos=>
     have t2:((rs[0].toNat:Int)==34)=true:=by rw[u2];exact beq_iff_eq.2 hq
     have h2:2≤rs.size:=by
      have:=wH s Hq.out (by rw[←Hrs.out,hh,hq]);rw[←Hrs.out,aB]at this;exact this
     have h2i:(1:Int)≤(rs.size:Int)-1:=jo;have c3:=xE g nm (rs.extract 1 (rs.size-1)) wn (by rw[ByteArray.size_extract];omega)
     have Fin:Hid (aV s=bN nm.data.toList (words (rs.extract 1 (rs.size-1)).data.toList)):=zh (by
      unfold aV
      rw[zH Hst.out,zH hrne.out,←Hrs.out,hh,hq,zI rfl,←Hnm.out,Lib.extract_data,aB,List.drop_take])
     clear hh u2 hq;generalize bN nm.data.toList (words (rs.extract 1 (rs.size-1)).data.toList)=oq at *;go_wp2_with (go_at_call 98;refine(gM g _).mono ?_;rintro e w' ⟨rfl,rfl⟩);refine c3.mono ?_;intro e w3 hpost
     cases oq with
     | none=>
      obtain⟨rfl,hb3⟩:=hpost;have hb3':=Hid.out (zh hb3);clear hb3;unfold eu;exact⟨rfl,by rw[Fin.out];exact⟨rfl,Hbn.out.trans (hb3'.mono jo)⟩⟩
     | some q=>
      obtain⟨a0,a1,a2,a3,rfl,hF,hb3⟩:=hpost;have HB3:=HBn.out.below hb3 hszn;obtain⟨q0,q1,q2,q3,f0,f1,f2,f3⟩:=HB3.four;obtain⟨A',n',c',C',m',d',e4⟩:=hF.four;simp only[zQ,and_true]at e4;obtain⟨rfl,rfl,rfl,rfl⟩:=e4;have hh:=HB3.set4 (.int .i64 q.kind) (.string q.name) (.slice A' n' c') (.slice C' m' d');have HF:=zh (eO (w:=w) hF hszn (zG _));have Hbl:=zh (bP (Hbn.out.trans (hb3.mono jo)) (zG _) (.int .i64 q.kind) (.string q.name) (.slice A' n' c') (.slice C' m' d'));have Hh:=zh hh;clear hF hb3 HB3 hh;go_wp2_with fail;refine zu (aA rfl rfl (zr _ w.heap.size 60 60 #[.int .i64 q.kind,.string q.name,.slice A' n' c',.slice C' m' d'] (0,0) _ Hh.out underlying60 rfl jk)) rfl ?_;rw[Fin.out];exact⟨_,_,_,_,rfl,HF.out,Hbl.out⟩
    case' neg=>
     have t2:((rs[0].toNat:Int)==34)=false:=by rw[u2];exact zM.2 hq
     have cc:Calls prog 197 #[.string rs,.string ⟨#[42]⟩] wn fun e w'=>e=.returned (.tuple #[.string (str (Lib.trimSuffix rs.data.toList [42])),.bool (Lib.hasSuffix rs.data.toList [42])])∧wn=w':=
      (Tryz.strings_CutSuffix rs KP wn jo).mono fun _ _ h=>⟨h.1,h.2.symm⟩
     have hqn:¬(bB s).head?=some 34:=by rw[←Hrs.out,hh];simpa using hq
     by_cases hs:rs.data.toList.getLast?=some 42
     case' neg=>
      have e5:Lib.hasSuffix rs.data.toList [42]=false:=by rw[pg];simpa using hs
      rw[e5]at cc;have c3:=xE g nm rs wn hrz
      have Fin:Hid (aV s=bN nm.data.toList (words rs.data.toList)):=zh (by
       unfold aV
       rw[zH Hst.out,zH hrne.out,zH hqn,←Hrs.out,zH hs,←Hnm.out])
      clear hh u2 hq hqn hs e5;generalize Lib.trimSuffix rs.data.toList [42]=tr at *;generalize bN nm.data.toList (words rs.data.toList)=oq at *
      go_wp2_with (first
       | (go_at_call 98;refine(gM g _).mono ?_;rintro e w' ⟨rfl,rfl⟩)
       | (go_at_call 197;refine cc.mono ?_;rintro e w' ⟨rfl,rfl⟩))
      refine c3.mono ?_;intro e w3 hpost
      cases oq with
      | none=>
       obtain⟨rfl,hb3⟩:=hpost;have hb3':=Hid.out (zh hb3);clear hb3;unfold eu;exact⟨rfl,by rw[Fin.out];exact⟨rfl,Hbn.out.trans (hb3'.mono jo)⟩⟩
      | some q=>
       obtain⟨a0,a1,a2,a3,rfl,hF,hb3⟩:=hpost;have HB3:=HBn.out.below hb3 hszn;obtain⟨q0,q1,q2,q3,f0,f1,f2,f3⟩:=HB3.four;obtain⟨A',n',c',C',m',d',e4⟩:=hF.four;simp only[zQ,and_true]at e4;obtain⟨rfl,rfl,rfl,rfl⟩:=e4;have hh:=HB3.set4 (.int .i64 q.kind) (.string q.name) (.slice A' n' c') (.slice C' m' d');have HF:=zh (eO (w:=w) hF hszn (zG _));have Hbl:=zh (bP (Hbn.out.trans (hb3.mono jo)) (zG _) (.int .i64 q.kind) (.string q.name) (.slice A' n' c') (.slice C' m' d'));have Hh:=zh hh;clear hF hb3 HB3 hh;go_wp2_with fail;refine zu (aA rfl rfl (zr _ w.heap.size 60 60 #[.int .i64 q.kind,.string q.name,.slice A' n' c',.slice C' m' d'] (0,0) _ Hh.out underlying60 rfl jk)) rfl ?_;rw[Fin.out];exact⟨_,_,_,_,rfl,HF.out,Hbl.out⟩
     case' pos=>
      have e5:Lib.hasSuffix rs.data.toList [42]=true:=by rw[pg];simpa using hs
      rw[e5,Dr _ hs]at cc;have hdl:rs.data.toList.dropLast.length=rs.size-1:=by rw[List.length_dropLast,aB]
      have hz5:(str rs.data.toList.dropLast).size≤1048576:=by rw[←aB,bE,hdl];omega
      have c4:=uG (str rs.data.toList.dropLast) wn hz5;rw[bE]at c4
      have Fin0:Hid (aV s=if rs.size=1 then some (.mk 3 nm [ByteArray.empty] [])else if(words rs.data.toList.dropLast).length=1 then some (.mk 3 nm ((words rs.data.toList.dropLast).map str) [])else none):=zh (by
       unfold aV
       rw[zH Hst.out,zH hrne.out,zH hqn,←Hrs.out,zI hs,aB,←Hnm.out,fE])
      have hwl:=iW (str rs.data.toList.dropLast);rw[bE]at hwl
      have Hem:Hid (rs.size=1→(str rs.data.toList.dropLast).toList=[]):=zh (fun h=>by
       rw[tl,bE];exact List.length_eq_zero_iff.1 (by rw[hdl];omega))
      have Hnem:Hid (rs.size≠1→(str rs.data.toList.dropLast).toList.isEmpty=false):=zh (fun h=>by
       rw[tl,bE]
       cases hd5:rs.data.toList.dropLast with
       | nil=>rw[hd5]at hdl;simp at hdl;omega
       | cons a b=>rfl)
      clear hh u2 hq hqn hs e5 hdl;generalize words rs.data.toList.dropLast=l at *;generalize str rs.data.toList.dropLast=bg at *
      go_wp2_with (first
       | (go_at_call 98;refine(gM g _).mono ?_;rintro e w' ⟨rfl,rfl⟩)
       | (go_at_call 197;refine cc.mono ?_;rintro e w' ⟨rfl,rfl⟩))
      refine c4.mono ?_;rintro e w3 ⟨v,rfl,hown,hb3⟩;obtain⟨A,c,rfl,_⟩:=aU hown;have hR:=(ReadsS.of_own hown).mono (S':=fun b=>wn.heap.size≤b∧b<w3.heap.size) fun b hS=>⟨hS.1,hS.2.1⟩
      have hsz3:wn.heap.size≤w3.heap.size:=hb3.size;have HB3:=zh (HBn.out.below hb3 hszn);have Hb3:=zh (Hbn.out.trans (hb3.mono jo));have HR:=zh hR;clear hown hR hb3 c4 cc;by_cases hr1':rs.size=1
      ·have hbe:=Hem.out hr1';have Fin:Hid (aV s=some (.mk 3 nm [⟨#[]⟩] [])):=zh (by rw[Fin0.out,zI hr1'];rfl);obtain⟨q0,q1,q2,q3,f0,f1,f2,f3⟩:=HB3.out.four;have hlt3:w.heap.size<w3.heap.size:=jo;have hne3:w.heap.size≠w3.heap.size:=jo;have hNx:=Blk.new (set4 w3 w.heap.size (.int .i64 3) (.string nm) (.slice (some ⟨w3.heap.size,0,none⟩) 1 1) (.slice none 0 0)) 9 #[.string ⟨#[]⟩];have hzx:(World.heap ((set4 w3 w.heap.size (.int .i64 3) (.string nm) (.slice (some ⟨w3.heap.size,0,none⟩) 1 1) (.slice none 0 0)).alloc (.cells #[.string ⟨#[]⟩] 9))).size=w3.heap.size+1:=by rw[vK,dQ]
       rw[dQ]at hNx;have hh:=(HB3.out.set4 (.int .i64 3) (.string nm) (.slice (some ⟨w3.heap.size,0,none⟩) 1 1) (.slice none 0 0)).alloc (.cells #[.string ⟨#[]⟩] 9)
       have HF:Hid (QF ((set4 w3 w.heap.size (.int .i64 3) (.string nm) (.slice (some ⟨w3.heap.size,0,none⟩) 1 1) (.slice none 0 0)).alloc (.cells #[.string ⟨#[]⟩] 9)) (fun b=>w.heap.size≤b∧b<(World.heap ((set4 w3 w.heap.size (.int .i64 3) (.string nm) (.slice (some ⟨w3.heap.size,0,none⟩) 1 1) (.slice none 0 0)).alloc (.cells #[.string ⟨#[]⟩] 9))).size) (.mk 3 nm [⟨#[]⟩] []) [.int .i64 3,.string nm,.slice (some ⟨w3.heap.size,0,none⟩) 1 1,.slice none 0 0]):=zh
        (.mk [] rfl ⟨rfl,fun _=>⟨w3.heap.size,0,rfl,⟨jo,jo⟩,fun j u hu=>by
         rw[hNx.cell];match j,hu with
         | 0,hu=>simpa using hu
         | j+1,hu=>simp at hu⟩⟩ rfl rfl jz ReadsS.none_ (fun i hi=>absurd hi jz))
       have Hbl:=zh ((bP Hb3.out (zG _) (.int .i64 3) (.string nm) (.slice (some ⟨w3.heap.size,0,none⟩) 1 1) (.slice none 0 0)).alloc (by rw[dQ];omega) (.cells #[.string ⟨#[]⟩] 9));have Hh:=zh hh;clear hNx hzx hh HR Hem Hnem hr1';go_wp2_with (go_at_call 98;refine(gM g _).mono ?_;rintro e w' ⟨rfl,rfl⟩);refine zu (aA rfl rfl (zr _ w.heap.size 60 60 #[.int .i64 3,.string nm,.slice (some ⟨w3.heap.size,0,none⟩) 1 1,.slice none 0 0] (0,0) _ Hh.out underlying60 rfl jk)) rfl ?_;rw[Fin.out];exact⟨_,_,_,_,rfl,HF.out,Hbl.out⟩
      have hbe:=Hnem.out hr1';by_cases hl1:l.length=1
      ·have Fin:Hid (aV s=some (.mk 3 nm (l.map str) [])):=zh (by rw[Fin0.out,zH hr1',zI hl1]);obtain⟨q0,q1,q2,q3,f0,f1,f2,f3⟩:=HB3.out.four;generalize hn0:l.length=n at *;have Hn0:=zh hn0;have hh:=HB3.out.set4 (.int .i64 3) (.string nm) (.slice A n c) (.slice none 0 0)
       have hF:QF w3 (fun b=>wn.heap.size≤b∧b<w3.heap.size) (.mk 3 nm (l.map str) []) [.int .i64 3,.string nm,.slice A n c,.slice none 0 0]:=
        .mk [] (by rw[List.length_map];exact hn0) HR.out rfl rfl jz ReadsS.none_ (fun i hi=>absurd hi jz)
       have HF:=zh (eO (w:=w) hF hszn (zG _));have Hbl:=zh (bP Hb3.out (zG _) (.int .i64 3) (.string nm) (.slice A n c) (.slice none 0 0));have Hh:=zh hh;have hl1':((n:Int)==1)=true:=by rw[hl1];rfl
       clear hF hh HR Hem Hnem hr1' hn0 hl1;go_wp2_with (go_at_call 98;refine(gM g _).mono ?_;rintro e w' ⟨rfl,rfl⟩);refine zu (aA rfl rfl (zr _ w.heap.size 60 60 #[.int .i64 3,.string nm,.slice A n c,.slice none 0 0] (0,0) _ Hh.out underlying60 rfl jk)) rfl ?_;rw[Fin.out];exact⟨_,_,_,_,rfl,HF.out,Hbl.out⟩
      have Fin:Hid (aV s=none):=zh (by rw[Fin0.out,zH hr1',zH hl1]);have hl1':((l.length:Int)==1)=false:=by rw[zM];omega
      clear HR Hem Hnem hr1' hl1;generalize l.length=n at *;go_wp2_with (go_at_call 98;refine(fU g _).mono ?_;rintro e w' ⟨rfl,rfl⟩);exact⟨rfl,by rw[Fin.out];exact⟨rfl,Hb3.out⟩⟩
end Qp

namespace Qp
open Go.RowKit Ut Tk Qy
def Jj(B:Nat)(w:World)(g:Nat)(o:Option (Q × List P))(e:Ending)(w':World):Prop:=
 match o with
 | some (q,r)=>∃a0 a1 a2 a3,e=.returned (.agg #[a0,a1,a2,a3])∧QF w' (fun b=>w.heap.size≤b∧b<w'.heap.size) q [a0,a1,a2,a3]∧Rd B w' g r∧w.grownBy w' (some g)
 | none=>e=eu∧w.grownBy w' (some g)
def kI(B:Nat)(w:World)(g:Nat)(m:Md)(l:List P)(e:Ending)(w':World):Prop:=∃o,R m l o∧Jj B w g o e w'
def kM(l:List P):Prop:=∀x∈l,Pc x∧x.length≤1048576
def dY(l:List P):Prop:=∀(B:Nat) (w:World) (g:Nat),Rd B w g l→Calls prog 152 #[.pointer (some ⟨g,0,none⟩)] w (kI B w g .part l)
def iw(l:List P):Prop:=∀(B:Nat) (w:World) (g:Nat),Rd B w g l→Calls prog 125 #[.pointer (some ⟨g,0,none⟩)] w (kI B w g (.and []) l)
def rH(l:List P):Prop:=∀(B:Nat) (w:World) (g:Nat),Rd B w g l→Calls prog 97 #[.pointer (some ⟨g,0,none⟩)] w (kI B w g (.or []) l)
theorem gH(w:World)(g:Nat)(a b c d:Value):w.grownBy (set4 w g a b c d) (some g):=
 ⟨rfl,rfl,rfl,by rw[dQ];exact zG _,fun k _ hk=>dw w g k a b c d (fun e=>hk (by rw[e]))⟩
theorem aF(s:P)(l:P):((str s).toList==l)=decide (s=l):=by
 rw[tl,bE,Bool.eq_iff_iff,beq_iff_eq,decide_eq_true_iff]
def W0(w:World):World:=w.alloc (.cells #[.int .i64 0,.string ByteArray.empty,.slice none 0 0,.slice none 0 0] 60)
theorem iH(w:World):(W0 w).heap.size=w.heap.size+1:=by simp[W0]
theorem iI(w:World):Blk (W0 w) w.heap.size 60 #[.int .i64 0,.string ByteArray.empty,.slice none 0 0,.slice none 0 0]:=Blk.new w _ _
theorem dA(w:World):zWW w (W0 w):=zRR _
theorem _root_.Go.Proofs.YtmomjpolkkbhnaaGreat.Blk.keep4{w w':World}{b g:Nat}{t:TypeId}{cs:Array Value}(h:Blk w b t cs)(hg:w.grownBy w' (some g))(hne:b≠g):Blk w' b t cs:=h.grown hg (fun e=>hne (by injection e))
theorem mL:dY []:=by
 intro B w g hR;have c0:=wG B (W0 w) g (hR.below (dA w));have hb0:=zh (dA w);clear hR;unfold W0 at c0;go_enter func152,ntmps152
 go_wp2_with (first
  | (go_at_call 127;refine c0.mono ?_;rintro e w' ⟨rfl,rfl⟩)
  | (go_at_call 98;refine(fU g _).mono ?_;rintro e w' ⟨rfl,rfl⟩))
 exact⟨rfl,none,.pnil,rfl,aJ hb0.out _⟩
theorem Dt(s:P)(t:List P)(hs:iq s=true)(hp:Pc s)(hl:s.length≤1048576):dY (s::t):=by
 intro B w g hR;have hgl:=hR.lt;have c0:=gK B (W0 w) g s t (hR.below (dA w));have hb0:=zh (dA w);have HB0:=zh (iI w);have hz0:=iH w;have he:=gT s (hR.ne s jz);have fNOT:((str s).toList == [78,79,84])=false:=by rw[aF];exact zN (fun e=>by rw[e]at hs;exact absurd hs jd)
 have fLP:((str s).toList == [40])=false:=by rw[aF];exact zN (fun e=>by rw[e]at hs;exact absurd hs jd)
 have fRP:((str s).toList == [41])=false:=by rw[aF];exact zN (fun e=>by rw[e]at hs;exact absurd hs jd)
 have fAND:((str s).toList == [65,78,68])=false:=by rw[aF];exact zN (fun e=>by rw[e]at hs;exact absurd hs jd)
 have fOR:((str s).toList == [79,82])=false:=by rw[aF];exact zN (fun e=>by rw[e]at hs;exact absurd hs jd)
 have hlow:=hR.low;clear hR;generalize hW:W0 w=v0 at *;have HW:=zh hW;unfold W0 at hW;have HH:=zh (R.pleaf (t:=t) hs);clear hs;subst hW;have c1:=fun wx=>Ji g s hp hl wx
 generalize aV s=oq at *;have C1:=zh c1;clear c1 hp hl;go_enter func152,ntmps152;go_wp2_with fail;refine c0.mono ?_;rintro e w1 ⟨rfl,hRd,hg1⟩;have hlt:w.heap.size<w1.heap.size:=by have:=hg1.size;rw[hz0]at this;omega
 have HB1:=zh (HB0.out.keep4 hg1 jo);have hbw1:w.grownBy w1 (some g):=aW (aJ hb0.out _) hg1;have Hbw1:=zh hbw1;have HRd:=zh hRd;clear hg1 hbw1 hRd HB0 hb0 c0;go_wp2_with fail;refine(C1.out w1).mono ?_;intro e w3 hpost;clear C1
 cases oq with
 | none=>
  obtain⟨rfl,hb3⟩:=hpost;have hb3':=zh hb3;clear hb3;unfold eu;exact⟨rfl,none,HH.out,rfl,aW Hbw1.out (aJ hb3'.out _)⟩
 | some q=>
  obtain⟨a0,a1,a2,a3,rfl,hF,hb3⟩:=hpost;have HB3:=HB1.out.below hb3 hlt;obtain⟨q0,q1,q2,q3,f0,f1,f2,f3⟩:=HB3.four;obtain⟨A',n',c',C',m',d',e4⟩:=hF.four;simp only[zQ,and_true]at e4;obtain⟨rfl,rfl,rfl,rfl⟩:=e4;have hh:=HB3.set4 (.int .i64 q.kind) (.string q.name) (.slice A' n' c') (.slice C' m' d');have HF:=zh (eO (w:=w) hF hlt (zG _));have hg4:=gH w3 w.heap.size (.int .i64 q.kind) (.string q.name) (.slice A' n' c') (.slice C' m' d');have HR3:=zh ((HRd.out.below hb3).other hg4 (fun b e=>by injection e with e;omega));have Hg:=zh (fP (aW Hbw1.out (aJ hb3 _)) hg4 (fun b e=>by injection e with e;omega));have Hh:=zh hh;clear hF hb3 HB3 hh hg4;go_wp2_with fail;refine zu (aA rfl rfl (zr _ w.heap.size 60 60 #[.int .i64 q.kind,.string q.name,.slice A' n' c',.slice C' m' d'] (0,0) _ Hh.out underlying60 rfl jk)) rfl ?_;exact⟨_,HH.out,_,_,_,_,rfl,HF.out,HR3.out,Hg.out⟩
theorem IE(t:List P):dY (RP::t):=by
 intro B w g hR;have hgl:=hR.lt;have c0:=gK B (W0 w) g RP t (hR.below (dA w));have hb0:=zh (dA w);have HB0:=zh (iI w);have hz0:=iH w;have he:=gT RP (hR.ne RP jz);have fNOT:((str RP).toList == [78,79,84])=false:=by rw[aF];decide
 have fLP:((str RP).toList == [40])=false:=by rw[aF];decide
 have fRP:((str RP).toList == [41])=true:=by rw[aF];decide
 have fAND:((str RP).toList == [65,78,68])=false:=by rw[aF];decide
 have fOR:((str RP).toList == [79,82])=false:=by rw[aF];decide
 have hlow:=hR.low;clear hR;generalize hW:W0 w=v0 at *;have HW:=zh hW;unfold W0 at hW;subst hW;clear hz0 hlow HB0;go_enter func152,ntmps152
 go_wp2_with (first
  | (go_at_call 127;refine c0.mono ?_;rintro e w1 ⟨rfl,hRd,hg1⟩;have Hg1:=zh hg1;clear hRd hg1)
  | (go_at_call 98;refine(fU g _).mono ?_;rintro e w' ⟨rfl,rfl⟩))
 exact⟨rfl,none,.pbad (.inl rfl),rfl,aW (aJ hb0.out _) Hg1.out⟩
theorem FV(t:List P):dY (AND::t):=by
 intro B w g hR;have hgl:=hR.lt;have c0:=gK B (W0 w) g AND t (hR.below (dA w));have hb0:=zh (dA w);have HB0:=zh (iI w);have hz0:=iH w;have he:=gT AND (hR.ne AND jz);have fNOT:((str AND).toList == [78,79,84])=false:=by rw[aF];decide
 have fLP:((str AND).toList == [40])=false:=by rw[aF];decide
 have fRP:((str AND).toList == [41])=false:=by rw[aF];decide
 have fAND:((str AND).toList == [65,78,68])=true:=by rw[aF];decide
 have fOR:((str AND).toList == [79,82])=false:=by rw[aF];decide
 have hlow:=hR.low;clear hR;generalize hW:W0 w=v0 at *;have HW:=zh hW;unfold W0 at hW;subst hW;clear hz0 hlow HB0;go_enter func152,ntmps152
 go_wp2_with (first
  | (go_at_call 127;refine c0.mono ?_;rintro e w1 ⟨rfl,hRd,hg1⟩;have Hg1:=zh hg1;clear hRd hg1)
  | (go_at_call 98;refine(fU g _).mono ?_;rintro e w' ⟨rfl,rfl⟩))
 exact⟨rfl,none,.pbad (.inr (.inl rfl)),rfl,aW (aJ hb0.out _) Hg1.out⟩
theorem IG(t:List P):dY (OR::t):=by
 intro B w g hR;have hgl:=hR.lt;have c0:=gK B (W0 w) g OR t (hR.below (dA w));have hb0:=zh (dA w);have HB0:=zh (iI w);have hz0:=iH w;have he:=gT OR (hR.ne OR jz);have fNOT:((str OR).toList == [78,79,84])=false:=by rw[aF];decide
 have fLP:((str OR).toList == [40])=false:=by rw[aF];decide
 have fRP:((str OR).toList == [41])=false:=by rw[aF];decide
 have fAND:((str OR).toList == [65,78,68])=false:=by rw[aF];decide
 have fOR:((str OR).toList == [79,82])=true:=by rw[aF];decide
 have hlow:=hR.low;clear hR;generalize hW:W0 w=v0 at *;have HW:=zh hW;unfold W0 at hW;subst hW;clear hz0 hlow HB0;go_enter func152,ntmps152
 go_wp2_with (first
  | (go_at_call 127;refine c0.mono ?_;rintro e w1 ⟨rfl,hRd,hg1⟩;have Hg1:=zh hg1;clear hRd hg1)
  | (go_at_call 98;refine(fU g _).mono ?_;rintro e w' ⟨rfl,rfl⟩))
 exact⟨rfl,none,.pbad (.inr (.inr rfl)),rfl,aW (aJ hb0.out _) Hg1.out⟩
theorem FW(t:List P)(ih:dY t):dY (NOT::t):=by
 intro B w g hR;have hgl:=hR.lt;have c0:=gK B (W0 w) g NOT t (hR.below (dA w));have hb0:=zh (dA w);have HB0:=zh (iI w);have hz0:=iH w;have he:=gT NOT (hR.ne NOT jz);have fNOT:((str NOT).toList == [78,79,84])=true:=by rw[aF];decide
 have fLP:((str NOT).toList == [40])=false:=by rw[aF];decide
 have fRP:((str NOT).toList == [41])=false:=by rw[aF];decide
 have fAND:((str NOT).toList == [65,78,68])=false:=by rw[aF];decide
 have fOR:((str NOT).toList == [79,82])=false:=by rw[aF];decide
 have hlow:=hR.low;clear hR;generalize hW:W0 w=v0 at *;have HW:=zh hW;unfold W0 at hW;subst hW;go_enter func152,ntmps152;go_wp2_with fail;refine c0.mono ?_;rintro e w1 ⟨rfl,hRd,hg1⟩;have hlt:w.heap.size<w1.heap.size:=by have:=hg1.size;rw[hz0]at this;omega
 have HB1:=zh (HB0.out.keep4 hg1 jo);have Hbw1:=zh (aW (aJ hb0.out _) hg1);have c1:=ih B w1 g hRd;clear hg1 hRd HB0 hb0 c0;go_wp2_with fail;refine c1.mono ?_;rintro e w2 ⟨o,hRo,hpost⟩;have HRo:=zh hRo;clear c1 hRo
 match o,hpost,HRo with
 | none,hpost,HRo=>
  obtain⟨rfl,hg2⟩:=hpost;have Hg2:=zh hg2;clear hg2;unfold eu;exact⟨rfl,none,.pnot rfl HRo.out,rfl,aW Hbw1.out Hg2.out⟩
 | some (q,r),hpost,HRo=>
  obtain⟨a0,a1,a2,a3,rfl,hF,hR2,hg2⟩:=hpost;have HB2:=HB1.out.keep4 hg2 jo;have hlt2:w.heap.size<w2.heap.size:=zT hlt hg2.size;have hne2:w.heap.size≠w2.heap.size:=jo;obtain⟨q0,q1,q2,q3,f0,f1,f2,f3⟩:=HB2.four;obtain⟨A',n',c',C',m',d',e4⟩:=hF.four;simp only[zQ,and_true]at e4;obtain⟨rfl,rfl,rfl,rfl⟩:=e4;have hX:=HB2.set4 (.int .i64 7) (.string ⟨#[]⟩) (.slice none 0 0) (.slice (some ⟨w2.heap.size,0,none⟩) 1 1);have hg4:=gH w2 w.heap.size (.int .i64 7) (.string ⟨#[]⟩) (.slice none 0 0) (.slice (some ⟨w2.heap.size,0,none⟩) 1 1);have hz4:=dQ w2 w.heap.size (.int .i64 7) (.string ⟨#[]⟩) (.slice none 0 0) (.slice (some ⟨w2.heap.size,0,none⟩) 1 1)
  have hF4:QF (set4 w2 w.heap.size (.int .i64 7) (.string ⟨#[]⟩) (.slice none 0 0) (.slice (some ⟨w2.heap.size,0,none⟩) 1 1)) (fun b=>w.heap.size≤b∧b<w2.heap.size) q [.int .i64 q.kind,.string q.name,.slice A' n' c',.slice C' m' d']:=
   (hF.keep fun b _ hS=>vN (w:=w2) (dw w2 w.heap.size b _ _ _ _ (by have:=hS.1;omega))).mono fun b hS=>⟨by have:=hS.1;omega,hS.2⟩
  have hR4:=hR2.other hg4 (fun b e=>by injection e with e;omega);have hgA:=fP (aW Hbw1.out hg2) hg4 (fun b e=>by injection e with e;omega);generalize hw4:set4 w2 w.heap.size (.int .i64 7) (.string ⟨#[]⟩) (.slice none 0 0) (.slice (some ⟨w2.heap.size,0,none⟩) 1 1)=w4 at hX hg4 hz4 hF4 hR4 hgA;have hBn:=Blk.new w4 60 #[.int .i64 q.kind,.string q.name,.slice A' n' c',.slice C' m' d'];have hbn:=(zw w4.heap.size w4).alloc (zG _) (.cells #[.int .i64 q.kind,.string q.name,.slice A' n' c',.slice C' m' d'] 60);have hzn:(w4.alloc (.cells #[.int .i64 q.kind,.string q.name,.slice A' n' c',.slice C' m' d'] 60)).heap.size=w2.heap.size+1:=by rw[vK,hz4]
  rw[hz4]at hBn
  have HF:Hid (QF (w4.alloc (.cells #[.int .i64 q.kind,.string q.name,.slice A' n' c',.slice C' m' d'] 60)) (fun b=>w.heap.size≤b∧b<(w4.alloc (.cells #[.int .i64 q.kind,.string q.name,.slice A' n' c',.slice C' m' d'] 60)).heap.size) (nW q) [.int .i64 7,.string ⟨#[]⟩,.slice none 0 0,.slice (some ⟨w2.heap.size,0,none⟩) 1 1]):=zh (by
   refine QF.mk (nm:=⟨#[]⟩) [[.int .i64 q.kind,.string q.name,.slice A' n' c',.slice C' m' d']] rfl (by simpa using ReadsS.none_) rfl rfl jz ⟨rfl,fun _=>⟨w2.heap.size,0,rfl,⟨jo,jo⟩,fun j u hu=>?_⟩⟩ (fun i hi hi'=>?_)
   ·rw[zf,hBn.cell]
    simpa using hu
   have:i=0:=by simp at hi;exact hi
   subst this
   exact(hF4.keep fun b o hS=>hbn.cell (p:=⟨b,o,none⟩) (by rw[hz4];exact hS.2)).mono fun b hS=>⟨hS.1,by have:=hS.2;omega⟩)
  have HX:=zh (hX.alloc (.cells #[.int .i64 q.kind,.string q.name,.slice A' n' c',.slice C' m' d'] 60));have HRX:=zh (hR4.below hbn);have HGX:=zh (aW hgA (aJ hbn _));clear hX hg4 hF4 hR4 hgA hBn hbn hzn hF hR2 hg2 HB2 Hbw1 HB1 ih;subst hw4;clear hz4;go_wp2_with fail;refine zu (aA rfl rfl (zr _ w.heap.size 60 60 #[.int .i64 7,.string ⟨#[]⟩,.slice none 0 0,.slice (some ⟨w2.heap.size,0,none⟩) 1 1] (0,0) _ HX.out underlying60 rfl jk)) rfl ?_;exact⟨_,R.pnot rfl HRo.out,_,_,_,_,rfl,HF.out,HRX.out,HGX.out⟩
end Qp

namespace Qp
open Go.RowKit Ut Tk Qy
theorem oC{w w1:World}{row:Option Nat}(h:w.grownBy w1 row):w.grownBy w1.drew row:=⟨h.os,h.tape,h.output,h.size,h.block⟩
theorem II(t:List P)(ih:rH t):dY (LP::t):=by
 intro B w g hR;have hgl:=hR.lt;have c0:=gK B (W0 w) g LP t (hR.below (dA w));have hb0:=zh (dA w);have HB0:=zh (iI w);have hz0:=iH w;have he:=gT LP (hR.ne LP jz);have fNOT:((str LP).toList == [78,79,84])=false:=by rw[aF];decide
 have fLP:((str LP).toList == [40])=true:=by rw[aF];decide
 have fRP:((str LP).toList == [41])=false:=by rw[aF];decide
 have fAND:((str LP).toList == [65,78,68])=false:=by rw[aF];decide
 have fOR:((str LP).toList == [79,82])=false:=by rw[aF];decide
 have hlow:=hR.low;clear hR;generalize hW:W0 w=v0 at *;have HW:=zh hW;unfold W0 at hW;subst hW;go_enter func152,ntmps152;go_wp2_with fail;refine c0.mono ?_;rintro e w1 ⟨rfl,hRd,hg1⟩;have hlt:w.heap.size<w1.heap.size:=by have:=hg1.size;rw[hz0]at this;omega
 have HB1:=zh (HB0.out.keep4 hg1 jo);have Hbw1:=zh (aW (aJ hb0.out _) hg1);have c1:=ih B w1 g hRd;clear hg1 hRd HB0 hb0 c0;go_wp2_with fail;refine c1.mono ?_;rintro e w2 ⟨o,hRo,hpost⟩;have HRo:=zh hRo;clear c1 hRo
 match o,hpost,HRo with
 | none,hpost,HRo=>
  obtain⟨rfl,hg2⟩:=hpost;have Hg2:=zh hg2;clear hg2;unfold eu;exact⟨rfl,none,.plp rfl HRo.out,rfl,aW Hbw1.out Hg2.out⟩
 | some (q,r),hpost,HRo=>
  obtain⟨a0,a1,a2,a3,rfl,hF,hR2,hg2⟩:=hpost;have HB2:=HB1.out.keep4 hg2 jo;have hlt2:w.heap.size<w2.heap.size:=zT hlt hg2.size;have hne2:w.heap.size≠w2.heap.size:=jo;have hgA:=aW Hbw1.out hg2;obtain⟨A',n',c',C',m',d',e4⟩:=hF.four;simp only[zQ,and_true]at e4;obtain⟨rfl,rfl,rfl,rfl⟩:=e4;have hb3:=(zw w2.heap.size w2).alloc (zG _) (.cells #[.int .i64 q.kind,.string q.name,.slice A' n' c',.slice C' m' d'] 60);have hz3:(w2.alloc (.cells #[.int .i64 q.kind,.string q.name,.slice A' n' c',.slice C' m' d'] 60)).heap.size=w2.heap.size+1:=jz;have hBx:=Blk.new w2 60 #[.int .i64 q.kind,.string q.name,.slice A' n' c',.slice C' m' d'];have hR3:=hR2.below hb3;have hF3:=hF.grow hb3;have hB3:=HB2.alloc (.cells #[.int .i64 q.kind,.string q.name,.slice A' n' c',.slice C' m' d'] 60);have hgB:=aW hgA (aJ hb3 _);have HF3:=zh hF3;have HB3:=zh hB3;have HBx:=zh hBx;have HgB:=zh hgB;have HR3:=zh hR3;clear hF hR2 hg2 HB2 Hbw1 HB1 ih hgA hb3 hBx hR3 hF3 hB3 hgB;go_wp2_with fail;generalize hw3:w2.alloc (.cells #[.int .i64 q.kind,.string q.name,.slice A' n' c',.slice C' m' d'] 60)=w3 at *;clear hw3
  match r,HRo,HR3 with
  | [],HRo,HR3=>
   have c3:=wG B w3.drew g (HR3.out.below ((zw _ _).drew))
   go_region_dies
   rename_i K hK;refine c3.mono ?_;rintro e w' ⟨rfl,rfl⟩;refine hK _ _ ?_;clear hK K;refine wpAny_take (i:=7) (v:=.bool false) rfl jk jk jk (fun _ _ _ h=>h) (Or.inl ⟨jr,?_⟩) ?_
   ·intro w;go_simp
   refine wpAny_ready (rs:=[8]) jk jz ?_;refine AllReady.cons rfl (fun K hK=>?_) AllReady.nil;go_simp;refine(fU g _).mono ?_;rintro e w' ⟨rfl,rfl⟩;exact⟨rfl,none,R.plp rfl HRo.out,rfl,oC HgB.out⟩
  | s'::r',HRo,HR3=>
   have c3:=gK B w3.drew g s' r' (HR3.out.below ((zw _ _).drew));have hgl3:=HR3.out.lt;have hne4:w.heap.size≠g:=jo;by_cases hs':s'=RP
   ·have f41:((str s').toList == [41])=true:=by rw[aF];exact zO hs'
    have HH:Hid (R .part (LP::t) (some (q,r'))):=zh (by
     have:=R.plp (s:=LP) rfl HRo.out;rw[show closed (some (q,s'::r'))=some (q,r')from zI hs']at this
     exact this)
    have hs'':=zh hs';clear hs' HRo
    go_region_with (first
     | (go_at_call 127;refine c3.mono ?_;rintro e w4 ⟨rfl,hR4,hg4⟩;have HR4:=zh hR4;have Hg4:=zh hg4;clear hR4 hg4)
     | (go_at_call 98;refine(gM g _).mono ?_;rintro e w' ⟨rfl,rfl⟩))
    have hne5:w2.heap.size≠g:=jo;have hz4:w3.heap.size≤w4.heap.size:=Hg4.out.size;have hbx4:=(HBx.out.drew).keep4 Hg4.out hne5;have hB4:=(HB3.out.drew).keep4 Hg4.out hne4
    have hF4:QF w4 (fun b=>w1.heap.size≤b∧b<w4.heap.size) q [.int .i64 q.kind,.string q.name,.slice A' n' c',.slice C' m' d']:=
     (HF3.out.keep (w':=w4) fun b o hS=>vN (w:=w3) (Hg4.out.block b hS.2 (fun e=>by injection e with e;have:=hS.1;omega))).mono fun b hS=>⟨hS.1,by have:=hS.2;omega⟩
    obtain⟨q0,q1,q2,q3,f0,f1,f2,f3⟩:=hB4.four;obtain⟨x0,x1,x2,x3,_,_,_,_⟩:=hbx4.four;have hX:=hB4.set4 (.int .i64 q.kind) (.string q.name) (.slice A' n' c') (.slice C' m' d');have hg5:=gH w4 w.heap.size (.int .i64 q.kind) (.string q.name) (.slice A' n' c') (.slice C' m' d');have HF:=zh (eO (w:=w) hF4 hlt (zG _));have HRX:=zh (HR4.out.other hg5 (fun b e=>by injection e with e;omega));have HGX:=zh (fP (aW (oC HgB.out) Hg4.out) hg5 (fun b e=>by injection e with e;omega));have HX:=zh hX;clear hX hg5 hF4 hbx4 hB4 HBx HB3 HF3 HgB Hg4 HR4 HR3 c3;go_wp2_with fail;refine zu (aA rfl rfl (zr _ w.heap.size 60 60 #[.int .i64 q.kind,.string q.name,.slice A' n' c',.slice C' m' d'] (0,0) _ HX.out underlying60 rfl jk)) rfl ?_;exact⟨_,HH.out,_,_,_,_,rfl,HF.out,HRX.out,HGX.out⟩
   have f41:((str s').toList == [41])=false:=by rw[aF];exact zN hs'
   have HH:Hid (R .part (LP::t) none):=zh (by
    have:=R.plp (s:=LP) rfl HRo.out;rw[show closed (some (q,s'::r'))=none from zH hs']at this
    exact this)
   clear hs' HRo
   go_region_dies
   rename_i K hK;refine c3.mono ?_;rintro e w4 ⟨rfl,hR4,hg4⟩;have Hg4:=zh hg4;clear hR4 hg4;refine hK _ _ ?_;clear hK K;refine wpAny_take (i:=7) (v:=.bool false) rfl jk jk jk (fun _ _ _ h=>h) (Or.inl ⟨jr,?_⟩) ?_
   ·intro w;go_simp
   refine wpAny_ready (rs:=[8]) jk jz ?_;refine AllReady.cons rfl (fun K hK=>?_) AllReady.nil;go_simp;refine(fU g _).mono ?_;rintro e w' ⟨rfl,rfl⟩;exact⟨rfl,none,HH.out,rfl,aW (oC HgB.out) Hg4.out⟩
end Qp
end Go.Proofs.YtmomjpolkkbhnaaGreat
