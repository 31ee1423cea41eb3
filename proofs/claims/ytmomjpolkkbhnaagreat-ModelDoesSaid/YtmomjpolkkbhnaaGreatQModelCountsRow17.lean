/- slices.insertionSortCmpFunc at elements of three cells, stable: the walk. -/
import Derived.Laws.BitsAllLaws
import Derived.Test.YtmomjpolkkbhnaaGreatQModelCountsRow16
import Derived.Test.YtmomjpolkkbhnaaGreatQModelCountsRow12
set_option linter.unusedSectionVars false
set_option linter.unusedSimpArgs false
set_option linter.unusedVariables false
set_option maxRecDepth 20000
set_option maxHeartbeats 100000000
open Go.Proofs.Tryz
namespace Go.Proofs.YtmomjpolkkbhnaaGreat
namespace Ss
open Go.Shelf Go.RowKit Go.Lib Go.Sort
variable {α:Type} [Inhabited α] {enc:α→List Value} {cf:α→α→Int} {tag:α→Nat}
set_option maxRecDepth 1000000 in
theorem AL(hW:SWO (ltOf cf))(k:Nat)(hk2:k=3)(g:Nat)(cb:Array Value)(blk off cap a b:Nat)(d0 d:Array α)(w0 w:World)(eg:∀args w,(callFunc g args).run prog w=.ok (.enter g args) w)(hC:CmpLays prog g cb enc k cf blk off d0.size w0)
  (R:RowK enc k w0 blk off d0) (hs:d.size=d0.size) (S:SWK enc k w0 blk off d w) (hab:a≤b) (hb:b≤d.size) (hsz:d.size<1099511627776) (hT:∀x y,a≤x→x<y→y<b→tag d[x]!<tag d[y]!) :
  Calls prog 153 #[.slice (some ⟨blk,off,none⟩) d.size cap,.int .i64 a,.int .i64 b,.func (.func g) #[] cb] w (iM enc cf tag k w0 blk off d a b):=by
 have zE:∀w,(Go.sizeOf 48).run prog w=.ok k w:=by rw[hk2];exact Tryz.sizeOf48
 have mixed:prog.follows Departure.mixedOrders=true:=jk;have S0:Aside (SWK enc k w0 blk off d w):=S;have HC:Aside _:=hC;have HS:=zh hs;have HT:=zh hT;clear S hk2 hs hC hT;go_enter func153,ntmps153;go_wp2;go_loopw [8] (fun vi wr=>∃(i:Nat) (dk:Array α),a<i∧(i≤b∨i≤a+1)∧vi=.int .i64 (i:Nat)∧Aside (SWK enc k w0 blk off dk wr)∧dk.size=d.size∧Hid (PermIn a b d dk)∧Hid (Srt cf tag dk a i)∧Hid (∀x,i≤x→dk[x]! = d[x]!)) (fun vi _=>b-(intOf vi).toNat)
 case atStart=>exact⟨a+1,d,jo,jo,ju,S0,rfl,zh (permIn_refl _ _ _),zh (Srt.one _ (zG _)),zh (fun _ _=>rfl)⟩
 clear S0;obtain⟨i,dk,hai,hib,rfl,S1,hds,HP,HZ,HX⟩:=hrel;by_cases hlt:i<b
 ·have hltz:(i:Int)<(b:Int):=jo
  have TK:Hid (∀h,a≤h→h<i→tag dk[h]!<tag dk[i]!):=zh (fun h h1 h2=>by
   have e:=HX.out i (zG _);rw[e]
   exact permIn_all d dk a i (fun z=>tag z<tag d[i]!) jo (Au HP.out jo HX.out jo hb) (fun x p1 p2=>HT.out x i p1 p2 hlt) h h1 h2)
  go_wp2;go_loopw [9] (fun vj wr=>∃(j:Nat) (dj:Array α),a≤j∧j≤i∧vj=.int .i64 (j:Nat)∧Aside (SWK enc k w0 blk off dj wr)∧dj.size=d.size∧Hid (PermIn a b d dj)∧Hid (∀x,dj[x]! = shR dk i j x)∧Hid (∀h,j≤h→h<i→bef cf tag dk[i]! dk[h]!)) (fun vj _=>(intOf vj).toNat)
  case atStart=>exact⟨i,dk,jo,zG _,rfl,S1,hds,HP,zh (fun x=>wA dk i x),zh (fun h _ _=>jo)⟩
  clear S1;obtain⟨j,dj,haj,hji,rfl,S1,hdj,HPj,HXj,HG⟩:=hrel
  have OUT:Hid ((j≤a∨¬cf dk[i]! dk[j-1]!<0)→Srt cf tag dj a (i+1)∧∀x,i+1≤x→dj[x]! = d[x]!):=zh (fun hst=>⟨Hw hW haj hji HZ.out TK.out HXj.out HG.out hst,fun x hx=>by
   rw[HXj.out];unfold shR;rw[zH jo,zH jo]
   exact HX.out x jo⟩)
  by_cases hja:a<j
  ·obtain⟨jp,rfl⟩:∃jp,j=jp+1:=⟨j-1,jo⟩;have hjaz:(a:Int)<(jp:Int)+1:=jo;have hwp:IntKind.i64.wrap (jp:Int)=(jp:Int):=by rw[IntKind.wrap_i64];omega
   have n0:(0:Int)≤(jp:Int):=jo;have n1:(0:Int)≤(jp:Int)+1:=jo;have n2:(jp:Int)+1<(d.size:Int):=jo;have n3:(jp:Int)<(d.size:Int):=jo;have n5:((jp:Int)+1).toNat=jp+1:=jo
   have ej:dj[jp+1]! = dk[i]!:=by
    rw[HXj.out];unfold shR;rw[zH jo,zI rfl]
   have ep:dj[jp]! = dk[jp]!:=by
    rw[HXj.out];unfold shR;rw[zH jo,zH jo]
   have SG:Aside (∀n os,SWK enc k w0 blk off dj (grow (wr.drewN n) os)):=fun n os=>S1.out.grown n os
   have l1:=fun n' os'=>S1.out.ld R (hdj.trans HS.out) prog (jp+1) jo n' os'
   have l2:=fun n' os'=>S1.out.ld R (hdj.trans HS.out) prog (jp) jo n' os'
   have hcg:=fun n' os'=>S1.out.cmp HC.out (hdj.trans HS.out) dj[jp+1]! dj[jp]! n' os'
   rw[ej]at l1;rw[ep]at l2;rw[ej,ep]at hcg;have E:=zh (And.intro ej ep);clear ej ep;have OUT2:Hid (¬cf dk[i]! dk[jp]!<0→Srt cf tag dj a (i+1)∧∀x,i+1≤x→dj[x]! = d[x]!):=zh (fun h=>OUT.out (.inr (by simpa using h)))
   have IN2:Hid (cf dk[i]! dk[jp]!<0→∀h,jp≤h→h<i→bef cf tag dk[i]! dk[h]!):=zh (fun hc h p1 p2=>by
    by_cases e:h=jp
    ·rw[e];exact mr hc
    exact HG.out h jo p2)
   obtain⟨xp,hxp⟩:∃x,dk[i]! = x:=⟨_,rfl⟩;obtain⟨xq,hxq⟩:∃x,dk[jp]! = x:=⟨_,rfl⟩;rw[hxp]at l1;rw[hxq]at l2;rw[hxp,hxq]at hcg;have HXX:Hid (dk[i]! = xp∧dk[jp]! = xq):=zh ⟨hxp,hxq⟩;clear hxp hxq OUT HG S1;by_cases hlv:cf xp xq<0
   ·have G2:Hid (∀h,jp≤h→h<i→bef cf tag dk[i]! dk[h]!):=zh (IN2.out (by rw[HXX.out.1,HXX.out.2];exact hlv));clear OUT2 IN2;go_wp2_with fail
    go_quiet_grown (first|(go_at_fn g;refine Calls.grown_of (hcg _ _)))
    have S3:Aside (SWK enc k w0 blk off dj (grow (wr.drewN nq) osq)):=SG.out nq osq;generalize grow (wr.drewN nq) osq=w3 at S3 ⊢;clear l1 l2 hcg SG;have S2:Aside (SWK enc k w0 blk off (swp dj (jp+1) (jp)) ((w3.drew.setCells blk (off+(jp+1)*k) (enc dj[jp]!)).setCells blk (off+(jp)*k) (enc dj[jp+1]!))):=S3.out.swapped R (jp+1) (jp) jo jo;have l44a:=S3.out.ld1 R (hdj.trans HS.out) prog (jp+1) jo;have l44b:=S3.out.ld1 R (hdj.trans HS.out) prog (jp) jo;have s44a:=S3.out.st1 R (hdj.trans HS.out) prog (jp+1) jo dj[jp]!;have s44b:=S3.out.st2 R (hdj.trans HS.out) prog (jp+1) (jp) jo jo dj[jp]! dj[jp+1]!;have n44a:(enc dj[jp+1]!).length=k:=R.hk _;have n44b:(enc dj[jp]!).length=k:=R.hk _;have HP2:Hid (PermIn a b d (swp dj (jp+1) jp)):=zh (permIn_trans _ _ _ _ _ HPj.out (swp_permIn dj a b (jp+1) jp jo jo jo jo jo));have HX2:Hid (∀y,(swp dj (jp+1) jp)[y]! = shR dk i jp y):=zh (wC hji jo jo HXj.out);generalize enc dj[jp+1]! = cI44 at S2 l44a s44b n44a;generalize enc dj[jp]! = cJ44 at S2 l44b s44a s44b n44b;clear S3 HPj HXj;go_wp2_with fail
    go_big_region_o
    clear l44a l44b s44a s44b;generalize (w3.drew.setCells blk (off+(jp+1)*k) cJ44).setCells blk (off+(jp)*k) cI44=w2 at S2 ⊢;go_wp2;go_roundw
    case rel=>exact⟨jp,swp dj (jp+1) jp,jo,jo,by first|rfl|go_num|(congr 1;omega),S2,by rw[size_swp];exact hdj,HP2,HX2,G2⟩
    first|(simp[intOf];done)|(simp[intOf];omega)
   have hdec:decide (cf xp xq<0)=false:=zN hlv;have O2:=zh (OUT2.out (by rw[HXX.out.1,HXX.out.2];exact hlv));clear OUT2 IN2;go_wp2_with fail
   go_quiet_grown (first|(go_at_fn g;refine Calls.grown_of (hcg _ _)))
   have S3:Aside (SWK enc k w0 blk off dj (grow (wr.drewN nq) osq)):=SG.out nq osq;generalize grow (wr.drewN nq) osq=w3 at S3 ⊢;clear l1 l2 hcg SG;go_wp2;go_roundw
   case rel=>exact⟨i+1,dj,jo,jo,ju,S3,hdj,HPj,zh O2.out.1,zh O2.out.2⟩
   simp[intOf];omega
  have hjaz:decide ((j:Int) > (a:Int))=false:=zN jo;have hjaz':¬(a:Int)<(j:Int):=jo;have O2:=zh (OUT.out (.inl jo))
  have SD:Aside (SWK enc k w0 blk off dj wr.drew):=by
   have:=S1.out.grown 1 #[]
   rwa[grow_empty]at this
  clear OUT S1;go_wp2_with fail
  go_big_region_o
  generalize wr.drew=w3 at SD ⊢;go_wp2;go_roundw
  case rel=>exact⟨i+1,dj,jo,jo,ju,SD,hdj,HPj,zh O2.out.1,zh O2.out.2⟩
  simp[intOf];omega
 have hltz:¬(i:Int)<(b:Int):=jo;have Fin:=zh (HZ.out.sub (zG _) (show b≤i by omega));go_wp2
 go_end0
 exact⟨rfl,dk,S1.out,hds,HP.out,Fin.out⟩
end Ss

namespace Qy
open Go.RowKit Ut Tk
theorem bD{w1 w2:World}{A:Option Addr}{k n:Nat}{xs:List Value}(hb:zWW w1 w2)(h:Reads w1 w1.heap.size k A n xs):Reads w2 w2.heap.size k A n xs:=(h.below hb).more hb.size
theorem zW(x:List UInt8)(p:ByteArray):Lib.hasPrefix (str x).data.toList p.data.toList=bS x p:=by
 rw[bE];unfold bS;rw[ny];unfold Lib.hasPrefix
 first
  | rfl
  | (rw[Bool.eq_iff_iff];simp[List.isPrefixOf_iff_prefix,List.prefix_iff_eq_take];done)
  | (rw[←ny])
theorem mV{α:Type}(l:List α)(g:α→Bool):(List.range l.length).any (fun i=>(l[i]?).any g)=l.any g:=by
 rw[Bool.eq_iff_iff];simp only[List.any_eq_true,List.mem_range];constructor
 ·rintro⟨i,hi,h⟩;rw[zU hi]at h;exact⟨l[i],za hi,by simpa using h⟩
 rintro⟨x,hx,h⟩;obtain⟨i,hi,rfl⟩:=zp.1 hx;exact⟨i,hi,by rw[zU hi];simpa using h⟩
theorem AP(x:List UInt8)(i:Int)(pb:Nat)(p:ByteArray)(w:World)(hp:w.cell? ⟨pb,0,none⟩=some (.string p)) :
  Calls prog 161 #[.agg #[.string (str x),.int .i64 i],.pointer (some ⟨pb,0,none⟩)] w fun e w'=>e=.returned (.bool (bS x p))∧zWW w w':=by
 have c1:=fun wx=>Tryz.strings_HasPrefix (str x) p wx
 simp only[zW]at c1;have C1:=zh c1;have hb:zWW w (w.alloc (.cells #[.string (str x),.int .i64 i] 206)):=zRR _;have Hb:=zh hb;have hlt:=World.block_lt_of_cell? w _ hp;clear c1 hb;generalize str x=s at *;generalize bS x p=r at *;go_enter func161,ntmps161;go_wp2_with (go_at_call 162;refine(C1.out _).mono ?_;rintro e w' ⟨rfl,rfl⟩);go_ret;exact⟨rfl,Hb.out⟩
theorem AY(TA:Option Addr)(n tc:Nat)(T:List (List UInt8))(p:ByteArray)(w:World)(hT:Reads w w.heap.size 2 TA n (cG (bR T)))(hn:T.length=n)(hn2:n≤1048576) :
  Calls prog 139 #[.slice TA n tc,.string p] w fun e w'=>e=.returned (.bool (T.any (bS · p)))∧zWW w w':=by
 have hb:zWW w (w.alloc (.cells #[.string p] 9)):=zRR _;have hB:=Blk.new w 9 #[.string p]
 have c1:=Aw TA n tc T 161 #[.pointer (some ⟨w.heap.size,0,none⟩)] (fun i=>(T[i]?).any (bS · p)) (w.alloc (.cells #[.string p] 9))
  (fun args wx=>iQ func161 jk rfl args wx) (bD hb hT) hn hn2 (fun i h wx hbx=>by
   have c:=AP T[i] (i:Int) w.heap.size p wx ((hbx.cell (p:=⟨w.heap.size,0,none⟩) jz).trans (hB.cell 0));rw[zU h]
   simpa using c)
 have e:=mV T (bS · p);rw[hn]at e;rw[e]at c1;have Hb:=zh hb;clear e hb hB hT;generalize T.any (bS · p)=r at *;go_enter func139,ntmps139;go_wp2_with (go_at_call 160;refine c1.mono ?_;rintro e w1 ⟨rfl,hb1⟩);go_ret;exact⟨rfl,Hb.out.trans (hb1.mono Hb.out.size)⟩
structure QBox (w:World) (qb:Nat) (nm:ByteArray) (ws:List ByteArray):Prop where
 nm_:w.cell? ⟨qb,1,none⟩=some (.string nm)
 ws_:∃WA m wc,w.cell? ⟨qb,2,none⟩=some (.slice WA m wc)∧Reads w w.heap.size 1 WA m (ws.map Value.string)∧ws.length=m∧m≤8796093021952
theorem QBox.grow{w w':World}{qb:Nat}{nm:ByteArray}{ws:List ByteArray}(h:QBox w qb nm ws)(hb:zWW w w'):QBox w' qb nm ws:=by
 obtain⟨WA,m,wc,h1,h2,h3,h4⟩:=h.ws_;have hl:=World.block_lt_of_cell? w _ h.nm_;exact⟨(hb.cell (p:=⟨qb,1,none⟩) hl).trans h.nm_,WA,m,wc,(hb.cell (p:=⟨qb,2,none⟩) hl).trans h1,bD hb h2,h3,h4⟩
theorem uP(TA:Option Addr)(n tc:Nat)(T:List (List UInt8))(qb:Nat)(nm:ByteArray)(ws:List ByteArray)(w:World)(hT:Reads w w.heap.size 2 TA n (cG (bR T)))(hn:T.length=n)(hn2:n≤1048576)(hq:QBox w qb nm ws) :
  Calls prog 136 #[.slice TA n tc,.pointer (some ⟨qb,0,none⟩)] w fun e w'=>e=.returned (.bool (decide (0<(phr T ws).length)))∧zWW w w':=by
 obtain⟨WA,m,wc,h1,h2,h3,h4⟩:=hq.ws_;have c1:=Br TA n tc T WA m wc ws w hT hn hn2 h2 h3 h4;clear hq h2 hT hn h3;generalize phr T ws=P at *;go_enter func136,ntmps136;go_wp2_with fail;refine c1.mono ?_;rintro e w1 ⟨v,rfl,hI⟩;obtain⟨A,c,rfl,_⟩:=aU hI.own;have Hb:=zh hI.bel;clear hI c1;go_wp2;go_ret;exact⟨jz,Hb.out⟩
theorem Di(TA:Option Addr)(n tc:Nat)(T:List (List UInt8))(qb:Nat)(nm:ByteArray)(p:ByteArray)(w:World)(hT:Reads w w.heap.size 2 TA n (cG (bR T)))(hn:T.length=n)(hn2:n≤1048576)(hq:QBox w qb nm [p]) :
  Calls prog 138 #[.slice TA n tc,.pointer (some ⟨qb,0,none⟩)] w fun e w'=>e=.returned (.bool (T.any (bS · p)))∧zWW w w':=by
 obtain⟨WA,m,wc,h1,h2,h3,h4⟩:=hq.ws_;obtain⟨b,o,hl,rfl,hb,hc⟩:=h2.at_map (k:=0) (by simp at h3;omega);simp at hc;obtain rfl:m=1:=by simpa using h3.symm
 have c1:=AY TA n tc T p w hT hn hn2;clear hq h2 hT hn h3;generalize T.any (bS · p)=r at *;go_enter func138,ntmps138;go_wp2_with fail;refine c1.mono ?_;rintro e w1 ⟨rfl,hb1⟩;have Hb:=zh hb1;clear hb1 c1;go_wp2;go_ret;exact⟨rfl,Hb.out⟩
theorem Dj(x y:ByteArray)(qb ab:Nat)(g:Nat)(nm:ByteArray)(ws:List ByteArray)(r:Bool)(w:World)(hy:y.size≤1048576)(hq:QBox w qb nm ws)(hab:w.cell? ⟨ab,0,none⟩=some (.func (.func g) #[] #[.pointer (some ⟨qb,0,none⟩)]))
  (hcf:∀args wx,(callFunc g args).run prog wx=.ok (.enter g args) wx)
  (hg:∀TA tc wx,Reads wx wx.heap.size 2 TA (words y.data.toList).length (cG (bR (words y.data.toList)))→zWW w wx→Calls prog g #[.slice TA (words y.data.toList).length tc,.pointer (some ⟨qb,0,none⟩)] wx fun e w'=>e=.returned (.bool r)∧zWW wx w') :
  Calls prog 141 #[.agg #[.string x,.string y],.pointer (some ⟨qb,0,none⟩),.pointer (some ⟨ab,0,none⟩)] w fun e w'=>e=.returned (.bool (x.toList==nm.toList&&r))∧zWW w w':=by
 have c1:=fun wx=>Bb y wx hy
 generalize words y.data.toList=T at *;have hbx:zWW w (w.alloc (.cells #[.string x,.string y] 85)):=zRR _;have h1:∀wx,Below (w.alloc (.cells #[.string x,.string y] 85)).heap.size (w.alloc (.cells #[.string x,.string y] 85)) wx→zWW w wx:=fun wx hb=>hbx.trans (hb.mono jz)
 have hB:=Blk.new w 85 #[.string x,.string y];have hqn:=hq.nm_;have hlq:=World.block_lt_of_cell? w _ hqn;have hla:=World.block_lt_of_cell? w _ hab
 have hcells:∀wx,Below (w.alloc (.cells #[.string x,.string y] 85)).heap.size (w.alloc (.cells #[.string x,.string y] 85)) wx→wx.cell? ⟨w.heap.size,0,none⟩=some (.string x)∧wx.cell? ⟨w.heap.size,1,none⟩=some (.string y)∧wx.cell? ⟨qb,1,none⟩=some (.string nm)∧wx.cell? ⟨ab,0,none⟩=some (.func (.func g) #[] #[.pointer (some ⟨qb,0,none⟩)]):=fun wx hC=>
  ⟨(hC.cell (p:=⟨w.heap.size,0,none⟩) jz).trans (hB.cell 0),(hC.cell (p:=⟨w.heap.size,1,none⟩) jz).trans (hB.cell 1),((h1 wx hC).cell (p:=⟨qb,1,none⟩) hlq).trans hqn,((h1 wx hC).cell (p:=⟨ab,0,none⟩) hla).trans hab⟩
 have hcells':=zh hcells;have H1:=zh h1;have Hg:=zh hg;have C1:=zh c1;clear hcells h1 hg c1 hbx hB hq hqn hab;by_cases hxy:(x.toList==nm.toList)=true
 ·have Fin:Hid ((x.toList==nm.toList&&r)=r):=zh (by rw[hxy,Bool.true_and]);rw[Fin.out];go_enter func141,ntmps141;go_wp2_with fail;refine cH (aI [(9,⟨Option Addr × Nat,fun x=>.slice x.1 T.length x.2,fun x w'=>Reads w' w'.heap.size 2 x.1 T.length (cG (bR T))⟩),(10,⟨Unit,fun _=>(.bool r),fun _ _=>True⟩)]) (fun wx=>Below (World.heap (w.alloc (.cells #[.string x,.string y] 85))).size (w.alloc (.cells #[.string x,.string y] 85)) wx) (fun w1 w2=>zWW w1 w2) jk jk (aN (fun x w1 w2 hg h=>bD hg h) (aN (fun _ _ _ _ h=>h) (aX))) (zw _ _).drew ?_
  iterate 9
   refine aH _ ?_ rfl jr jr (fun wx hC hD=>?_) ?_;rotate_left
   ·have hSw:=hcells'.out wx hC;go_simp;all_goals with_reducible rfl
   try simp only[Act.put,zD,zE,zF]
  refine ae 10 _ rfl jr jr (fun wx hC hD=>?_) (fun x=>?_)
  ·refine aZ (f:=?_) (args:=?_) ?_ ?_;rotate_left 2
   ·have hSw:=hcells'.out wx hC;go_simp;all_goals first|with_reducible rfl|(refine⟨?_,?_⟩<;>with_reducible rfl)
   refine(C1.out wx).mono ?_;rintro e w1 ⟨v1,rfl,hown1,hb1⟩;obtain⟨B1,d1,rfl,hQ1⟩:=aU hown1;exact⟨_,rfl,hb1,hC.trans (hb1.mono hC.size),(B1,d1),rfl,hQ1⟩
  obtain⟨B1,d1⟩:=x;try simp only[Act.put,zD,zE,zF]
  refine ae 11 _ rfl jr jr (fun wx hC hD=>?_) (fun x=>?_)
  ·refine aZ (f:=?_) (args:=?_) ?_ ?_;rotate_left 2
   ·have hSw:=hcells'.out wx hC;go_simp;all_goals first|with_reducible rfl|(refine⟨?_,?_⟩<;>with_reducible rfl)
   exact cz hC (Hg.out _ _ wx (bf (fC hD 9 jk) jd) (H1.out wx hC))
  obtain⟨⟩:=x;try simp only[Act.put,zD,zE,zF]
  iterate 2
   refine aH _ ?_ rfl jr jr (fun wx hC hD=>?_) ?_;rotate_left
   ·have hSw:=hcells'.out wx hC;go_simp;all_goals with_reducible rfl
   try simp only[Act.put,zD,zE,zF]
  refine ah (fun w2 hC hF=>?_);have Hb:=zh (H1.out _ hC);clear hF hC;go_wp2;go_ret;exact⟨rfl,Hb.out⟩
 have hxy':(x.toList==nm.toList)=false:=Bool.eq_false_iff.2 hxy;have Fin:Hid ((x.toList==nm.toList&&r)=false):=zh (by rw[hxy',Bool.false_and]);rw[Fin.out];clear hxy;go_enter func141,ntmps141;go_wp2_with fail;refine cH (aI []) (fun wx=>Below (World.heap (w.alloc (.cells #[.string x,.string y] 85))).size (w.alloc (.cells #[.string x,.string y] 85)) wx) (fun w1 w2=>zWW w1 w2) jk jk (aX) (zw _ _).drew ?_
 iterate 6
  refine aH _ ?_ rfl jr jr (fun wx hC hD=>?_) ?_;rotate_left
  ·have hSw:=hcells'.out wx hC;go_simp;all_goals with_reducible rfl
  try simp only[Act.put,zD,zE,zF]
 refine aS 7 (some false) true rfl jr jr jr ?_;try simp only[Act.put,zD,zE,zF]
 refine aS 8 (some false) true rfl jr jr jr ?_;try simp only[Act.put,zD,zE,zF]
 refine aS 9 (some false) true rfl jr jr jr ?_;try simp only[Act.put,zD,zE,zF]
 refine aS 10 (some false) true rfl jr jr jr ?_;try simp only[Act.put,zD,zE,zF]
 refine aS 11 (some false) true rfl jr jr jr ?_;try simp only[Act.put,zD,zE,zF]
 iterate 2
  refine aH _ ?_ rfl jr jr (fun wx hC hD=>?_) ?_;rotate_left
  ·have hSw:=hcells'.out wx hC;go_simp;all_goals with_reducible rfl
  try simp only[Act.put,zD,zE,zF]
 refine ah (fun w2 hC hF=>?_);have Hb:=zh (H1.out _ hC);clear hF hC;go_wp2;go_ret;exact⟨rfl,Hb.out⟩
end Qy

namespace Cu
open Cr
def be(s n:Nat):List UInt8:=(List.range s).map fun j=>UInt8.ofNat (n/2 ^ (8*(s-1-j)))
def pre(a:Nat)(q:List UInt8):List UInt8:=[76,67,1]++be 8 a++be 2 q.length++q
def enc(a:Nat)(q:List UInt8):List UInt8:=pre a q++le4 (crc (pre a q))
theorem cJ(s n:Nat):(be s n).length=s:=by simp[be]
theorem xL(s n k:Nat)(h:k<s):(be s n).take (k+1)=(be s n).take k ++ [UInt8.ofNat (n/2 ^ (8*(s-1-k)))]:=by
 rw[List.take_succ_eq_append_getElem (by rw[cJ];exact h)];congr 1;simp[be]
theorem qM(n:Nat):(le4 n).length=4:=rfl
theorem qN(a:Nat)(q:List UInt8):(pre a q).length=q.length+13:=by
 simp[pre,cJ];omega
theorem iG(a:Nat)(q:List UInt8):(enc a q).length=q.length+17:=by
 unfold enc;rw[List.length_append,qN,qM]
def num(l:List UInt8):Nat:=l.foldl (fun u c=>u*256+c.toNat) 0
theorem wL(l:List UInt8)(c:UInt8):num (l ++ [c])=num l*256+c.toNat:=by unfold num;rw[List.foldl_append];rfl
theorem nE(l:List UInt8):num l<256 ^ l.length:=by
 have h:∀(l:List UInt8) (u n:Nat),u<256 ^ n→l.foldl (fun u c=>u*256+c.toNat) u<256 ^ (n+l.length):=by
  intro l
  induction l with
  | nil=>intro u n h;exact h
  | cons c l ih=>
   intro u n h;have hc:=c.toNat_lt;have:=ih (u*256+c.toNat) (n+1) (by rw[Nat.pow_succ];omega);rw[List.length_cons,show n+(l.length+1)=n+1+l.length by omega];exact this
 have:=h l 0 0 jz
 rwa[Nat.zero_add]at this
theorem u8n(k:Nat):(UInt8.ofNat k).toNat=k%256:=UInt8.toNat_ofNat'
theorem IU(n:Nat)(h:n<65536):num (be 2 n)=n:=by
 have e:be 2 n=[UInt8.ofNat (n/256),UInt8.ofNat n]:=by simp[be,List.range,List.range.loop]
 rw[e];unfold num;simp only[List.foldl_cons,List.foldl_nil,u8n];omega
theorem IV(n:Nat)(h:n<18446744073709551616):num (be 8 n)=n:=by
 have e:be 8 n=[UInt8.ofNat (n/72057594037927936),UInt8.ofNat (n/281474976710656),UInt8.ofNat (n/1099511627776),UInt8.ofNat (n/4294967296),UInt8.ofNat (n/16777216),UInt8.ofNat (n/65536),UInt8.ofNat (n/256),UInt8.ofNat n]:=by
  simp[be,List.range,List.range.loop]
 rw[e];unfold num;simp only[List.foldl_cons,List.foldl_nil,u8n];omega
def aOf(L:List UInt8):Nat:=num ((L.drop 3).take 8)
def nOf(L:List UInt8):Nat:=num ((L.drop 11).take 2)
def qOf(L:List UInt8):List UInt8:=(L.drop 13).take (nOf L)
def gu(L:List UInt8):List UInt8:=(L.drop 13).take (L.length-17)
theorem qO(a:Nat)(q:List UInt8):enc a q=[76,67,1]++(be 8 a++(be 2 q.length++(q++le4 (crc (pre a q))))):=by
 unfold enc;generalize le4 (crc (pre a q))=z;simp[pre]
theorem qP(a:Nat)(q:List UInt8)(h:a<18446744073709551616):aOf (enc a q)=a:=by
 unfold aOf;rw[qO,show (3:Nat)=([76,67,1]:List UInt8).length from rfl,List.drop_left];rw[List.take_left' (cJ 8 a)];exact IV a h
theorem CG(a:Nat)(q:List UInt8):(enc a q).drop 11=be 2 q.length++(q++le4 (crc (pre a q))):=by
 rw[qO,←List.append_assoc,show (11:Nat)=([76,67,1]++be 8 a:List UInt8).length by rw[List.length_append,cJ];rfl,List.drop_left]
theorem tO(a:Nat)(q:List UInt8):(enc a q).drop 13=q++le4 (crc (pre a q)):=by
 rw[qO,←List.append_assoc,←List.append_assoc,show (13:Nat)=([76,67,1]++be 8 a++be 2 q.length:List UInt8).length by rw[List.length_append,List.length_append,cJ,cJ];rfl,List.drop_left]
theorem IW(a:Nat)(q:List UInt8)(h:q.length<65536):nOf (enc a q)=q.length:=by
 unfold nOf;rw[CG,List.take_left' (cJ 2 _)];exact IU _ h
theorem qQ(a:Nat)(q:List UInt8)(h:q.length<65536):qOf (enc a q)=q:=by
 unfold qOf;rw[IW a q h,tO,List.take_left]
theorem Ff(a:Nat)(q:List UInt8):gu (enc a q)=q:=by
 unfold gu;rw[iG,tO,show q.length+17-17=q.length by omega,List.take_left]
theorem enc_inj{a a':Nat}{q q':List UInt8}(ha:a<18446744073709551616)(ha':a'<18446744073709551616)(hq:q.length<65536)(hq':q'.length<65536)(h:enc a q=enc a' q'):a=a'∧q=q':=
 ⟨by rw[←qP a q ha,h,qP a' q' ha'],by rw[←qQ a q hq,h,qQ a' q' hq']⟩
end Cu

namespace Cr
open Go.RowKit
structure TabAt (w wr:World) (g k:Nat):Prop where
 bel:zWW w wr
 ge:g=w.heap.size
 ex:∃cs,Blk wr g 219 cs∧cs.size=256∧∀j,j<k→cs[j]?=some (.int .u32 (tab j:Nat))
theorem Dy:(Tryz.zeroCells219).size=256:=by kernel_rfl
theorem TabAt.start(w:World):TabAt w (w.alloc (.cells Tryz.zeroCells219 219)) w.heap.size 0:=
 ⟨zRR _,rfl,_,Blk.new _ _ _,Dy,fun j h=>absurd h jo⟩
theorem TabAt.put{w wr:World}{g k:Nat}(h:TabAt w wr g k)(hk:k<256):TabAt w (wr.setCell ⟨g,k,none⟩ (.int .u32 (tab k:Nat))) g (k+1):=by
 obtain⟨hb,rfl,cs,hB,hz,hc⟩:=h;refine⟨hb.setCell (p:=⟨w.heap.size,k,none⟩) (zG _) _,rfl,_,hB.set_ k _,by simpa using hz,fun j hj=>?_⟩;rw[Array.getElem?_setIfInBounds];by_cases e:k=j
 ·subst e;rw[zI rfl,zI jo]
 rw[zH e];exact hc j jo
theorem TabAt.old{w wr:World}{g k:Nat}(h:TabAt w wr g k)(i:Nat)(hk:i<256):∃u,wr.cell? ⟨g,i,none⟩=some u∧wr.frozen? ⟨g,i,none⟩=false:=by
 obtain⟨hb,rfl,cs,hB,hz,hc⟩:=h;exact⟨cs[i]'jo,by rw[hB.cell,Array.getElem?_eq_getElem],hB.frozen i⟩
theorem wM(x:Nat)(h:x<2 ^ 32):bits .and .u32 (x:Int) 1=((x%2:Nat):Int):=by
 have:=u32_and_nat x 1 jo jo;rw[show (1:Int)=((1:Nat):Int)from rfl,this];congr 1;exact Nat.and_two_pow_sub_one_eq_mod x 1
theorem kz(x y:Nat)(h:x<2 ^ 32)(hy:y<2 ^ 32):bits .xor .u32 (x:Int) (y:Int)=((x ^^^ y:Nat):Int):=u32_xor_nat x y (by omega) (by omega)
theorem nY(x:Nat):((x/2:Nat):Int)=(x:Int)/2:=by omega
theorem Dz(w:World):Calls prog 158 #[] w fun e w'=>∃g,e=.returned (.pointer (some ⟨g,0,none⟩))∧TabAt w w' g 256:=by
 have H0:=zh (TabAt.start w);go_enter func158,ntmps158;go_wp2_with fail;generalize hw0:w.alloc (.cells Tryz.zeroCells219 219)=w0 at *;clear hw0;go_loopw [5] (fun i wr=>∃k:Nat,k≤256∧i=.int .i64 k∧TabAt w wr w.heap.size k) (fun i _=>256-(intOf i).toNat)
 case atStart=>exact⟨0,jo,rfl,H0.out⟩
 obtain⟨k,hk,rfl,hT⟩:=hrel;have HT:=zh hT;clear hT;by_cases hlt:k<256
 ·have hki:(k:Int)<256:=jo;have hkm:(k:Int)%4294967296=k:=jo;go_wp2_with fail
  go_loop [3,10] (fun x n=>∃m:Nat,m≤8∧n=.int .i64 m∧x=.int .u32 (ons m k:Nat)) (fun _ n=>8-(intOf n).toNat)
  case atStart=>exact⟨0,jo,rfl,rfl⟩
  obtain⟨m,hm,rfl,rfl⟩:=hrel;have hx:=yF m (x:=k) jo;have hs:ons (m+1) k=on1 (ons m k):=rfl;have h8:m=8→ons m k=tab k:=fun e=>by rw[e,IR]
  have Hs:=zh hs;have H8:=zh h8;clear hs h8;generalize ons m k=x at *;by_cases hm8:m<8
  ·have hmi:(m:Int)<8:=jo;have hx0:(0:Int)≤(x:Int):=jo;have hx1:(x:Int)<4294967296:=jo;rcases Nat.mod_two_eq_zero_or_one x with h2|h2
   ·have hb:bits .and .u32 (x:Int) 1=0:=by rw[wM x hx,h2];rfl
    have Fin:Hid (on1 x=x/2):=zh (by unfold on1;rw[zH jo]);clear h2;go_wp2
    go_round
    case rel=>exact⟨m+1,jo,ju,by rw[Hs.out,Fin.out,nY]⟩
    simp[intOf];omega
   have hb:bits .and .u32 (x:Int) 1=1:=by rw[wM x hx,h2];rfl
   have hxb:bits .xor .u32 ((x:Int)/2) 3988292384=((on1 x:Nat):Int):=by
    rw[←nY,show (3988292384:Int)=((3988292384:Nat):Int)from rfl,kz _ _ jo jo];unfold on1;rw[zI h2]
   clear h2;go_wp2
   go_round
   case rel=>exact⟨m+1,jo,ju,by rw[Hs.out]⟩
   simp[intOf];omega
  obtain rfl:m=8:=jo;obtain⟨u,hu,huf⟩:=HT.out.old k hlt;have HP:=zh (HT.out.put hlt);have e8:=H8.out rfl;subst e8;go_wp2;go_roundw
  case rel=>exact⟨k+1,jo,ju,HP.out⟩
  simp[intOf];omega
 obtain rfl:k=256:=jo;go_wp2;go_ret;exact⟨_,rfl,HT.out⟩
end Cr

namespace Qp
open Go.RowKit Ut Tk Qy
theorem Ac(l:P)(h:l.head?=some 40∨l.head?=some 41):aL l=1:=by unfold aL;rw[zI h]
theorem Ad(l:P)(h:l.head?=some 34):aL l=aj l:=by unfold aL;rw[zH (by rw[h];simp),zI h]
theorem Ae(l:P)(h0:l.head?≠some 40)(h1:l.head?≠some 41)(h2:l.head?≠some 34)(k:Nat)(hk:av l=k):aL l =
  if l[k]?=some 34∧l[k-1]?=some 58 then(if aj (l.drop k)=0 then 0 else k+aj (l.drop k))else k:=by
 subst hk;unfold aL;rw[zH (by rintro(h|h);exact h0 h;exact h1 h),zH h2]
theorem CK(s:ByteArray)(w:World)(hs:s.size≤1048576):Calls prog 41 #[.string s] w (xC w (aK s.data.toList)):=by
 obtain⟨i0,hi0,hz0,hz1,hz2⟩:=info_parts mH;go_enter func41,ntmps41;go_wp2_with fail;go_loopw [4,5] (fun v i wr=>∃(a:Nat) (acc:List P),a≤s.size∧i=.int .i64 (a:Int)∧Hid (aK s.data.toList=(aK (s.data.toList.drop a)).map (acc ++ ·))∧acc.length≤a∧Strs w wr v acc) (fun _ i _=>s.size-(intOf i).toNat)
 case atStart=>exact⟨0,[],zS _,rfl,zh jz,zG _,⟨vM _ _ _ _,zw _ _⟩⟩
 obtain⟨a,acc,ha,rfl,hpc,hac,hT⟩:=hrel;have HT:=zh hT;clear hT;have ha0:(0:Int)≤(a:Int):=jo;by_cases hlt:a<s.size
 ·have hd:s.data.toList.drop a=s[a]::s.data.toList.drop (a+1):=zc (by rw[aB];exact hlt);have hh:(s.data.toList.drop a).head?=some s[a]:=by rw[hd];rfl
  have u0:=bU s[a] 32;have u1:=bU s[a] 9;have u2:=bU s[a] 40;have u3:=bU s[a] 41;have u4:=bU s[a] 34;simp only[show (UInt8.toNat 34:Int)=34 from rfl,show (UInt8.toNat 41:Int)=41 from rfl,show (UInt8.toNat 40:Int)=40 from rfl,show (UInt8.toNat 32:Int)=32 from rfl,show (UInt8.toNat 9:Int)=9 from rfl]at u0 u1 u2 u3 u4;have hb0:dE s[a]=(s[a]==32 || s[a]==9):=rfl;by_cases hb:dE s[a]=true
  ·have Hn:Hid (aK s.data.toList=(aK (s.data.toList.drop (a+1))).map (acc ++ ·)):=zh (by rw[hpc.out,hd,lf _ _ hb])
   have hb2:((s[a].toNat:Int)==32)=true∨(((s[a].toNat:Int)==32)=false∧((s[a].toNat:Int)==9)=true):=by
    rw[u0,u1];rw[hb0]at hb
    cases h9:s[a]==32 with
    | true=>exact .inl rfl
    | false=>rw[h9]at hb;exact .inr ⟨rfl,by simpa using hb⟩
   clear hd hh u0 u1 u2 u3 u4 hb0 hb hpc;rcases hb2 with t0|⟨t0,t1⟩
   all_goals
    go_wp2_with fail;go_roundw
    case rel=>exact⟨a+1,acc,jo,ju,Hn,jo,HT.out⟩
    simp[intOf];omega
  have hb':dE s[a]=false:=by simpa using hb
  have t0:((s[a].toNat:Int)==32)=false:=by
   rw[u0];rw[hb0]at hb';simp only[Bool.or_eq_false_iff]at hb';exact hb'.1
  have t1:((s[a].toNat:Int)==9)=false:=by
   rw[u1];rw[hb0]at hb';simp only[Bool.or_eq_false_iff]at hb';exact hb'.2
  have Hpn:Hid (aK (s.data.toList.drop a)=if aL (s.data.toList.drop a)=0 then none else(aK ((s.data.toList.drop a).drop (aL (s.data.toList.drop a)))).map (fun l=>(s.data.toList.drop a).take (aL (s.data.toList.drop a))::l)):=zh (by
   have:=lg s[a] (s.data.toList.drop (a+1)) hb';rw[←hd]at this
   exact this)
  have hle:=o5 (s.data.toList.drop a);rw[zP,aB]at hle;have hcd:=tQ s a wr hlt hs;clear hd hb0 hb hb';by_cases hp:s[a]=40∨s[a]=41
  ·have e1:=Ac (s.data.toList.drop a) (by rw[hh];rcases hp with h|h<;>simp[h])
   have hp2:((s[a].toNat:Int)==40)=true∨(((s[a].toNat:Int)==40)=false∧((s[a].toNat:Int)==41)=true):=by
    rw[u2,u3];by_cases h:s[a]=40
    ·exact .inl (beq_iff_eq.2 h)
    refine .inr ⟨zM.2 h,beq_iff_eq.2 (hp.resolve_left h)⟩
   rw[e1]at Hpn hle;clear e1 hh u0 u1 u2 u3 u4 hp hcd;obtain⟨n,hn⟩:∃n:Nat,n=1:=⟨1,rfl⟩;rw[←hn]at Hpn hle;have hN:a+n=a+1:=jo;have e8:((a+1:Nat):Int)=(a:Int)+1:=jo;have h9:(a:Int)+1≤(s.size:Int):=jo
   have Hx:Hid (s.extract a (a+1)=str ((s.data.toList.drop a).take n)):=zh (by
    rw[←fE (s.extract a (a+1)),Lib.extract_data,show (a+1)-a=n from by omega])
   have Hn:Hid (aK s.data.toList=(aK (s.data.toList.drop (a+1))).map ((acc ++ [(s.data.toList.drop a).take n]) ++ ·)):=zh (by
    rw[hpc.out,Hpn.out,zH jo,List.drop_drop,←hN,Option.map_map];congr 1
    funext l
    simp)
   have hown:=HT.out.own;have hbs:=HT.out.bel.size;clear Hpn hpc hN;generalize (s.data.toList.drop a).take n=x at *;rcases hp2 with t2|⟨t2,t3⟩
   all_goals
    go_wp2_with (first
     | (at_builtin;refine vH _ rfl _ _ 57 rfl w.heap.size 9 i0 _ 1 16 underlying57 hi0 hz0 hz1 hz2 rfl jd _ _ _ rfl (hown.alloc _) ⟨wr.heap.size,0,none⟩ 1 1 [.string (s.extract a (a+1))] rfl rfl (zy (cs:=#[.string (s.extract a (a+1))]) (t:=9) (fr:=(0,0)) (vI wr _)) (fun u hu=>by simp at hu;subst hu;rfl) jx jo jm ?_))
    intro v' w5 hown5 hg5 _;rw[Hx.out]at hown5;have HT5:=zh ((HT.out.below (zRR _)).put hown5 hg5);clear hown5 hg5 hown;go_wp2_with fail;go_roundw
    case rel=>exact⟨a+1,acc ++ [x],jo,ju,Hn,by rw[zJ,zj];omega,HT5.out⟩
    simp[intOf];omega
  have n40:¬s[a]=40:=fun h=>hp (.inl h)
  have n41:¬s[a]=41:=fun h=>hp (.inr h)
  have t2:((s[a].toNat:Int)==40)=false:=by rw[u2];exact zM.2 n40
  have t3:((s[a].toNat:Int)==41)=false:=by rw[u3];exact zM.2 n41
  by_cases hq:s[a]=34
  ·have t4:((s[a].toNat:Int)==34)=true:=by rw[u4];exact beq_iff_eq.2 hq
   have e1:=Ad (s.data.toList.drop a) (by rw[hh,hq]);rw[e1]at Hpn hle;clear e1 hh u0 u1 u2 u3 u4 hp hq n40 n41;generalize aj (s.data.toList.drop a)=n at *;by_cases hn:n=0
   ·subst hn;have Fin:Hid (aK s.data.toList=none):=zh (by rw[hpc.out,Hpn.out,zI rfl];rfl);rw[qp]at hcd;clear Hpn hpc;go_wp2_with (go_at_call 77;refine hcd.mono ?_;rintro e w' ⟨rfl,rfl⟩);go_ret2;exact(by rw[Fin.out];exact⟨rfl,HT.out.bel⟩)
   rw[qU _ _ hn]at hcd;have hN:a+n=a+n:=rfl;have h9:((a+n:Nat):Int)≤(s.size:Int):=jo;have h8:(0:Int)≤((a+n:Nat):Int):=jo;have h7:(a:Int)≤((a+n:Nat):Int):=jo
   have Hx:Hid (s.extract a (a+n)=str ((s.data.toList.drop a).take n)):=zh (by
    rw[←fE (s.extract a (a+n)),Lib.extract_data,show (a+n)-a=n from by omega])
   have Hn:Hid (aK s.data.toList=(aK (s.data.toList.drop (a+n))).map ((acc ++ [(s.data.toList.drop a).take n]) ++ ·)):=zh (by
    rw[hpc.out,Hpn.out,zH jo,List.drop_drop,←hN,Option.map_map];congr 1
    funext l
    simp)
   have hown:=HT.out.own;have hbs:=HT.out.bel.size;clear Hpn hpc hN;generalize (s.data.toList.drop a).take n=x at *
   go_wp2_with (first
    | (go_at_call 77;refine hcd.mono ?_;rintro e w' ⟨rfl,rfl⟩)
    | (at_builtin;refine vH _ rfl _ _ 57 rfl w.heap.size 9 i0 _ 1 16 underlying57 hi0 hz0 hz1 hz2 rfl jd _ _ _ rfl (hown.alloc _) ⟨wr.heap.size,0,none⟩ 1 1 [.string (s.extract a (a+n))] rfl rfl (zy (cs:=#[.string (s.extract a (a+n))]) (t:=9) (fr:=(0,0)) (vI wr _)) (fun u hu=>by simp at hu;subst hu;rfl) jx jo jm ?_))
   intro v' w5 hown5 hg5 _;rw[Hx.out]at hown5;have HT5:=zh ((HT.out.below (zRR _)).put hown5 hg5);clear hown5 hg5 hown;go_wp2_with fail;go_roundw
   case rel=>exact⟨a+n,acc ++ [x],jo,ju,Hn,by rw[zJ,zj];omega,HT5.out⟩
   simp[intOf];omega
  have t4:((s[a].toNat:Int)==34)=false:=by rw[u4];exact zM.2 hq
  have E3:=zh (Ae (s.data.toList.drop a) (by rw[hh];simpa using n40) (by rw[hh];simpa using n41) (by rw[hh];simpa using hq));have hnb:(s.data.toList.drop a)[0]?=some s[a]:=by rw[←hh];cases s.data.toList.drop a<;>rfl
  have He:cE s[a]=false:=by
   have hb1:(s[a]==32)=false:=by rw[←u0];exact t0
   have hb2:(s[a]==9)=false:=by rw[←u1];exact t1
   have hb3:(s[a]==40)=false:=by rw[←u2];exact t2
   have hb4:(s[a]==41)=false:=by rw[←u3];exact t3
   have hb5:(s[a]==34)=false:=by rw[←u4];exact t4
   unfold cE;rw[hb1,hb2,hb3,hb4,hb5];rfl
  have Hst:Hid (∀x∈(s.data.toList.drop a).take (a+1-a),cE x=false):=zh (by
   rw[show a+1-a=1 by omega]
   cases hl:s.data.toList.drop a with
   | nil=>simp
   | cons x l=>
    rw[hl]at hnb;simp only[zB,Option.some.injEq]at hnb;intro y hy;simp only[zX,List.take_zero,List.mem_singleton]at hy
    rw[hy,hnb];exact He)
  have Hend:=zh (kY cE (s.data.toList.drop a));clear hnb He hh u0 u1 u2 u3 u4 hp hq n40 n41 hcd hle;go_wp2_with fail;go_loopw [7] (fun e wi=>∃m:Nat,a≤m∧m+1≤s.size∧e=.int .i64 ((m+1:Nat):Int)∧wr=wi∧Hid (∀x∈(s.data.toList.drop a).take (m+1-a),cE x=false)) (fun e _=>s.size-(intOf e).toNat)
  case atStart=>exact⟨a,zG _,jo,ju,rfl,Hst⟩
  obtain⟨m,ham,hm,rfl,rfl,hal⟩:=hrel;have hm0:(0:Int)≤(m:Int):=jo;have e8:((m+1:Nat):Int)=(m:Int)+1:=jo;by_cases hk:m+1<s.size
  ·have hkl:m+1-a<(s.data.toList.drop a).length:=by rw[zP,aB];omega
   have g1:(s.data.toList.drop a)[m+1-a]?=some s[m+1]:=by
    rw[List.getElem?_drop,show a+(m+1-a)=m+1 by omega];exact fV s _ hk
   have hge:(s.data.toList.drop a)[m+1-a]=s[m+1]:=by
    have:=zU hkl;rw[g1]at this;injection this with this;exact this.symm
   have u5:=bU s[m+1] 34;rw[show (UInt8.toNat 34:Int)=34 from rfl]at u5;by_cases he:cE s[m+1]=true
   ·have Hk:Hid (av (s.data.toList.drop a)=m+1-a):=zh (Hend.out _ hal.out jo (fun _=>by rw[hge];exact he));have hm9:m<s.size:=jo
    have g2:(s.data.toList.drop a)[m+1-a-1]?=some s[m]:=by
     rw[List.getElem?_drop,show a+(m+1-a-1)=m by omega];exact fV s _ hm9
    have u6:=bU s[m] 58;rw[show (UInt8.toNat 58:Int)=58 from rfl]at u6;have e4:=E3.out _ Hk.out;rw[g1,g2,List.drop_drop,show a+(m+1-a)=m+1 by omega]at e4;by_cases q:s[m+1]=34
    ·have t5:((s[m+1].toNat:Int)==34)=true:=by rw[u5];exact beq_iff_eq.2 q
     by_cases q2:s[m]=58
     ·have t6:((s[m].toNat:Int)==58)=true:=by rw[u6];exact beq_iff_eq.2 q2
      have hcd:=tQ s (m+1) wr hk hs;have hle:=lq (s.data.toList.drop (m+1));rw[zP,aB]at hle;rw[zI ⟨by rw[q],by rw[q2]⟩]at e4;rw[e4]at Hpn;clear e4 g1 g2 hge hkl u5 u6 q q2 Hk hal Hend E3 Hst;generalize aj (s.data.toList.drop (m+1))=r at *;by_cases hr:r=0
      ·subst hr;have Fin:Hid (aK s.data.toList=none):=zh (by rw[hpc.out,Hpn.out,zI rfl,zI rfl];rfl);rw[qp]at hcd;clear Hpn hpc
       go_wp2_with (first
        | (go_at_call 78;refine(jF s[m+1] _).mono ?_;rintro e w' ⟨rfl,rfl⟩)
        | (go_at_call 77;refine hcd.mono ?_;rintro e w' ⟨rfl,rfl⟩))
       go_ret2;exact(by rw[Fin.out];exact⟨rfl,HT.out.bel⟩)
      rw[qU _ _ hr]at hcd;rw[zH hr]at Hpn;obtain⟨n,hn⟩:∃n:Nat,n=m+1-a+r:=⟨_,rfl⟩;rw[←hn]at Hpn;have hN:a+n=m+1+r:=jo;have h9:((m+1+r:Nat):Int)≤(s.size:Int):=jo;have h8:(0:Int)≤((m+1+r:Nat):Int):=jo;have h7:(a:Int)≤((m+1+r:Nat):Int):=jo
      have Hx:Hid (s.extract a (m+1+r)=str ((s.data.toList.drop a).take n)):=zh (by
       rw[←fE (s.extract a (m+1+r)),Lib.extract_data,show (m+1+r)-a=n from by omega])
      have Hn:Hid (aK s.data.toList=(aK (s.data.toList.drop (m+1+r))).map ((acc ++ [(s.data.toList.drop a).take n]) ++ ·)):=zh (by
       rw[hpc.out,Hpn.out,zH jo,List.drop_drop,←hN,Option.map_map];congr 1
       funext l
       simp)
      have hown:=HT.out.own;have hbs:=HT.out.bel.size;clear Hpn hpc hN;generalize (s.data.toList.drop a).take n=x at *
      go_wp2_with (first
       | (go_at_call 78;refine(jF s[m+1] _).mono ?_;rintro e w' ⟨rfl,rfl⟩)
       | (go_at_call 77;refine hcd.mono ?_;rintro e w' ⟨rfl,rfl⟩)
       | (at_builtin;refine vH _ rfl _ _ 57 rfl w.heap.size 9 i0 _ 1 16 underlying57 hi0 hz0 hz1 hz2 rfl jd _ _ _ rfl (hown.alloc _) ⟨wr.heap.size,0,none⟩ 1 1 [.string (s.extract a (m+1+r))] rfl rfl (zy (cs:=#[.string (s.extract a (m+1+r))]) (t:=9) (fr:=(0,0)) (vI wr _)) (fun u hu=>by simp at hu;subst hu;rfl) jx jo jm ?_))
      intro v' w5 hown5 hg5 _;rw[Hx.out]at hown5;have HT5:=zh ((HT.out.below (zRR _)).put hown5 hg5);clear hown5 hg5 hown;go_wp2_with fail;go_roundw
      case rel=>exact⟨m+1+r,acc ++ [x],jo,ju,Hn,by rw[zJ,zj];omega,HT5.out⟩
      simp[intOf];omega
     have t6:((s[m].toNat:Int)==58)=false:=by rw[u6];exact zM.2 q2
     rw[zH (by simp[q2])]at e4;rw[e4]at Hpn;clear e4 g1 g2 hge hkl u5 u6 q q2 Hk hal Hend E3 Hst;obtain⟨n,hn⟩:∃n:Nat,n=m+1-a:=⟨_,rfl⟩;rw[←hn]at Hpn;have hN:a+n=m+1:=jo
     have Hx:Hid (s.extract a (m+1)=str ((s.data.toList.drop a).take n)):=zh (by
      rw[←fE (s.extract a (m+1)),Lib.extract_data,show (m+1)-a=n from by omega])
     have Hn:Hid (aK s.data.toList=(aK (s.data.toList.drop (m+1))).map ((acc ++ [(s.data.toList.drop a).take n]) ++ ·)):=zh (by
      rw[hpc.out,Hpn.out,zH jo,List.drop_drop,←hN,Option.map_map];congr 1
      funext l
      simp)
     have hown:=HT.out.own;have hbs:=HT.out.bel.size;clear Hpn hpc hN;generalize (s.data.toList.drop a).take n=x at *
     go_wp2_with (first
      | (go_at_call 78;refine(jF s[m+1] _).mono ?_;rintro e w' ⟨rfl,rfl⟩)
      | (at_builtin;refine vH _ rfl _ _ 57 rfl w.heap.size 9 i0 _ 1 16 underlying57 hi0 hz0 hz1 hz2 rfl jd _ _ _ rfl (hown.alloc _) ⟨wr.heap.size,0,none⟩ 1 1 [.string (s.extract a (m+1))] rfl rfl (zy (cs:=#[.string (s.extract a (m+1))]) (t:=9) (fr:=(0,0)) (vI wr _)) (fun u hu=>by simp at hu;subst hu;rfl) jx jo jm ?_))
     intro v' w5 hown5 hg5 _;rw[Hx.out]at hown5;have HT5:=zh ((HT.out.below (zRR _)).put hown5 hg5);clear hown5 hg5 hown;go_wp2_with fail;go_roundw
     case rel=>exact⟨m+1,acc ++ [x],jo,ju,Hn,by rw[zJ,zj];omega,HT5.out⟩
     simp[intOf];omega
    have t5:((s[m+1].toNat:Int)==34)=false:=by rw[u5];exact zM.2 q
    rw[zH (by simp[q])]at e4;rw[e4]at Hpn;clear e4 g1 g2 hge hkl u5 u6 q Hk hal Hend E3 Hst;obtain⟨n,hn⟩:∃n:Nat,n=m+1-a:=⟨_,rfl⟩;rw[←hn]at Hpn;have hN:a+n=m+1:=jo
    have Hx:Hid (s.extract a (m+1)=str ((s.data.toList.drop a).take n)):=zh (by
     rw[←fE (s.extract a (m+1)),Lib.extract_data,show (m+1)-a=n from by omega])
    have Hn:Hid (aK s.data.toList=(aK (s.data.toList.drop (m+1))).map ((acc ++ [(s.data.toList.drop a).take n]) ++ ·)):=zh (by
     rw[hpc.out,Hpn.out,zH jo,List.drop_drop,←hN,Option.map_map];congr 1
     funext l
     simp)
    have hown:=HT.out.own;have hbs:=HT.out.bel.size;clear Hpn hpc hN;generalize (s.data.toList.drop a).take n=x at *
    go_wp2_with (first
     | (go_at_call 78;refine(jF s[m+1] _).mono ?_;rintro e w' ⟨rfl,rfl⟩)
     | (at_builtin;refine vH _ rfl _ _ 57 rfl w.heap.size 9 i0 _ 1 16 underlying57 hi0 hz0 hz1 hz2 rfl jd _ _ _ rfl (hown.alloc _) ⟨wr.heap.size,0,none⟩ 1 1 [.string (s.extract a (m+1))] rfl rfl (zy (cs:=#[.string (s.extract a (m+1))]) (t:=9) (fr:=(0,0)) (vI wr _)) (fun u hu=>by simp at hu;subst hu;rfl) jx jo jm ?_))
    intro v' w5 hown5 hg5 _;rw[Hx.out]at hown5;have HT5:=zh ((HT.out.below (zRR _)).put hown5 hg5);clear hown5 hg5 hown;go_wp2_with fail;go_roundw
    case rel=>exact⟨m+1,acc ++ [x],jo,ju,Hn,by rw[zJ,zj];omega,HT5.out⟩
    simp[intOf];omega
   have he':cE s[m+1]=false:=by simpa using he
   have Hnx:Hid (∀x∈(s.data.toList.drop a).take (m+1+1-a),cE x=false):=zh (fun x hx=>by
    rw[show m+1+1-a=(m+1-a)+1 by omega,zL hkl,List.mem_append]at hx;rcases hx with hx|hx
    ·exact hal.out x hx
    rw[List.mem_singleton]at hx;rw[hx,hge];exact he')
   clear hal he g1 hge hkl u5 Hend E3 Hst Hpn hpc;go_wp2_with (go_at_call 78;refine(jF s[m+1] _).mono ?_;rintro e w' ⟨rfl,rfl⟩);go_roundw
   case rel=>exact⟨m+1,jo,jo,ju,by first|rfl|trivial,Hnx⟩
   simp[intOf];omega
  have Hk:Hid (av (s.data.toList.drop a)=m+1-a):=zh (Hend.out _ hal.out (by rw[zP,aB];omega) (fun h=>absurd h (by rw[zP,aB];omega)));have g1:(s.data.toList.drop a)[m+1-a]?=none:=List.getElem?_eq_none (by rw[zP,aB];omega);have e4:=E3.out _ Hk.out;rw[g1,zH jz]at e4;rw[e4]at Hpn;clear e4 g1 Hk hal Hend E3 Hst;have hk2:(s.size:Int)≤(m:Int)+1:=jo;obtain⟨n,hn⟩:∃n:Nat,n=m+1-a:=⟨_,rfl⟩;rw[←hn]at Hpn;have hN:a+n=m+1:=jo
  have Hx:Hid (s.extract a (m+1)=str ((s.data.toList.drop a).take n)):=zh (by
   rw[←fE (s.extract a (m+1)),Lib.extract_data,show (m+1)-a=n from by omega])
  have Hn:Hid (aK s.data.toList=(aK (s.data.toList.drop (m+1))).map ((acc ++ [(s.data.toList.drop a).take n]) ++ ·)):=zh (by
   rw[hpc.out,Hpn.out,zH jo,List.drop_drop,←hN,Option.map_map];congr 1
   funext l
   simp)
  have hown:=HT.out.own;have hbs:=HT.out.bel.size;clear Hpn hpc hN;generalize (s.data.toList.drop a).take n=x at *
  go_wp2_with (first
   | (go_at_call 78;refine(jF s[m+1] _).mono ?_;rintro e w' ⟨rfl,rfl⟩)
   | (at_builtin;refine vH _ rfl _ _ 57 rfl w.heap.size 9 i0 _ 1 16 underlying57 hi0 hz0 hz1 hz2 rfl jd _ _ _ rfl (hown.alloc _) ⟨wr.heap.size,0,none⟩ 1 1 [.string (s.extract a (m+1))] rfl rfl (zy (cs:=#[.string (s.extract a (m+1))]) (t:=9) (fr:=(0,0)) (vI wr _)) (fun u hu=>by simp at hu;subst hu;rfl) jx jo jm ?_))
  intro v' w5 hown5 hg5 _;rw[Hx.out]at hown5;have HT5:=zh ((HT.out.below (zRR _)).put hown5 hg5);clear hown5 hg5 hown;go_wp2_with fail;go_roundw
  case rel=>exact⟨m+1,acc ++ [x],jo,ju,Hn,by rw[zJ,zj];omega,HT5.out⟩
  simp[intOf];omega
 obtain rfl:a=s.size:=jo;have Fin:Hid (aK s.data.toList=some acc):=zh (by rw[hpc.out,List.drop_of_length_le (by rw[aB];omega),jD];simp);clear hpc;go_wp2_with fail;go_ret2;exact(by rw[Fin.out];exact⟨_,rfl,HT.out.own,HT.out.bel⟩)
end Qp
end Go.Proofs.YtmomjpolkkbhnaaGreat
