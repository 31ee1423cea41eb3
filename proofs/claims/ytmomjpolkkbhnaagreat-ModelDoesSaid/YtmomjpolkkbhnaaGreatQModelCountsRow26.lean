/- loggiaref17: one, and, or: the walks (printed by gen_qpu.py). -/
import Derived.Test.YtmomjpolkkbhnaaGreatQModelCountsRow18
set_option linter.unusedSimpArgs false
set_option maxRecDepth 20000
set_option maxHeartbeats 100000000
open Go.Proofs.Tryz
namespace Go.Proofs.YtmomjpolkkbhnaaGreat
namespace Qp
open Go.RowKit Ut Tk Qy
def Kc(base:Nat)(w:World)(q:Q)(p:Int)(e:Ending)(w':World):Prop:=
 ∃a0 a1 a2 a3,e=.returned (.agg #[a0,a1,a2,a3,.int .i64 p,.bool true])∧rI [a0,a1,a2,a3]∧QF w' (fun b=>base≤b∧b<w'.heap.size) q [a0,a1,a2,a3]∧zWW w w'
theorem lN(base:Nat)(k p:Int)(v:Value)(l:List Q)(vss:List (List Value))(w:World)(hQ:Qs base w v l vss)(hl:l≠[]):Calls prog 81 #[.int .i64 k,v,.int .i64 p] w (Kc base w (af k l) p):=by
 by_cases h1:l.length=1
 ·obtain⟨q,rfl⟩:=List.length_eq_one_iff.1 h1;obtain⟨b,d,A,n,c,C,m,d',rfl,hb,hbase,c0,c1,c2,c3,hF⟩:=hQ.first;have hh:=Blk.new w 96 #[.int .i64 q.kind,.string q.name,.slice A n c,.slice C m d',.int .i64 p,.bool true];have hbl:=(zw w.heap.size w).alloc (zG _) (.cells #[.int .i64 q.kind,.string q.name,.slice A n c,.slice C m d',.int .i64 p,.bool true] 96);have HF:=zh (hF.grow hbl);have Hbl:=zh hbl;clear hQ hl h1 hF hbl;go_enter func81,ntmps81;go_wp2_with fail;exact zu (aA rfl rfl (zr _ w.heap.size 96 96 _ (0,0) _ hh underlying96 rfl jk)) rfl ⟨_,_,_,_,rfl,⟨_,_,_,_,_,_,_,_,rfl⟩,HF.out,Hbl.out⟩
 rw[uR k l h1];obtain⟨C,d,rfl,hF⟩:=hQ.query k;have hbl:=(zw w.heap.size w).alloc (zG _) (.cells #[.int .i64 k,.string ⟨#[]⟩,.slice none 0 0,.slice C l.length d,.int .i64 p,.bool true] 96);have hh:=Blk.new w 96 #[.int .i64 k,.string ⟨#[]⟩,.slice none 0 0,.slice C l.length d,.int .i64 p,.bool true];have HF:=zh (hF.grow hbl);have Hbl:=zh hbl;have h1':((l.length:Int)==1)=false:=by rw[zM];omega
 clear hQ hl h1 hF hbl;generalize l.length=n at *;go_enter func81,ntmps81;go_wp2_with fail;exact zu (aA rfl rfl (zr _ w.heap.size 96 96 _ (0,0) _ hh underlying96 rfl jk)) rfl ⟨_,_,_,_,rfl,⟨_,_,_,_,_,_,_,_,rfl⟩,HF.out,Hbl.out⟩
structure Lr (w:World) (L:List P) (p:Nat) (F:List Q→Md) (m0:Md) (wr:World) (v:Value) (acc:List Q) (vss:List (List Value)) (k:Nat):Prop where
 qs:Qs (w.heap.size+1) wr v acc vss
 bl:zWW w wr
 bk:Blk wr w.heap.size 96 #[.int .i64 0,.string ByteArray.empty,.slice none 0 0,.slice none 0 0,.int .i64 0,.bool false]
 sz:w.heap.size+1≤wr.heap.size
 lo:p≤k
 hi:k≤L.length
 ln:acc.length≤k
 tk:∀o,R (F acc) (L.drop k) o→R m0 (L.drop p) o
theorem yJ(L:List P)(p:Nat)(hL:L.length≤1048576)(hp:p≤L.length)(ih:∀k,p≤k→k≤L.length→eD L k):rE L p:=by
 intro w A c hR;have hLi:(L.length:Int)≤1048576:=jo;have HB:=gX w;have Hb:=gN w;have hz:=gS w;obtain⟨i0,hi0,hz1,hz2,hz3⟩:=info_parts nC;have L0:Lr w L p Md.and (.and []) (W1 w) (.slice none 0 0) [] [] p:=⟨Qs.start _ _,Hb,HB,by rw[hz];omega,zG _,hp,zS _,fun o h=>h⟩;have HL0:=zh L0;have HR:=zh hR;have Ih:=zh ih;clear HB Hb hz L0 hR ih;unfold W1 at HL0;go_enter func79,ntmps79;go_wp2_with fail;go_loopw [1,5] (fun i v wr=>∃acc vss k,i=.int .i64 ((k:Nat):Int)∧Lr w L p Md.and (.and []) wr v acc vss k) (fun i _ _=>L.length+1-(intOf i).toNat)
 case atStart=>exact⟨_,_,_,rfl,HL0.out⟩
 obtain⟨acc,vss,k,rfl,L1⟩:=hrel;have hlo:=L1.lo;have hhi:=L1.hi;have hln:=L1.ln;have hszr:=L1.sz;have c0:=Ih.out k hlo hhi wr A c (iN HR.out L1.bl);have hk0:(0:Int)≤(k:Int):=jo;have HL:=zh L1;clear L1;go_wp2_with fail;refine c0.mono ?_;rintro e w2 ⟨a0,a1,a2,a3,z,ok,rfl,⟨k',nm',A',n',c',C',m',d',e4⟩,hb,o',hRo,hok,hres⟩;simp only[zQ,and_true]at e4;obtain⟨rfl,rfl,rfl,rfl⟩:=e4;have hsz2:=hb.size;have hbb:=(zw w2.heap.size w2).alloc (zG _) (.cells #[.int .i64 k',.string nm',.slice A' n' c',.slice C' m' d',.int .i64 z,.bool ok] 96);have hbw:=hb.trans (hbb.mono hsz2);have HQ3:=zh (HL.out.qs.grown (aJ hbw none) (fun b e=>by cases e));have HB3:=zh (HL.out.bk.below hbw jo);have Hb3:=zh (HL.out.bl.trans (hbw.mono jo));have HBx:=zh (Blk.new w2 96 #[.int .i64 k',.string nm',.slice A' n' c',.slice C' m' d',.int .i64 z,.bool ok]);have HRo:=zh hRo;have Hok:=zh hok;have Hres:=zh (fun q r h=>let ⟨k1,h1,h2,h3,h4⟩:=hres q r h;(⟨k1,h1,h2,h3,h4.grow hbb⟩:∃k1:Nat,z=(k1:Int)∧k1≤L.length∧r=L.drop k1∧QF (w2.alloc (.cells #[.int .i64 k',.string nm',.slice A' n' c',.slice C' m' d',.int .i64 z,.bool ok] 96)) (fun b=>wr.heap.size≤b∧b<(w2.alloc (.cells #[.int .i64 k',.string nm',.slice A' n' c',.slice C' m' d',.int .i64 z,.bool ok] 96)).heap.size) q [.int .i64 k',.string nm',.slice A' n' c',.slice C' m' d']));have hzw:w2.heap.size<(w2.alloc (.cells #[.int .i64 k',.string nm',.slice A' n' c',.slice C' m' d',.int .i64 z,.bool ok] 96)).heap.size:=jz;clear c0 hb hbb hbw hRo hok hres
 go_upto_region 3 with(fail);generalize hw3:w2.alloc (.cells #[.int .i64 k',.string nm',.slice A' n' c',.slice C' m' d',.int .i64 z,.bool ok] 96)=w3 at *;clear hw3;obtain⟨x0,x1,x2,x3,x4,x5,y0,y1,y2,y3,y4,y5⟩:=HBx.out.six
 match o',Hok,HRo,Hres with
 | none,Hok,HRo,Hres=>
  obtain rfl:ok=false:=Hok.out;have HHn:=zh (HL.out.tk _ (.and0 HRo.out));have c9:=gW w3;clear HQ3;go_wp2_with fail;refine c9.mono ?_;rintro e w4 ⟨rfl,hb4⟩;have B4:=HB3.out.below hb4 jo;have b4:=Hb3.out.trans (hb4.mono jo);clear hb4 c9;have HO:Hid ((World.heap w4)[w.heap.size]?=some (.cells #[.int .i64 0,.string ByteArray.empty,.slice none 0 0,.slice none 0 0,.int .i64 0,.bool false] 96 (0,0))):=zh B4;have HX:=zh (zx _ w.heap.size _ #[.int .i64 0,.string ⟨#[]⟩,.slice none 0 0,.slice none 0 0,.int .i64 0,.bool false] _ _ HO.out);have Hbl:=zh (zz b4 (zG _) #[.int .i64 0,.string ⟨#[]⟩,.slice none 0 0,.slice none 0 0,.int .i64 0,.bool false]);go_wp2_with (refine zv (o:=⟨none,.store 96 _ _,_,_,_,_⟩) rfl 96 _ _ rfl w.heap.size #[.int .i64 0,.string ⟨#[]⟩,.slice none 0 0,.slice none 0 0,.int .i64 0,.bool false] rfl rfl 96 #[.int .i64 0,.string ByteArray.empty,.slice none 0 0,.slice none 0 0,.int .i64 0,.bool false] HO.out jk rfl jt ?_);refine zu (aA rfl rfl (zr _ w.heap.size 96 96 _ (0,0) _ HX.out underlying96 rfl jk)) rfl ?_;exact⟨_,_,_,_,_,_,rfl,⟨_,_,_,_,_,_,_,_,rfl⟩,Hbl.out,none,HHn.out,rfl,(fun q r h=>by cases h)⟩
 | some (q,r),Hok,HRo,Hres=>
  obtain rfl:ok=true:=Hok.out;obtain⟨k1,rfl,hk1,rfl,hF3⟩:=Hres.out q r rfl;obtain⟨j,hj1,hj2,hj3⟩:=HRo.out.less q _ rfl;have hj4:1≤j:=hj3 (.inl rfl);rw[zP]at hj2
  have hkk:k+1≤k1:=by
   have:=congrArg List.length hj1;rw[zP,zP,zP]at this;omega
  have hk10:(0:Int)≤(k1:Int):=jo;have Hblk:=zh HQ3.out.block;have hown:=HQ3.out.own;have hsz3:w.heap.size+1≤w3.heap.size:=jo;have HF3:=zh hF3;have hvne:∀b,u5.ownBlock=some b→b<wr.heap.size:=fun b e=>(HL.out.qs.block b e).2
  have Hvne:=zh hvne;clear hj1 hj2 hj3 hF3 hvne;go_wp2_with fail
  go_region_held3 (fun w'=>w'.cell? ⟨w2.heap.size,0,none⟩=some (.int .i64 k')∧w'.cell? ⟨w2.heap.size,1,none⟩=some (.string nm')∧w'.cell? ⟨w2.heap.size,2,none⟩=some (.slice A' n' c')∧w'.cell? ⟨w2.heap.size,3,none⟩=some (.slice C' m' d')∧w'.cell? ⟨w2.heap.size,4,none⟩=some (.int .i64 (k1:Int)))
   (first|(go_split_ands;refine⟨?_,?_,?_,?_,?_⟩<;>(rw[Hkeep.out];assumption))|(go_keep;done))
   ((refine step_append_lies _ jr _ _ _ jr (w.heap.size+1) 60 i0 _ 4 72 underlying58 hi0 hz1 hz2 hz3 rfl jo u5 acc.length vss.flatten jr ((hown.alloc _).drew) ⟨w3.heap.size,0,none⟩ 1 1 [.int .i64 k',.string nm',.slice A' n' c',.slice C' m' d'] jr jr (zy (cs:=#[.int .i64 k',.string nm',.slice A' n' c',.slice C' m' d']) (t:=60) (fr:=(0,0)) (vI w3 _)) jt jo jx jo jm (w3.heap.size+1) jz ?_;intro gg cap w5 hown5 hgrow hat hlt5;have Hkeep:Hid (∀x,w5.cell? ⟨w2.heap.size,x,none⟩=(w3.alloc (.cells #[.int .i64 k',.string nm',.slice A' n' c',.slice C' m' d'] 60)).drew.cell? ⟨w2.heap.size,x,none⟩):=zh (fun x=>hgrow.cell_far ⟨w2.heap.size,x,none⟩ (by show w2.heap.size<(w3.alloc (.cells #[.int .i64 k',.string nm',.slice A' n' c',.slice C' m' d'] 60)).heap.size;rw[vK];omega) (fun e=>by have h9:w2.heap.size<wr.heap.size:=Hvne.out _ e.symm;omega))))
  have hbx:=((zw w3.heap.size w3).alloc (zG _) (.cells #[.int .i64 k',.string nm',.slice A' n' c',.slice C' m' d'] 60)).drew;have hzx:(w3.alloc (.cells #[.int .i64 k',.string nm',.slice A' n' c',.slice C' m' d'] 60)).drew.heap.size=w3.heap.size+1:=by show (w3.alloc (.cells #[.int .i64 k',.string nm',.slice A' n' c',.slice C' m' d'] 60)).heap.size=_;simp
  have Qx:=HQ3.out.grown (aJ hbx none) (fun b e=>by cases e)
  have hqx:QF (w3.alloc (.cells #[.int .i64 k',.string nm',.slice A' n' c',.slice C' m' d'] 60)).drew (Kin (w.heap.size+1) (w3.alloc (.cells #[.int .i64 k',.string nm',.slice A' n' c',.slice C' m' d'] 60)).drew u5) q [.int .i64 k',.string nm',.slice A' n' c',.slice C' m' d']:=
   (HF3.out.keep fun b o hS=>hbx.cell (p:=⟨b,o,none⟩) hS.2).mono fun b hS=>⟨by have:=hS.1;omega,by rw[hzx];have:=hS.2;omega,fun e=>by have h9:=Hvne.out _ e;have:=hS.1;omega⟩
  have hQ5:=Qx.put hqx hown5 hgrow (by rw[hzx];rcases hat with h|h;exact .inl (by rw[h];rfl);exact .inr (by rw[h];rfl));have HQ5:=zh hQ5;have HB5:Blk w5 w.heap.size 96 #[.int .i64 0,.string ByteArray.empty,.slice none 0 0,.slice none 0 0,.int .i64 0,.bool false]:=((HB3.out.alloc (.cells #[.int .i64 k',.string nm',.slice A' n' c',.slice C' m' d'] 60)).drew).grown hgrow (fun e=>by have:=(Hblk.out _ e.symm).1;omega);have Hb5:=(Hb3.out.trans (hbx.mono jo)).grown hgrow (by rw[hzx];omega) (fun b e=>by have:=(Hblk.out b e).1;omega);have hsz5:w.heap.size+1≤w5.heap.size:=by have:=hgrow.size;rw[hzx]at this;omega
  have HB5':=zh HB5;have Hb5':=zh Hb5;clear hbx hzx Qx hqx hQ5 hown5 hgrow hat hlt5 Hkeep hown HQ3 HB3 HBx HB5 Hb5 Hblk HF3 Hvne x0 x1 x2 x3 x4 x5 y0 y1 y2 y3 y4 y5;by_cases hkl:k1<L.length
  ·have hki:(k1:Int)<(L.length:Int):=jo;obtain⟨b,o9,rfl,hb9,hc9⟩:=gp HR.out hkl;have hcx:=((Hb5'.out.cell (p:=⟨b,o9+k1,none⟩) hb9).trans hc9);have hdk:L.drop k1=L[k1]::L.drop (k1+1):=zc hkl;have Hdk:=zh hdk;clear hc9 hdk;by_cases hst:fI (L.drop k1)=true
   ·have HHn:=zh (HL.out.tk _ (.and1 HRo.out (.andE hst)))
    have hs2:L[k1]=RP∨(L[k1]≠RP∧L[k1]=OR):=by
     rw[Hdk.out]at hst;unfold fI at hst;simp only[Bool.or_eq_true,beq_iff_eq]at hst;by_cases h:L[k1]=RP
     ·exact .inl h
     exact .inr ⟨h,hst.resolve_left h⟩
    have f41:((str L[k1]).toList == [41])=decide (L[k1]=RP):=by rw[aF];rfl
    have f79:((str L[k1]).toList == [79,82])=decide (L[k1]=OR):=by rw[aF];rfl
    clear hst;rcases hs2 with h|⟨h,h2⟩
    ·rw[zO h]at f41;clear h f79;generalize L[k1]=s1 at *;have c9:=lN (w.heap.size+1) 5 (k1:Int) _ _ _ w5 HQ5.out jz;go_wp2_with fail;refine c9.mono ?_;rintro e w6 ⟨b0,b1,b2,b3,rfl,⟨k',nm',A',n',c',C',m',d',e5⟩,hF6,hb6⟩;simp only[zQ,and_true]at e5;obtain⟨rfl,rfl,rfl,rfl⟩:=e5;have B6:=HB5'.out.below hb6 jo;have b6:=Hb5'.out.trans (hb6.mono jo);have HF:=zh (ig (w:=w) (g:=w.heap.size) (cs:=#[.int .i64 k',.string nm',.slice A' n' c',.slice C' m' d',.int .i64 (k1:Int),.bool true]) hF6 (Nat.lt_succ_self _) (zG _));clear hb6 c9 hF6;have HO:Hid ((World.heap w6)[w.heap.size]?=some (.cells #[.int .i64 0,.string ByteArray.empty,.slice none 0 0,.slice none 0 0,.int .i64 0,.bool false] 96 (0,0))):=zh B6;have HX:=zh (zx _ w.heap.size _ #[.int .i64 k',.string nm',.slice A' n' c',.slice C' m' d',.int .i64 (k1:Int),.bool true] _ _ HO.out);have Hbl:=zh (zz b6 (zG _) #[.int .i64 k',.string nm',.slice A' n' c',.slice C' m' d',.int .i64 (k1:Int),.bool true]);go_wp2_with (refine zv (o:=⟨none,.store 96 _ _,_,_,_,_⟩) rfl 96 _ _ rfl w.heap.size #[.int .i64 k',.string nm',.slice A' n' c',.slice C' m' d',.int .i64 (k1:Int),.bool true] rfl rfl 96 #[.int .i64 0,.string ByteArray.empty,.slice none 0 0,.slice none 0 0,.int .i64 0,.bool false] HO.out jk rfl jt ?_);refine zu (aA rfl rfl (zr _ w.heap.size 96 96 _ (0,0) _ HX.out underlying96 rfl jk)) rfl ?_;exact⟨_,_,_,_,_,_,rfl,⟨_,_,_,_,_,_,_,_,rfl⟩,Hbl.out,_,HHn.out,rfl,(fun q' r' h=>by injection h with h;simp only[Prod.mk.injEq]at h;obtain⟨rfl,rfl⟩:=h;exact⟨k1,rfl,hk1,rfl,HF.out⟩)⟩
    rw[zN h]at f41;rw[zO h2]at f79;clear h h2;generalize L[k1]=s1 at *;have c9:=lN (w.heap.size+1) 5 (k1:Int) _ _ _ w5 HQ5.out jz;go_wp2_with fail;refine c9.mono ?_;rintro e w6 ⟨b0,b1,b2,b3,rfl,⟨k',nm',A',n',c',C',m',d',e5⟩,hF6,hb6⟩;simp only[zQ,and_true]at e5;obtain⟨rfl,rfl,rfl,rfl⟩:=e5;have B6:=HB5'.out.below hb6 jo;have b6:=Hb5'.out.trans (hb6.mono jo);have HF:=zh (ig (w:=w) (g:=w.heap.size) (cs:=#[.int .i64 k',.string nm',.slice A' n' c',.slice C' m' d',.int .i64 (k1:Int),.bool true]) hF6 (Nat.lt_succ_self _) (zG _));clear hb6 c9 hF6;have HO:Hid ((World.heap w6)[w.heap.size]?=some (.cells #[.int .i64 0,.string ByteArray.empty,.slice none 0 0,.slice none 0 0,.int .i64 0,.bool false] 96 (0,0))):=zh B6;have HX:=zh (zx _ w.heap.size _ #[.int .i64 k',.string nm',.slice A' n' c',.slice C' m' d',.int .i64 (k1:Int),.bool true] _ _ HO.out);have Hbl:=zh (zz b6 (zG _) #[.int .i64 k',.string nm',.slice A' n' c',.slice C' m' d',.int .i64 (k1:Int),.bool true]);go_wp2_with (refine zv (o:=⟨none,.store 96 _ _,_,_,_,_⟩) rfl 96 _ _ rfl w.heap.size #[.int .i64 k',.string nm',.slice A' n' c',.slice C' m' d',.int .i64 (k1:Int),.bool true] rfl rfl 96 #[.int .i64 0,.string ByteArray.empty,.slice none 0 0,.slice none 0 0,.int .i64 0,.bool false] HO.out jk rfl jt ?_);refine zu (aA rfl rfl (zr _ w.heap.size 96 96 _ (0,0) _ HX.out underlying96 rfl jk)) rfl ?_;exact⟨_,_,_,_,_,_,rfl,⟨_,_,_,_,_,_,_,_,rfl⟩,Hbl.out,_,HHn.out,rfl,(fun q' r' h=>by injection h with h;simp only[Prod.mk.injEq]at h;obtain⟨rfl,rfl⟩:=h;exact⟨k1,rfl,hk1,rfl,HF.out⟩)⟩
   have hst':fI (L.drop k1)=false:=by simpa using hst
   have h1:L[k1]≠RP∧L[k1]≠OR:=by
    rw[Hdk.out]at hst';unfold fI at hst';simp only[Bool.or_eq_false_iff,zM]at hst';exact hst'
   have f41:((str L[k1]).toList == [41])=false:=by rw[aF];exact zN h1.1
   have f79:((str L[k1]).toList == [79,82])=false:=by rw[aF];exact zN h1.2
   have f65:((str L[k1]).toList == [65,78,68])=decide (L[k1]=AND):=by rw[aF];rfl
   have Hst:=zh hst';clear hst hst' h1;by_cases ha:L[k1]=AND
   ·rw[zO ha]at f65;have Hst2:Hid (∀o,R (.and (acc ++ [q])) (L.drop (k1+1)) o→R (.and acc) (L.drop k) o):=zh (fun o h=>.and1 HRo.out (by rw[Hdk.out];exact .andA ha h));clear ha;generalize L[k1]=s1 at *
    have HL5:=zh (show Lr w L p Md.and (.and []) w5 (.slice (some ⟨gg,0,none⟩) (acc.length+1) cap) (acc ++ [q]) (vss ++ [[.int .i64 k',.string nm',.slice A' n' c',.slice C' m' d']]) (k1+1)from
     ⟨HQ5.out,Hb5'.out,HB5'.out,jo,jo,jo,by rw[zJ,zj];omega,fun o h=>HL.out.tk _ (Hst2.out o h)⟩)
    go_wp2_with fail;go_roundw
    case rel=>exact⟨_,_,_,by first|rfl|go_num,HL5.out⟩
    simp[intOf];omega
   rw[zN ha]at f65
   have Hst2:Hid (∀o,R (.and (acc ++ [q])) (L.drop k1) o→R (.and acc) (L.drop k) o):=zh (fun o h=>.and1 HRo.out (by
    have h2:=Hst.out;rw[Hdk.out]at h h2 ⊢
    exact .andN h2 ha h))
   clear ha Hst;generalize L[k1]=s1 at *
   have HL5:=zh (show Lr w L p Md.and (.and []) w5 (.slice (some ⟨gg,0,none⟩) (acc.length+1) cap) (acc ++ [q]) (vss ++ [[.int .i64 k',.string nm',.slice A' n' c',.slice C' m' d']]) k1 from
    ⟨HQ5.out,Hb5'.out,HB5'.out,jo,jo,jo,by rw[zJ,zj];omega,fun o h=>HL.out.tk _ (Hst2.out o h)⟩)
   go_wp2_with fail;go_roundw
   case rel=>exact⟨_,_,_,by first|rfl|go_num,HL5.out⟩
   simp[intOf];omega
  have hki:(L.length:Int)≤(k1:Int):=jo;have HHn:=zh (HL.out.tk _ (.and1 HRo.out (.andE (by rw[List.drop_of_length_le (show L.length≤k1 by omega)];rfl))));clear hkl;have c9:=lN (w.heap.size+1) 5 (k1:Int) _ _ _ w5 HQ5.out jz;go_wp2_with fail;refine c9.mono ?_;rintro e w6 ⟨b0,b1,b2,b3,rfl,⟨k',nm',A',n',c',C',m',d',e5⟩,hF6,hb6⟩;simp only[zQ,and_true]at e5;obtain⟨rfl,rfl,rfl,rfl⟩:=e5;have B6:=HB5'.out.below hb6 jo;have b6:=Hb5'.out.trans (hb6.mono jo);have HF:=zh (ig (w:=w) (g:=w.heap.size) (cs:=#[.int .i64 k',.string nm',.slice A' n' c',.slice C' m' d',.int .i64 (k1:Int),.bool true]) hF6 (Nat.lt_succ_self _) (zG _));clear hb6 c9 hF6;have HO:Hid ((World.heap w6)[w.heap.size]?=some (.cells #[.int .i64 0,.string ByteArray.empty,.slice none 0 0,.slice none 0 0,.int .i64 0,.bool false] 96 (0,0))):=zh B6;have HX:=zh (zx _ w.heap.size _ #[.int .i64 k',.string nm',.slice A' n' c',.slice C' m' d',.int .i64 (k1:Int),.bool true] _ _ HO.out);have Hbl:=zh (zz b6 (zG _) #[.int .i64 k',.string nm',.slice A' n' c',.slice C' m' d',.int .i64 (k1:Int),.bool true]);go_wp2_with (refine zv (o:=⟨none,.store 96 _ _,_,_,_,_⟩) rfl 96 _ _ rfl w.heap.size #[.int .i64 k',.string nm',.slice A' n' c',.slice C' m' d',.int .i64 (k1:Int),.bool true] rfl rfl 96 #[.int .i64 0,.string ByteArray.empty,.slice none 0 0,.slice none 0 0,.int .i64 0,.bool false] HO.out jk rfl jt ?_);refine zu (aA rfl rfl (zr _ w.heap.size 96 96 _ (0,0) _ HX.out underlying96 rfl jk)) rfl ?_;exact⟨_,_,_,_,_,_,rfl,⟨_,_,_,_,_,_,_,_,rfl⟩,Hbl.out,_,HHn.out,rfl,(fun q' r' h=>by injection h with h;simp only[Prod.mk.injEq]at h;obtain⟨rfl,rfl⟩:=h;exact⟨k1,rfl,hk1,rfl,HF.out⟩)⟩
theorem yZ(L:List P)(p:Nat)(hL:L.length≤1048576)(hp:p≤L.length)(ih:∀k,p≤k→k≤L.length→rE L k):rJ L p:=by
 intro w A c hR;have hLi:(L.length:Int)≤1048576:=jo;have HB:=gX w;have Hb:=gN w;have hz:=gS w;obtain⟨i0,hi0,hz1,hz2,hz3⟩:=info_parts nC;have L0:Lr w L p Md.or (.or []) (W1 w) (.slice none 0 0) [] [] p:=⟨Qs.start _ _,Hb,HB,by rw[hz];omega,zG _,hp,zS _,fun o h=>h⟩;have HL0:=zh L0;have HR:=zh hR;have Ih:=zh ih;clear HB Hb hz L0 hR ih;unfold W1 at HL0;go_enter func42,ntmps42;go_wp2_with fail;go_loopw [1,5] (fun i v wr=>∃acc vss k,i=.int .i64 ((k:Nat):Int)∧Lr w L p Md.or (.or []) wr v acc vss k) (fun i _ _=>L.length+1-(intOf i).toNat)
 case atStart=>exact⟨_,_,_,rfl,HL0.out⟩
 obtain⟨acc,vss,k,rfl,L1⟩:=hrel;have hlo:=L1.lo;have hhi:=L1.hi;have hln:=L1.ln;have hszr:=L1.sz;have c0:=Ih.out k hlo hhi wr A c (iN HR.out L1.bl);have hk0:(0:Int)≤(k:Int):=jo;have HL:=zh L1;clear L1;go_wp2_with fail;refine c0.mono ?_;rintro e w2 ⟨a0,a1,a2,a3,z,ok,rfl,⟨k',nm',A',n',c',C',m',d',e4⟩,hb,o',hRo,hok,hres⟩;simp only[zQ,and_true]at e4;obtain⟨rfl,rfl,rfl,rfl⟩:=e4;have hsz2:=hb.size;have hbb:=(zw w2.heap.size w2).alloc (zG _) (.cells #[.int .i64 k',.string nm',.slice A' n' c',.slice C' m' d',.int .i64 z,.bool ok] 96);have hbw:=hb.trans (hbb.mono hsz2);have HQ3:=zh (HL.out.qs.grown (aJ hbw none) (fun b e=>by cases e));have HB3:=zh (HL.out.bk.below hbw jo);have Hb3:=zh (HL.out.bl.trans (hbw.mono jo));have HBx:=zh (Blk.new w2 96 #[.int .i64 k',.string nm',.slice A' n' c',.slice C' m' d',.int .i64 z,.bool ok]);have HRo:=zh hRo;have Hok:=zh hok;have Hres:=zh (fun q r h=>let ⟨k1,h1,h2,h3,h4⟩:=hres q r h;(⟨k1,h1,h2,h3,h4.grow hbb⟩:∃k1:Nat,z=(k1:Int)∧k1≤L.length∧r=L.drop k1∧QF (w2.alloc (.cells #[.int .i64 k',.string nm',.slice A' n' c',.slice C' m' d',.int .i64 z,.bool ok] 96)) (fun b=>wr.heap.size≤b∧b<(w2.alloc (.cells #[.int .i64 k',.string nm',.slice A' n' c',.slice C' m' d',.int .i64 z,.bool ok] 96)).heap.size) q [.int .i64 k',.string nm',.slice A' n' c',.slice C' m' d']));have hzw:w2.heap.size<(w2.alloc (.cells #[.int .i64 k',.string nm',.slice A' n' c',.slice C' m' d',.int .i64 z,.bool ok] 96)).heap.size:=jz;clear c0 hb hbb hbw hRo hok hres
 go_upto_region 3 with(fail);generalize hw3:w2.alloc (.cells #[.int .i64 k',.string nm',.slice A' n' c',.slice C' m' d',.int .i64 z,.bool ok] 96)=w3 at *;clear hw3;obtain⟨x0,x1,x2,x3,x4,x5,y0,y1,y2,y3,y4,y5⟩:=HBx.out.six
 match o',Hok,HRo,Hres with
 | none,Hok,HRo,Hres=>
  obtain rfl:ok=false:=Hok.out;have HHn:=zh (HL.out.tk _ (.or0 HRo.out));have c9:=gW w3;clear HQ3;go_wp2_with fail;refine c9.mono ?_;rintro e w4 ⟨rfl,hb4⟩;have B4:=HB3.out.below hb4 jo;have b4:=Hb3.out.trans (hb4.mono jo);clear hb4 c9;have HO:Hid ((World.heap w4)[w.heap.size]?=some (.cells #[.int .i64 0,.string ByteArray.empty,.slice none 0 0,.slice none 0 0,.int .i64 0,.bool false] 96 (0,0))):=zh B4;have HX:=zh (zx _ w.heap.size _ #[.int .i64 0,.string ⟨#[]⟩,.slice none 0 0,.slice none 0 0,.int .i64 0,.bool false] _ _ HO.out);have Hbl:=zh (zz b4 (zG _) #[.int .i64 0,.string ⟨#[]⟩,.slice none 0 0,.slice none 0 0,.int .i64 0,.bool false]);go_wp2_with (refine zv (o:=⟨none,.store 96 _ _,_,_,_,_⟩) rfl 96 _ _ rfl w.heap.size #[.int .i64 0,.string ⟨#[]⟩,.slice none 0 0,.slice none 0 0,.int .i64 0,.bool false] rfl rfl 96 #[.int .i64 0,.string ByteArray.empty,.slice none 0 0,.slice none 0 0,.int .i64 0,.bool false] HO.out jk rfl jt ?_);refine zu (aA rfl rfl (zr _ w.heap.size 96 96 _ (0,0) _ HX.out underlying96 rfl jk)) rfl ?_;exact⟨_,_,_,_,_,_,rfl,⟨_,_,_,_,_,_,_,_,rfl⟩,Hbl.out,none,HHn.out,rfl,(fun q r h=>by cases h)⟩
 | some (q,r),Hok,HRo,Hres=>
  obtain rfl:ok=true:=Hok.out;obtain⟨k1,rfl,hk1,rfl,hF3⟩:=Hres.out q r rfl;obtain⟨j,hj1,hj2,hj3⟩:=HRo.out.less q _ rfl;have hj4:1≤j:=hj3 (.inr (.inl ⟨_,rfl⟩));rw[zP]at hj2
  have hkk:k+1≤k1:=by
   have:=congrArg List.length hj1;rw[zP,zP,zP]at this;omega
  have hk10:(0:Int)≤(k1:Int):=jo;have Hblk:=zh HQ3.out.block;have hown:=HQ3.out.own;have hsz3:w.heap.size+1≤w3.heap.size:=jo;have HF3:=zh hF3;have hvne:∀b,u5.ownBlock=some b→b<wr.heap.size:=fun b e=>(HL.out.qs.block b e).2
  have Hvne:=zh hvne;clear hj1 hj2 hj3 hF3 hvne;go_wp2_with fail
  go_region_held3 (fun w'=>w'.cell? ⟨w2.heap.size,0,none⟩=some (.int .i64 k')∧w'.cell? ⟨w2.heap.size,1,none⟩=some (.string nm')∧w'.cell? ⟨w2.heap.size,2,none⟩=some (.slice A' n' c')∧w'.cell? ⟨w2.heap.size,3,none⟩=some (.slice C' m' d')∧w'.cell? ⟨w2.heap.size,4,none⟩=some (.int .i64 (k1:Int)))
   (first|(go_split_ands;refine⟨?_,?_,?_,?_,?_⟩<;>(rw[Hkeep.out];assumption))|(go_keep;done))
   ((refine step_append_lies _ jr _ _ _ jr (w.heap.size+1) 60 i0 _ 4 72 underlying58 hi0 hz1 hz2 hz3 rfl jo u5 acc.length vss.flatten jr ((hown.alloc _).drew) ⟨w3.heap.size,0,none⟩ 1 1 [.int .i64 k',.string nm',.slice A' n' c',.slice C' m' d'] jr jr (zy (cs:=#[.int .i64 k',.string nm',.slice A' n' c',.slice C' m' d']) (t:=60) (fr:=(0,0)) (vI w3 _)) jt jo jx jo jm (w3.heap.size+1) jz ?_;intro gg cap w5 hown5 hgrow hat hlt5;have Hkeep:Hid (∀x,w5.cell? ⟨w2.heap.size,x,none⟩=(w3.alloc (.cells #[.int .i64 k',.string nm',.slice A' n' c',.slice C' m' d'] 60)).drew.cell? ⟨w2.heap.size,x,none⟩):=zh (fun x=>hgrow.cell_far ⟨w2.heap.size,x,none⟩ (by show w2.heap.size<(w3.alloc (.cells #[.int .i64 k',.string nm',.slice A' n' c',.slice C' m' d'] 60)).heap.size;rw[vK];omega) (fun e=>by have h9:w2.heap.size<wr.heap.size:=Hvne.out _ e.symm;omega))))
  have hbx:=((zw w3.heap.size w3).alloc (zG _) (.cells #[.int .i64 k',.string nm',.slice A' n' c',.slice C' m' d'] 60)).drew;have hzx:(w3.alloc (.cells #[.int .i64 k',.string nm',.slice A' n' c',.slice C' m' d'] 60)).drew.heap.size=w3.heap.size+1:=by show (w3.alloc (.cells #[.int .i64 k',.string nm',.slice A' n' c',.slice C' m' d'] 60)).heap.size=_;simp
  have Qx:=HQ3.out.grown (aJ hbx none) (fun b e=>by cases e)
  have hqx:QF (w3.alloc (.cells #[.int .i64 k',.string nm',.slice A' n' c',.slice C' m' d'] 60)).drew (Kin (w.heap.size+1) (w3.alloc (.cells #[.int .i64 k',.string nm',.slice A' n' c',.slice C' m' d'] 60)).drew u5) q [.int .i64 k',.string nm',.slice A' n' c',.slice C' m' d']:=
   (HF3.out.keep fun b o hS=>hbx.cell (p:=⟨b,o,none⟩) hS.2).mono fun b hS=>⟨by have:=hS.1;omega,by rw[hzx];have:=hS.2;omega,fun e=>by have h9:=Hvne.out _ e;have:=hS.1;omega⟩
  have hQ5:=Qx.put hqx hown5 hgrow (by rw[hzx];rcases hat with h|h;exact .inl (by rw[h];rfl);exact .inr (by rw[h];rfl));have HQ5:=zh hQ5;have HB5:Blk w5 w.heap.size 96 #[.int .i64 0,.string ByteArray.empty,.slice none 0 0,.slice none 0 0,.int .i64 0,.bool false]:=((HB3.out.alloc (.cells #[.int .i64 k',.string nm',.slice A' n' c',.slice C' m' d'] 60)).drew).grown hgrow (fun e=>by have:=(Hblk.out _ e.symm).1;omega);have Hb5:=(Hb3.out.trans (hbx.mono jo)).grown hgrow (by rw[hzx];omega) (fun b e=>by have:=(Hblk.out b e).1;omega);have hsz5:w.heap.size+1≤w5.heap.size:=by have:=hgrow.size;rw[hzx]at this;omega
  have HB5':=zh HB5;have Hb5':=zh Hb5;clear hbx hzx Qx hqx hQ5 hown5 hgrow hat hlt5 Hkeep hown HQ3 HB3 HBx HB5 Hb5 Hblk HF3 Hvne x0 x1 x2 x3 x4 x5 y0 y1 y2 y3 y4 y5;by_cases hkl:k1<L.length
  ·have hki:(k1:Int)<(L.length:Int):=jo;obtain⟨b,o9,rfl,hb9,hc9⟩:=gp HR.out hkl;have hcx:=((Hb5'.out.cell (p:=⟨b,o9+k1,none⟩) hb9).trans hc9);have hdk:L.drop k1=L[k1]::L.drop (k1+1):=zc hkl;have Hdk:=zh hdk;clear hc9 hdk;by_cases hs:L[k1]=OR
   ·have f79:((str L[k1]).toList == [79,82])=true:=by rw[aF];exact zO hs
    have f79':((str L[k1]).toList != [79,82])=false:=by rw[bne,f79];rfl
    have Hst2:Hid (∀o,R (.or (acc ++ [q])) (L.drop (k1+1)) o→R (.or acc) (L.drop k) o):=zh (fun o h=>.or1 HRo.out (by rw[Hdk.out];exact .orO hs h));clear hs;generalize L[k1]=s1 at *
    have HL5:=zh (show Lr w L p Md.or (.or []) w5 (.slice (some ⟨gg,0,none⟩) (acc.length+1) cap) (acc ++ [q]) (vss ++ [[.int .i64 k',.string nm',.slice A' n' c',.slice C' m' d']]) (k1+1)from
     ⟨HQ5.out,Hb5'.out,HB5'.out,jo,jo,jo,by rw[zJ,zj];omega,fun o h=>HL.out.tk _ (Hst2.out o h)⟩)
    go_wp2_with fail;go_roundw
    case rel=>exact⟨_,_,_,by first|rfl|go_num,HL5.out⟩
    simp[intOf];omega
   have f79:((str L[k1]).toList == [79,82])=false:=by rw[aF];exact zN hs
   have f79':((str L[k1]).toList != [79,82])=true:=by rw[bne,f79];rfl
   have HHn:=zh (HL.out.tk _ (.or1 HRo.out (.orE (by rw[Hdk.out,List.head?_cons];intro e;injection e with e;exact hs e))));clear hs;generalize L[k1]=s1 at *;have c9:=lN (w.heap.size+1) 6 (k1:Int) _ _ _ w5 HQ5.out jz;go_wp2_with fail;refine c9.mono ?_;rintro e w6 ⟨b0,b1,b2,b3,rfl,⟨k',nm',A',n',c',C',m',d',e5⟩,hF6,hb6⟩;simp only[zQ,and_true]at e5;obtain⟨rfl,rfl,rfl,rfl⟩:=e5;have B6:=HB5'.out.below hb6 jo;have b6:=Hb5'.out.trans (hb6.mono jo);have HF:=zh (ig (w:=w) (g:=w.heap.size) (cs:=#[.int .i64 k',.string nm',.slice A' n' c',.slice C' m' d',.int .i64 (k1:Int),.bool true]) hF6 (Nat.lt_succ_self _) (zG _));clear hb6 c9 hF6;have HO:Hid ((World.heap w6)[w.heap.size]?=some (.cells #[.int .i64 0,.string ByteArray.empty,.slice none 0 0,.slice none 0 0,.int .i64 0,.bool false] 96 (0,0))):=zh B6;have HX:=zh (zx _ w.heap.size _ #[.int .i64 k',.string nm',.slice A' n' c',.slice C' m' d',.int .i64 (k1:Int),.bool true] _ _ HO.out);have Hbl:=zh (zz b6 (zG _) #[.int .i64 k',.string nm',.slice A' n' c',.slice C' m' d',.int .i64 (k1:Int),.bool true]);go_wp2_with (refine zv (o:=⟨none,.store 96 _ _,_,_,_,_⟩) rfl 96 _ _ rfl w.heap.size #[.int .i64 k',.string nm',.slice A' n' c',.slice C' m' d',.int .i64 (k1:Int),.bool true] rfl rfl 96 #[.int .i64 0,.string ByteArray.empty,.slice none 0 0,.slice none 0 0,.int .i64 0,.bool false] HO.out jk rfl jt ?_);refine zu (aA rfl rfl (zr _ w.heap.size 96 96 _ (0,0) _ HX.out underlying96 rfl jk)) rfl ?_;exact⟨_,_,_,_,_,_,rfl,⟨_,_,_,_,_,_,_,_,rfl⟩,Hbl.out,_,HHn.out,rfl,(fun q' r' h=>by injection h with h;simp only[Prod.mk.injEq]at h;obtain⟨rfl,rfl⟩:=h;exact⟨k1,rfl,hk1,rfl,HF.out⟩)⟩
  have hki:(L.length:Int)≤(k1:Int):=jo;have HHn:=zh (HL.out.tk _ (.or1 HRo.out (.orE (by rw[List.drop_of_length_le (show L.length≤k1 by omega)];simp))));clear hkl;have c9:=lN (w.heap.size+1) 6 (k1:Int) _ _ _ w5 HQ5.out jz;go_wp2_with fail;refine c9.mono ?_;rintro e w6 ⟨b0,b1,b2,b3,rfl,⟨k',nm',A',n',c',C',m',d',e5⟩,hF6,hb6⟩;simp only[zQ,and_true]at e5;obtain⟨rfl,rfl,rfl,rfl⟩:=e5;have B6:=HB5'.out.below hb6 jo;have b6:=Hb5'.out.trans (hb6.mono jo);have HF:=zh (ig (w:=w) (g:=w.heap.size) (cs:=#[.int .i64 k',.string nm',.slice A' n' c',.slice C' m' d',.int .i64 (k1:Int),.bool true]) hF6 (Nat.lt_succ_self _) (zG _));clear hb6 c9 hF6;have HO:Hid ((World.heap w6)[w.heap.size]?=some (.cells #[.int .i64 0,.string ByteArray.empty,.slice none 0 0,.slice none 0 0,.int .i64 0,.bool false] 96 (0,0))):=zh B6;have HX:=zh (zx _ w.heap.size _ #[.int .i64 k',.string nm',.slice A' n' c',.slice C' m' d',.int .i64 (k1:Int),.bool true] _ _ HO.out);have Hbl:=zh (zz b6 (zG _) #[.int .i64 k',.string nm',.slice A' n' c',.slice C' m' d',.int .i64 (k1:Int),.bool true]);go_wp2_with (refine zv (o:=⟨none,.store 96 _ _,_,_,_,_⟩) rfl 96 _ _ rfl w.heap.size #[.int .i64 k',.string nm',.slice A' n' c',.slice C' m' d',.int .i64 (k1:Int),.bool true] rfl rfl 96 #[.int .i64 0,.string ByteArray.empty,.slice none 0 0,.slice none 0 0,.int .i64 0,.bool false] HO.out jk rfl jt ?_);refine zu (aA rfl rfl (zr _ w.heap.size 96 96 _ (0,0) _ HX.out underlying96 rfl jk)) rfl ?_;exact⟨_,_,_,_,_,_,rfl,⟨_,_,_,_,_,_,_,_,rfl⟩,Hbl.out,_,HHn.out,rfl,(fun q' r' h=>by injection h with h;simp only[Prod.mk.injEq]at h;obtain⟨rfl,rfl⟩:=h;exact⟨k1,rfl,hk1,rfl,HF.out⟩)⟩
end Qp

namespace Qp
open Go.RowKit Ut Tk Qy
theorem Jo(L:List P)(hL:L.length≤1048576)(hpc:kM L):∀(n p:Nat),L.length-p≤n→p≤L.length→eD L p∧rE L p∧rJ L p:=by
 have pend:eD L L.length:=Fh L _ (zG _);intro n
 induction n with
 | zero=>
  intro p h1 h2;obtain rfl:p=L.length:=jo
  have ps:∀k,L.length≤k→k≤L.length→eD L k:=fun k a b=>by
   obtain rfl:k=L.length:=jo;exact pend
  have ha:=yJ L _ hL (zG _) ps
  exact⟨pend,ha,yZ L _ hL (zG _) fun k a b=>by
   obtain rfl:k=L.length:=jo
   exact ha⟩
 | succ n ih=>
  intro p h1 h2;by_cases hp:p<L.length
  ·have it:=ih (p+1) jo jo;have hx:=hpc L[p] (za hp)
   have part:eD L p:=by
    by_cases e1:L[p]=NOT
    ·exact D8 L p hp hL e1 it.1
    by_cases e2:L[p]=LP
    ·exact Fq L p hp hL e2 it.2.2
    by_cases e3:L[p]=RP
    ·exact Fj L p hp hL e3
    by_cases e4:L[p]=AND
    ·exact D7 L p hp hL e4
    by_cases e5:L[p]=OR
    ·exact Fp L p hp hL e5
    exact CJ L p hp hL (by unfold iq;simp[e1,e2,e3,e4,e5]) hx.1 hx.2
   have ps:∀k,p≤k→k≤L.length→eD L k:=fun k a b=>by
    by_cases hk:k=p
    ·subst hk;exact part
    exact(ih k jo b).1
   have ha:=yJ L p hL h2 ps
   exact⟨part,ha,yZ L p hL h2 fun k a b=>by
    by_cases hk:k=p
    ·subst hk;exact ha
    exact(ih k jo b).2.1⟩
  exact ih p jo h2
theorem lD(s:ByteArray)(w:World):Calls prog 16 #[.string s] w (xH w s.data.toList):=by
 by_cases hs:1024<s.size
 ·have hs':(1024:Int)<(s.size:Int):=jo;have HP:=zh (PrsR.long (s:=s.data.toList) (by rw[aB];exact hs));have hB:=Blk.new w 60 #[.int .i64 0,.string ⟨#[]⟩,.slice none 0 0,.slice none 0 0];have hbl:=zh ((zw w.heap.size w).alloc (zG _) (.cells #[.int .i64 0,.string ⟨#[]⟩,.slice none 0 0,.slice none 0 0] 60));clear hs;go_enter func16,ntmps16;go_wp2_with fail;exact zu (cu rfl rfl rfl hB) rfl ⟨2,none,_,_,_,_,HP.out,rfl,fF _ _,hbl.out⟩
 have hs':(s.size:Int)≤1024:=jo;have hs1:s.data.toList.length≤1024:=by rw[aB];omega
 have c0:=CK s (w.alloc (.cells #[.int .i64 0,.string ByteArray.empty,.slice none 0 0,.slice none 0 0] 60)) jo;have hpc:=o7 s.data.toList.length s.data.toList;have hpm:=oG s.data.toList.length s.data.toList;have B1:=zh (Blk.new w 60 #[.int .i64 0,.string ByteArray.empty,.slice none 0 0,.slice none 0 0]);have Hb:=zh ((zw w.heap.size w).alloc (zG _) (.cells #[.int .i64 0,.string ByteArray.empty,.slice none 0 0,.slice none 0 0] 60));have Hz:=zh (show (w.alloc (.cells #[.int .i64 0,.string ByteArray.empty,.slice none 0 0,.slice none 0 0] 60)).heap.size=w.heap.size+1 by simp);have Hs1:=zh hs1;clear hs hs1
 obtain⟨L,okp,hL,hall,hokp⟩:∃(L:List P) (okp:Bool),L.length≤1024∧kM L∧((okp=true∧aK s.data.toList=some L)∨(okp=false∧L=[]∧aK s.data.toList=none)):=by
  cases h:aK s.data.toList with
  | none=>exact⟨[],false,jz,(fun x hx=>by cases hx),.inr ⟨rfl,rfl,rfl⟩⟩
  | some l=>exact⟨l,true,by have:=hpm l (zG _) h;have:=Hs1.out;omega,(fun x hx=>by have:=hpc l (zG _) h x hx;exact⟨this.1,by have:=this.2;have:=Hs1.out;omega⟩),.inl ⟨rfl,rfl⟩⟩
 have c0':Calls prog 41 #[.string s] (w.alloc (.cells #[.int .i64 0,.string ByteArray.empty,.slice none 0 0,.slice none 0 0] 60)) fun e w3=>∃A c,e=.returned (.tuple #[.slice A L.length c,.bool okp])∧Reads w3 w3.heap.size 1 A L.length (sv L)∧Below (w.alloc (.cells #[.int .i64 0,.string ByteArray.empty,.slice none 0 0,.slice none 0 0] 60)).heap.size (w.alloc (.cells #[.int .i64 0,.string ByteArray.empty,.slice none 0 0,.slice none 0 0] 60)) w3:=by
  refine c0.mono fun e w3 h=>?_
  rcases hokp with⟨rfl,hp⟩|⟨rfl,rfl,hp⟩
  ·rw[hp]at h;obtain⟨v,rfl,hown,hb⟩:=h;obtain⟨A,c,rfl,hR⟩:=aU hown;exact⟨A,c,rfl,hR,hb⟩
  rw[hp]at h;obtain⟨rfl,hb⟩:=h;exact⟨none,0,rfl,Reads.none_,hb⟩
 have Hokp:=zh hokp;have Hall:=zh hall;clear c0 hpc hpm hokp hall;go_enter func16,ntmps16;go_wp2_with fail;refine c0'.mono ?_;rintro e w1 ⟨A,c,rfl,hR1,hb1⟩;have hsz1:w.heap.size+1≤w1.heap.size:=by have:=hb1.size;rw[Hz.out]at this;exact this
 have HB1:=zh (B1.out.below hb1 (by rw[Hz.out];omega));have Hb1:=zh (Hb.out.trans (hb1.mono (by rw[Hz.out];omega)));have c1:=(Jo L jo Hall.out L.length 0 jo (zS _)).2.2 w1 A c hR1;have hLi:(L.length:Int)≤1024:=jo;clear c0' hR1 hb1 B1 Hb;go_wp2_with fail;refine Calls.mono (show Calls prog 42 #[.slice A L.length c,.int .i64 0] w1 (nG w1 L (.or []) 0)from c1) ?_;rintro e w2 ⟨a0,a1,a2,a3,z,ok,rfl,⟨k',nm',A',n',c',C',m',d',e4⟩,hb,o',hRo,hok,hres⟩;simp only[zQ,and_true]at e4;obtain⟨rfl,rfl,rfl,rfl⟩:=e4;rw[List.drop_zero]at hRo;have hsz2:=hb.size;have hbb:=(zw w2.heap.size w2).alloc (zG _) (.cells #[.int .i64 k',.string nm',.slice A' n' c',.slice C' m' d',.int .i64 z,.bool ok] 96);have hbw:=hb.trans (hbb.mono hsz2);have HB3:=zh (HB1.out.below hbw jo);have Hb3:=zh (Hb1.out.trans (hbw.mono jo));have HBx:=zh (Blk.new w2 96 #[.int .i64 k',.string nm',.slice A' n' c',.slice C' m' d',.int .i64 z,.bool ok]);have HRo:=zh hRo;have Hok:=zh hok;have Hres:=zh (fun q r h=>let ⟨k1,h1,h2,h3,h4⟩:=hres q r h;(⟨k1,h1,h2,h3,h4.grow hbb⟩:∃k1:Nat,z=(k1:Int)∧k1≤L.length∧r=L.drop k1∧QF (w2.alloc (.cells #[.int .i64 k',.string nm',.slice A' n' c',.slice C' m' d',.int .i64 z,.bool ok] 96)) (fun b=>w1.heap.size≤b∧b<(w2.alloc (.cells #[.int .i64 k',.string nm',.slice A' n' c',.slice C' m' d',.int .i64 z,.bool ok] 96)).heap.size) q [.int .i64 k',.string nm',.slice A' n' c',.slice C' m' d']));have hzw:w2.heap.size<(w2.alloc (.cells #[.int .i64 k',.string nm',.slice A' n' c',.slice C' m' d',.int .i64 z,.bool ok] 96)).heap.size:=jz;clear c1 hb hbb hbw hRo hok hres HB1 Hb1 Hz
 go_upto_region 5 with(fail);generalize hw3:w2.alloc (.cells #[.int .i64 k',.string nm',.slice A' n' c',.slice C' m' d',.int .i64 z,.bool ok] 96)=w3 at *;clear hw3;obtain⟨x0,x1,x2,x3,x4,x5,_,_,_,_,_,_⟩:=HBx.out.six;rcases Hokp.out with⟨hok1,hpp⟩|⟨hok1,hL0,hpp⟩
 case' inr=>
  have HP:=zh (PrsR.noPieces Hs1.out hpp);clear hpp Hokp Hres HRo Hok hL0;subst hok1;obtain⟨q0,q1,q2,q3,f0,f1,f2,f3⟩:=HB3.out.four;have HX:=zh (HB3.out.set4 (.int .i64 0) (.string ⟨#[]⟩) (.slice none 0 0) (.slice none 0 0));have Hbl:=zh (bP Hb3.out (zG _) (.int .i64 0) (.string ⟨#[]⟩) (.slice none 0 0) (.slice none 0 0));go_wp2_with fail;exact zu (cu rfl rfl rfl HX.out) rfl ⟨170,none,_,_,_,_,HP.out,rfl,fF _ _,Hbl.out⟩
 case' inl=>
  have Hpp:=zh hpp;clear hpp Hokp;subst hok1
  match o',Hok,HRo,Hres with
  | none,Hok,HRo,Hres=>
   obtain rfl:ok=false:=Hok.out;have HP:=zh (PrsR.bad Hs1.out Hpp.out HRo.out);clear Hok;obtain⟨q0,q1,q2,q3,f0,f1,f2,f3⟩:=HB3.out.four;have HX:=zh (HB3.out.set4 (.int .i64 0) (.string ⟨#[]⟩) (.slice none 0 0) (.slice none 0 0));have Hbl:=zh (bP Hb3.out (zG _) (.int .i64 0) (.string ⟨#[]⟩) (.slice none 0 0) (.slice none 0 0));go_wp2_with fail;exact zu (cu rfl rfl rfl HX.out) rfl ⟨170,none,_,_,_,_,HP.out,rfl,fF _ _,Hbl.out⟩
  | some (q,r),Hok,HRo,Hres=>
   obtain rfl:ok=true:=Hok.out;obtain⟨k1,rfl,hk1,rfl,hF3⟩:=Hres.out q r rfl;have hk10:(0:Int)≤(k1:Int):=jo;have HF3:=zh hF3;clear Hres Hok hF3;by_cases hkl:k1=L.length
   case' neg=>
    have hkl':((k1:Int) != (L.length:Int))=true:=by rw[bne_iff_ne];omega
    have hkl2:((k1:Int)==(L.length:Int))=false:=by rw[zM];omega
    have hkn:(k1 != L.length)=true:=by rw[bne_iff_ne];exact hkl
    have hkn2:(k1==L.length)=false:=by rw[zM];exact hkl
    have HP:=zh (PrsR.left Hs1.out Hpp.out HRo.out (fun e=>by
     have:=congrArg List.length e;rw[zP]at this;simp at this
     omega))
    clear hkl;obtain⟨q0,q1,q2,q3,f0,f1,f2,f3⟩:=HB3.out.four;have HX:=zh (HB3.out.set4 (.int .i64 0) (.string ⟨#[]⟩) (.slice none 0 0) (.slice none 0 0));have Hbl:=zh (bP Hb3.out (zG _) (.int .i64 0) (.string ⟨#[]⟩) (.slice none 0 0) (.slice none 0 0));go_wp2_with fail;exact zu (cu rfl rfl rfl HX.out) rfl ⟨170,none,_,_,_,_,HP.out,rfl,fF _ _,Hbl.out⟩
   case' pos=>
    have hr0:L.drop k1=[]:=List.drop_of_length_le jo;have hRo2:=HRo.out;rw[hr0]at hRo2;have HRo2:=zh hRo2;have hkl':((k1:Int) != (L.length:Int))=false:=by rw[bne_eq_false_iff_eq];omega
    have hkl2:((k1:Int)==(L.length:Int))=true:=by rw[beq_iff_eq];omega
    have hkn:(k1 != L.length)=false:=by rw[bne_eq_false_iff_eq];exact hkl
    have hkn2:(k1==L.length)=true:=by rw[beq_iff_eq];exact hkl
    obtain⟨K,hK,hQW⟩:=qK hRo2 (fun x hx=>(Hall.out x hx).2) jo;have c8:=FY hQW w3 _ _ _ _ (HF3.out.at_ fun b hS=>hS.2);have HQW:=zh hQW;have hlt3:w.heap.size<w3.heap.size:=jo;clear hkl hr0 hRo2 HRo hQW;go_wp2_with fail;refine c8.mono ?_;rintro e w8 ⟨rfl,hb8⟩;clear c8 x0 x1 x2 x3 x4 x5;have hsz8:=hb8.size;have HB8:=zh (HB3.out.below hb8 hlt3);have HBx8:=zh (HBx.out.below hb8 hzw);have Hb8:=zh (Hb3.out.trans (hb8.mono jo));have HF8:=zh (HF3.out.grow hb8);clear hb8 HB3 HBx Hb3 HF3;obtain⟨x0,x1,x2,x3,x4,x5,_,_,_,_,_,_⟩:=HBx8.out.six
    cases hmq:bV q with
    | true=>
     have HP:=zh (PrsR.many Hs1.out Hpp.out HRo2.out hmq);clear hmq;obtain⟨q0,q1,q2,q3,f0,f1,f2,f3⟩:=HB8.out.four;have HX:=zh (HB8.out.set4 (.int .i64 0) (.string ⟨#[]⟩) (.slice none 0 0) (.slice none 0 0));have Hbl:=zh (bP Hb8.out (zG _) (.int .i64 0) (.string ⟨#[]⟩) (.slice none 0 0) (.slice none 0 0));go_wp2_with fail;exact zu (cu rfl rfl rfl HX.out) rfl ⟨3,none,_,_,_,_,HP.out,rfl,fF _ _,Hbl.out⟩
    | false=>
     have Hmq:=zh hmq;have c9:=Dw HQW.out hK w8 _ _ _ _ (HF8.out.at_ fun b hS=>hS.2);have hK2:bC q≤16777216:=zY HQW.out.depth hK;clear hmq;go_wp2_with fail;refine c9.mono ?_;rintro e wd ⟨rfl,hbd⟩;clear c9 x0 x1 x2 x3 x4 x5;have HBd:=zh (HB8.out.below hbd jo);have HBxd:=zh (HBx8.out.below hbd jo);have Hbd:=zh (Hb8.out.trans (hbd.mono jo));have HFd:=zh (HF8.out.grow hbd);clear hbd HB8 HBx8 Hb8 HF8;obtain⟨x0,x1,x2,x3,x4,x5,_,_,_,_,_,_⟩:=HBxd.out.six;by_cases hdp:16<bC q
     ·have hdp':(16:Int)<(bC q:Int):=jo;have HP:=zh (PrsR.deep Hs1.out Hpp.out HRo2.out Hmq.out hdp);clear hdp;generalize bC q=dq at *;obtain⟨q0,q1,q2,q3,f0,f1,f2,f3⟩:=HBd.out.four;have HX:=zh (HBd.out.set4 (.int .i64 0) (.string ⟨#[]⟩) (.slice none 0 0) (.slice none 0 0));have Hbl:=zh (bP Hbd.out (zG _) (.int .i64 0) (.string ⟨#[]⟩) (.slice none 0 0) (.slice none 0 0));go_wp2_with fail;exact zu (cu rfl rfl rfl HX.out) rfl ⟨171,none,_,_,_,_,HP.out,rfl,fF _ _,Hbl.out⟩
     have hdp':(bC q:Int)≤16:=jo;have HP:=zh (PrsR.ok Hs1.out Hpp.out HRo2.out Hmq.out jo);have HFe:=zh (eO (w:=w) HFd.out (show w.heap.size<w1.heap.size by omega) (zG _));clear hdp;generalize bC q=dq at *;obtain⟨q0,q1,q2,q3,f0,f1,f2,f3⟩:=HBd.out.four;have HX:=zh (HBd.out.set4 (.int .i64 k') (.string nm') (.slice A' n' c') (.slice C' m' d'));have Hbl:=zh (bP Hbd.out (zG _) (.int .i64 k') (.string nm') (.slice A' n' c') (.slice C' m' d'));go_wp2_with fail;exact zu (cu rfl rfl rfl HX.out) rfl ⟨0,some q,_,_,_,_,HP.out,rfl,HFe.out,Hbl.out⟩
end Qp
end Go.Proofs.YtmomjpolkkbhnaaGreat
