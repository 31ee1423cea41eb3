/- qparse: and, or: the walks (printed by gen_qpj.py). -/
import Derived.Test.YtmomjpolkkbhnaaGreatQModelCountsRow21
set_option linter.unusedSimpArgs false
set_option maxRecDepth 20000
set_option maxHeartbeats 100000000
open Go.Proofs.Tryz
namespace Go.Proofs.YtmomjpolkkbhnaaGreat
namespace Qp
open Go.RowKit Ut Tk Qy
theorem nC:(prog.info? 60).map (fun i=>(i.zero,i.size,i.bytes))=some (some (.agg #[.int .i64 0,.string ByteArray.empty,.slice none 0 0,.slice none 0 0]),4,72):=by kernel_rfl
def lenOf:Value→Nat | .slice _ n _=>n|_=>0
theorem Qs.one{base:Nat}{w:World}{q:Q}{a0 a1 a2 a3:Value}(h:QF w (fun b=>base≤b∧b<w.heap.size) q [a0,a1,a2,a3])(hb:base≤w.heap.size) :
  Qs base (w.alloc (.cells #[a0,a1,a2,a3] 60)) (.slice (some ⟨w.heap.size,0,none⟩) 1 1) [q] [[a0,a1,a2,a3]]:=by
 have hB:=Blk.new w 60 #[a0,a1,a2,a3];have hbl:=(zw w.heap.size w).alloc (zG _) (.cells #[a0,a1,a2,a3] 60);refine⟨rfl,⟨rfl,.inr ⟨w.heap.size,1,#[a0,a1,a2,a3],rfl,hb,hB,zG _,jx,rfl,rfl⟩⟩,fun i hi hi'=>?_⟩;have:i=0:=by simp at hi;exact hi
 subst this;refine(h.keep fun b o hS=>hbl.cell (p:=⟨b,o,none⟩) hS.2).mono fun b hS=>⟨hS.1,by rw[vK];have:=hS.2;omega,fun e=>?_⟩
 have:=hS.2;simp[Value.ownBlock]at e;omega
theorem Qs.len{base:Nat}{w:World}{v:Value}{l:List Q}{vss:List (List Value)}(h:Qs base w v l vss):lenOf v=l.length:=by
 obtain⟨A,c,rfl,_⟩:=aU h.own;rfl
theorem Qs.block{base:Nat}{w:World}{v:Value}{l:List Q}{vss:List (List Value)}(h:Qs base w v l vss):∀b,v.ownBlock=some b→base≤b∧b<w.heap.size:=fun b hb=>h.own.lt b hb
structure Lp (B:Nat) (w:World) (g:Nat) (l:List P) (F:List Q→Md) (m0:Md) (wr:World) (v:Value) (acc:List Q) (vss:List (List Value)) (r:List P):Prop where
 qs:Qs (w.heap.size+1) wr v acc vss
 rd:Rd B wr g r
 gr:w.grownBy wr (some g)
 bk:Blk wr w.heap.size 60 #[.int .i64 0,.string ByteArray.empty,.slice none 0 0,.slice none 0 0]
 sz:w.heap.size+1≤wr.heap.size
 su:∃k,r=l.drop k∧1≤k
 ne:acc≠[]
 ln:acc.length+r.length≤l.length
 tk:∀o,R (F acc) r o→R m0 l o
theorem Lp.moved{B:Nat}{w:World}{g:Nat}{l:List P}{F:List Q→Md}{m0:Md}{wr:World}{v:Value}{acc:List Q}{vss:List (List Value)}{r:List P}(L:Lp B w g l F m0 wr v acc vss r){w1:World}(hg:wr.grownBy w1 (some g))(hgl:g<w.heap.size) :
  Qs (w.heap.size+1) w1 v acc vss∧w.grownBy w1 (some g)∧Blk w1 w.heap.size 60 #[.int .i64 0,.string ByteArray.empty,.slice none 0 0,.slice none 0 0]∧w.heap.size+1≤w1.heap.size:=
 ⟨L.qs.grown hg (fun b e=>by injection e with e;omega),aW L.gr hg,L.bk.keep4 hg jo,zY L.sz hg.size⟩
theorem yB(l:List P)(ih:∀k,dY (l.drop k)):iw l:=by
 intro B w g hR;have hgl:=hR.lt;have hlow:=hR.low;have hmany:=hR.many;have hb0:=zh (dA w);have HB0:=zh (iI w);have hz0:=iH w;have c0:=(by have h:=ih 0;rw[List.drop_zero]at h;exact h:dY l) B (W0 w) g (hR.below (dA w));obtain⟨i0,hi0,hz1,hz2,hz3⟩:=info_parts nC;clear hR;unfold W0 at hb0 HB0 hz0 c0;go_enter func125,ntmps125;go_wp2_with fail;refine c0.mono ?_;rintro e w2 ⟨o,hRo,hpost⟩;have HRo:=zh hRo;clear c0 hRo
 match o,hpost,HRo with
 | none,hpost,HRo=>
  obtain⟨rfl,hg2⟩:=hpost;have Hg2:=zh hg2;clear hg2;unfold eu;exact⟨rfl,none,.and0 HRo.out,rfl,aW (aJ hb0.out _) Hg2.out⟩
 | some (q,r),hpost,HRo=>
  obtain⟨a0,a1,a2,a3,rfl,hF,hR2,hg2⟩:=hpost;rw[hz0]at hF;obtain⟨k,hk1,hk2,hk3⟩:=HRo.out.less q r rfl;have hk4:1≤k:=hk3 (.inl rfl);have hlt2:w.heap.size+1≤w2.heap.size:=by have:=hg2.size;rw[hz0]at this;exact this
  have L0:Lp B w g l Md.andT (.and []) (w2.alloc (.cells #[a0,a1,a2,a3] 60)) (.slice (some ⟨w2.heap.size,0,none⟩) 1 1) [q] [[a0,a1,a2,a3]] r:=
   ⟨Qs.one hF hlt2,hR2.below (zRR _),aW (aW (aJ hb0.out _) hg2) (World.grownBy_alloc _ _ _),(HB0.out.keep4 hg2 jo).alloc _,by rw[vK];omega,
    ⟨k,hk1,hk4⟩,jz,by rw[hk1,zj,zP];omega,fun o h=>.and1 HRo.out h⟩
  have HL0:=zh L0;obtain⟨A',n',c',C',m',d',e4⟩:=hF.four;simp only[zQ,and_true]at e4;obtain⟨rfl,rfl,rfl,rfl⟩:=e4;clear L0 hF hR2 hg2 HB0 hb0 hk1 hk2 hk3 hk4 HRo hlt2 hz0;go_wp2_with fail;go_loopw [3] (fun v wr=>∃acc vss r,Lp B w g l Md.andT (.and []) wr v acc vss r) (fun v _=>l.length+1-lenOf v)
  case atStart=>exact⟨_,_,_,HL0.out⟩
  obtain⟨acc,vss,r,L⟩:=hrel;have hln:=L.ln;have hlen:=L.qs.len
  match r,L,hln with
  | [],L,hln=>
   have HHR:=zh (L.tk _ (.andE rfl));have cp:=pY B wr g L.rd;have Hlen:=zh hlen;clear hlen;have c3:=lJ (w.heap.size+1) 5 u3 acc vss wr L.qs L.ne;go_wp2_with (go_at_call 126;refine cp.mono ?_;rintro e w' ⟨rfl,rfl⟩);refine c3.mono ?_;rintro e w4 ⟨b0,b1,b2,b3,rfl,hF4,hb4⟩;have hbk:=L.bk.below hb4 (by have:=L.sz;omega);obtain⟨q0,q1,q2,q3,f0,f1,f2,f3⟩:=hbk.four;obtain⟨A',n',c',C',m',d',e4⟩:=hF4.four;simp only[zQ,and_true]at e4;obtain⟨rfl,rfl,rfl,rfl⟩:=e4;have hX:=hbk.set4 (.int .i64 (af 5 acc).kind) (.string (af 5 acc).name) (.slice A' n' c') (.slice C' m' d');have hg5:=gH w4 w.heap.size (.int .i64 (af 5 acc).kind) (.string (af 5 acc).name) (.slice A' n' c') (.slice C' m' d');have HF:=zh (eO (w:=w) hF4 jo (zG _));have HRX:=zh ((L.rd.below hb4).other hg5 (fun b e=>by injection e with e;omega));have HGX:=zh (fP (aW L.gr (aJ hb4 _)) hg5 (fun b e=>by injection e with e;omega));have HX:=zh hX;clear hX hg5 hF4 hbk hb4 c3 L;go_wp2_with fail;refine zu (aA rfl rfl (zr _ w.heap.size 60 60 #[.int .i64 (af 5 acc).kind,.string (af 5 acc).name,.slice A' n' c',.slice C' m' d'] (0,0) _ HX.out underlying60 rfl jk)) rfl ?_;exact⟨_,HHR.out,_,_,_,_,rfl,HF.out,HRX.out,HGX.out⟩
  | s::t,L,hln=>
   have f41:((str s).toList == [41])=decide (s=RP):=by rw[aF];rfl
   have f79:((str s).toList == [79,82])=decide (s=OR):=by rw[aF];rfl
   have f65:((str s).toList == [65,78,68])=decide (s=AND):=by rw[aF];rfl
   have fe:=gT s (L.rd.ne s jz);have cp:=o8 B wr g s t L.rd;by_cases hs:fI (s::t)=true
   ·have hs2:s=RP∨(s≠RP∧s=OR):=by
     unfold fI at hs;simp only[Bool.or_eq_true,beq_iff_eq]at hs;by_cases h:s=RP
     ·exact .inl h
     exact .inr ⟨h,hs.resolve_left h⟩
    have HHR:=zh (L.tk _ (.andE hs));have Hlen:=zh hlen;clear hlen hs f65;rcases hs2 with h|⟨h,h2⟩
    ·rw[zO h]at f41;clear h f79;have c3:=lJ (w.heap.size+1) 5 u3 acc vss wr L.qs L.ne;go_wp2_with (go_at_call 126;refine cp.mono ?_;rintro e w' ⟨rfl,rfl⟩);refine c3.mono ?_;rintro e w4 ⟨b0,b1,b2,b3,rfl,hF4,hb4⟩;have hbk:=L.bk.below hb4 (by have:=L.sz;omega);obtain⟨q0,q1,q2,q3,f0,f1,f2,f3⟩:=hbk.four;obtain⟨A',n',c',C',m',d',e4⟩:=hF4.four;simp only[zQ,and_true]at e4;obtain⟨rfl,rfl,rfl,rfl⟩:=e4;have hX:=hbk.set4 (.int .i64 (af 5 acc).kind) (.string (af 5 acc).name) (.slice A' n' c') (.slice C' m' d');have hg5:=gH w4 w.heap.size (.int .i64 (af 5 acc).kind) (.string (af 5 acc).name) (.slice A' n' c') (.slice C' m' d');have HF:=zh (eO (w:=w) hF4 jo (zG _));have HRX:=zh ((L.rd.below hb4).other hg5 (fun b e=>by injection e with e;omega));have HGX:=zh (fP (aW L.gr (aJ hb4 _)) hg5 (fun b e=>by injection e with e;omega));have HX:=zh hX;clear hX hg5 hF4 hbk hb4 c3 L;go_wp2_with fail;refine zu (aA rfl rfl (zr _ w.heap.size 60 60 #[.int .i64 (af 5 acc).kind,.string (af 5 acc).name,.slice A' n' c',.slice C' m' d'] (0,0) _ HX.out underlying60 rfl jk)) rfl ?_;exact⟨_,HHR.out,_,_,_,_,rfl,HF.out,HRX.out,HGX.out⟩
    rw[zN h]at f41;rw[zO h2]at f79;clear h h2;have c3:=lJ (w.heap.size+1) 5 u3 acc vss wr L.qs L.ne;go_wp2_with (go_at_call 126;refine cp.mono ?_;rintro e w' ⟨rfl,rfl⟩);refine c3.mono ?_;rintro e w4 ⟨b0,b1,b2,b3,rfl,hF4,hb4⟩;have hbk:=L.bk.below hb4 (by have:=L.sz;omega);obtain⟨q0,q1,q2,q3,f0,f1,f2,f3⟩:=hbk.four;obtain⟨A',n',c',C',m',d',e4⟩:=hF4.four;simp only[zQ,and_true]at e4;obtain⟨rfl,rfl,rfl,rfl⟩:=e4;have hX:=hbk.set4 (.int .i64 (af 5 acc).kind) (.string (af 5 acc).name) (.slice A' n' c') (.slice C' m' d');have hg5:=gH w4 w.heap.size (.int .i64 (af 5 acc).kind) (.string (af 5 acc).name) (.slice A' n' c') (.slice C' m' d');have HF:=zh (eO (w:=w) hF4 jo (zG _));have HRX:=zh ((L.rd.below hb4).other hg5 (fun b e=>by injection e with e;omega));have HGX:=zh (fP (aW L.gr (aJ hb4 _)) hg5 (fun b e=>by injection e with e;omega));have HX:=zh hX;clear hX hg5 hF4 hbk hb4 c3 L;go_wp2_with fail;refine zu (aA rfl rfl (zr _ w.heap.size 60 60 #[.int .i64 (af 5 acc).kind,.string (af 5 acc).name,.slice A' n' c',.slice C' m' d'] (0,0) _ HX.out underlying60 rfl jk)) rfl ?_;exact⟨_,HHR.out,_,_,_,_,rfl,HF.out,HRX.out,HGX.out⟩
   have hs':fI (s::t)=false:=by simpa using hs
   have h1:s≠RP∧s≠OR:=by
    unfold fI at hs';simp only[Bool.or_eq_false_iff,zM]at hs';exact hs'
   rw[zN h1.1]at f41;rw[zN h1.2]at f79;obtain⟨k,hk,hkp⟩:=L.su;have hkt:t=l.drop (k+1):=by rw[←List.drop_drop,←hk];rfl
   by_cases ha:s=AND
   ·rw[zO ha]at f65;have cx:=gK B wr g s t L.rd;have cq:=fun w1 (h:Rd B w1 g t)=>(by rw[hkt]at h ⊢;exact ih (k+1) B w1 g h:Calls prog 152 #[.pointer (some ⟨g,0,none⟩)] w1 (kI B w1 g .part t))
    have Cq:=zh cq;have Ha:=zh ha;have Hkt:=zh hkt;clear hs hs' h1 hk hkp hkt ha cq;go_wp2_with (go_at_call 126;refine cp.mono ?_;rintro e w' ⟨rfl,rfl⟩);refine cx.mono ?_;rintro e w1 ⟨rfl,hR1,hgn⟩;have c1:=Cq.out w1 hR1;clear cx Cq hR1 cp;obtain⟨Q1,G1,K1,Z1⟩:=L.moved hgn hgl;have Hlen:=zh hlen;have HQ1:=zh Q1;have HG1:=zh G1;have HK1:=zh K1;have HL:=zh L;clear L hlen Q1 G1 K1 hgn;go_wp2_with fail;refine c1.mono ?_;rintro e w3 ⟨o,hRo,hpost⟩;have HRo:=zh hRo;clear c1 hRo
    match o,hpost,HRo with
    | none,hpost,HRo=>
     obtain⟨rfl,hg3⟩:=hpost;have Hg3:=zh hg3;clear hg3;unfold eu;exact⟨rfl,none,HL.out.tk _ (.andA Ha.out (.and0 HRo.out)),rfl,aW HG1.out Hg3.out⟩
    | some (q,r3),hpost,HRo=>
     obtain⟨a0,a1,a2,a3,rfl,hF,hR3,hg3⟩:=hpost;obtain⟨k3,hk1,hk2,hk3⟩:=HRo.out.less q r3 rfl;have hk4:1≤k3:=hk3 (.inl rfl);have hsz3:=hg3.size;have Q3:=(HQ1.out.grown hg3 (fun b e=>by injection e with e;omega));have hblk:=HQ1.out.block;have hvb:∀b,u3.ownBlock=some b→b<w1.heap.size:=fun b e=>(hblk b e).2
     have hbl:=(zw w3.heap.size w3).alloc (zG _) (.cells #[a0,a1,a2,a3] 60);have Qx:=Q3.grown (aJ hbl none) (fun b e=>by cases e)
     have hqx:QF (w3.alloc (.cells #[a0,a1,a2,a3] 60)) (Kin (w.heap.size+1) (w3.alloc (.cells #[a0,a1,a2,a3] 60)) u3) q [a0,a1,a2,a3]:=
      (hF.keep fun b o hS=>hbl.cell (p:=⟨b,o,none⟩) hS.2).mono fun b hS=>⟨by have:=hS.1;omega,by rw[vK];have:=hS.2;omega,fun e=>by have:=hvb b e;have:=hS.1;omega⟩
     have HRx:=zh (hR3.below hbl);have HGx:=zh (aW (aW HG1.out hg3) (aJ hbl _));have HKx:=zh ((HK1.out.keep4 hg3 jo).alloc (.cells #[a0,a1,a2,a3] 60));have Hblk:=zh Qx.block;have HQx:=zh Qx;have Hqx:=zh hqx;have hown:=Qx.own;have hacc:acc.length≤1048576:=jo;obtain⟨A',n',c',C',m',d',e4⟩:=hF.four;simp only[zQ,and_true]at e4;obtain⟨rfl,rfl,rfl,rfl⟩:=e4;have Hk1:=zh hk1;have hbase:w.heap.size+1≤(w3.alloc (.cells #[.int .i64 q.kind,.string q.name,.slice A' n' c',.slice C' m' d'] 60)).heap.size:=by rw[vK];omega
     clear Q3 hblk hvb hbl Qx hqx hF hR3 hg3 hk1 hk3;go_wp2_with (at_builtin;refine wpList_append_own_at _ rfl _ _ 58 rfl (w.heap.size+1) 60 i0 _ 4 72 underlying58 hi0 hz1 hz2 hz3 rfl jd _ _ _ rfl hown ⟨w3.heap.size,0,none⟩ 1 1 [.int .i64 q.kind,.string q.name,.slice A' n' c',.slice C' m' d'] rfl rfl (zy (cs:=#[.int .i64 q.kind,.string q.name,.slice A' n' c',.slice C' m' d']) (t:=60) (fr:=(0,0)) (vI w3 _)) (fun u hu=>by simp at hu;rcases hu with rfl|rfl|rfl|rfl<;>rfl) jx jo hbase ?_);intro v' w5 hown5 hg5 _ hv5;have hQ5:=HQx.out.put Hqx.out hown5 hg5 (by rw[vK];exact hv5)
     have L5:Lp B w g l Md.andT (.and []) w5 v' (acc ++ [q]) (vss ++ [[.int .i64 q.kind,.string q.name,.slice A' n' c',.slice C' m' d']]) r3:=
      ⟨hQ5,HRx.out.other hg5 (fun b e=>by have:=(Hblk.out b e).1;exact⟨jo,jo⟩),fP HGx.out hg5 (fun b e=>by have:=(Hblk.out b e).1;omega),HKx.out.grown hg5 (fun e=>by have:=(Hblk.out _ e.symm).1;omega),zY hbase hg5.size,
       by obtain⟨k,h1,h2⟩:=HL.out.su;exact⟨k+1+k3,by rw[Hk1.out,←List.drop_drop,←List.drop_drop,←h1];rfl,jo⟩,jz,by rw[Hk1.out,zJ,zP,zj];simp only[zV]at hk2 hln ⊢;omega,fun o h=>HL.out.tk _ (.andA Ha.out (.and1 HRo.out h))⟩
     have HL5:=zh L5;have Hlen5:Hid (lenOf v'=acc.length+1):=zh (by rw[hQ5.len,zJ,zj]);clear hQ5 hown5 hg5 hv5 hown L5 HL HQx Hqx;go_wp2_with fail;go_roundw
     case rel=>exact⟨_,_,_,HL5.out⟩
     simp[Hlen5.out,Hlen.out];omega
   rw[zN ha]at f65;have c1:=(by have:=L.rd;rw[hk]at this ⊢;exact ih k B wr g this:Calls prog 152 #[.pointer (some ⟨g,0,none⟩)] wr (kI B wr g .part (s::t)));have Ha:=zh ha;have Hs:=zh hs';have hgn:=Aa wr (some g);clear hs hs' h1 hk hkp hkt ha;obtain⟨Q1,G1,K1,Z1⟩:=L.moved hgn hgl;have Hlen:=zh hlen;have HQ1:=zh Q1;have HG1:=zh G1;have HK1:=zh K1;have HL:=zh L;clear L hlen Q1 G1 K1 hgn;go_wp2_with (go_at_call 126;refine cp.mono ?_;rintro e w' ⟨rfl,rfl⟩);refine c1.mono ?_;rintro e w3 ⟨o,hRo,hpost⟩;have HRo:=zh hRo;clear c1 hRo
   match o,hpost,HRo with
   | none,hpost,HRo=>
    obtain⟨rfl,hg3⟩:=hpost;have Hg3:=zh hg3;clear hg3;unfold eu;exact⟨rfl,none,HL.out.tk _ (.andN Hs.out Ha.out (.and0 HRo.out)),rfl,aW HG1.out Hg3.out⟩
   | some (q,r3),hpost,HRo=>
    obtain⟨a0,a1,a2,a3,rfl,hF,hR3,hg3⟩:=hpost;obtain⟨k3,hk1,hk2,hk3⟩:=HRo.out.less q r3 rfl;have hk4:1≤k3:=hk3 (.inl rfl);have hsz3:=hg3.size;have Q3:=(HQ1.out.grown hg3 (fun b e=>by injection e with e;omega));have hblk:=HQ1.out.block;have hvb:∀b,u3.ownBlock=some b→b<wr.heap.size:=fun b e=>(hblk b e).2
    have hbl:=(zw w3.heap.size w3).alloc (zG _) (.cells #[a0,a1,a2,a3] 60);have Qx:=Q3.grown (aJ hbl none) (fun b e=>by cases e)
    have hqx:QF (w3.alloc (.cells #[a0,a1,a2,a3] 60)) (Kin (w.heap.size+1) (w3.alloc (.cells #[a0,a1,a2,a3] 60)) u3) q [a0,a1,a2,a3]:=
     (hF.keep fun b o hS=>hbl.cell (p:=⟨b,o,none⟩) hS.2).mono fun b hS=>⟨by have:=hS.1;omega,by rw[vK];have:=hS.2;omega,fun e=>by have:=hvb b e;have:=hS.1;omega⟩
    have HRx:=zh (hR3.below hbl);have HGx:=zh (aW (aW HG1.out hg3) (aJ hbl _));have HKx:=zh ((HK1.out.keep4 hg3 jo).alloc (.cells #[a0,a1,a2,a3] 60));have Hblk:=zh Qx.block;have HQx:=zh Qx;have Hqx:=zh hqx;have hown:=Qx.own;have hacc:acc.length≤1048576:=jo;obtain⟨A',n',c',C',m',d',e4⟩:=hF.four;simp only[zQ,and_true]at e4;obtain⟨rfl,rfl,rfl,rfl⟩:=e4;have Hk1:=zh hk1;have hbase:w.heap.size+1≤(w3.alloc (.cells #[.int .i64 q.kind,.string q.name,.slice A' n' c',.slice C' m' d'] 60)).heap.size:=by rw[vK];omega
    clear Q3 hblk hvb hbl Qx hqx hF hR3 hg3 hk1 hk3;go_wp2_with (at_builtin;refine wpList_append_own_at _ rfl _ _ 58 rfl (w.heap.size+1) 60 i0 _ 4 72 underlying58 hi0 hz1 hz2 hz3 rfl jd _ _ _ rfl hown ⟨w3.heap.size,0,none⟩ 1 1 [.int .i64 q.kind,.string q.name,.slice A' n' c',.slice C' m' d'] rfl rfl (zy (cs:=#[.int .i64 q.kind,.string q.name,.slice A' n' c',.slice C' m' d']) (t:=60) (fr:=(0,0)) (vI w3 _)) (fun u hu=>by simp at hu;rcases hu with rfl|rfl|rfl|rfl<;>rfl) jx jo hbase ?_);intro v' w5 hown5 hg5 _ hv5;have hQ5:=HQx.out.put Hqx.out hown5 hg5 (by rw[vK];exact hv5)
    have L5:Lp B w g l Md.andT (.and []) w5 v' (acc ++ [q]) (vss ++ [[.int .i64 q.kind,.string q.name,.slice A' n' c',.slice C' m' d']]) r3:=
     ⟨hQ5,HRx.out.other hg5 (fun b e=>by have:=(Hblk.out b e).1;exact⟨jo,jo⟩),fP HGx.out hg5 (fun b e=>by have:=(Hblk.out b e).1;omega),HKx.out.grown hg5 (fun e=>by have:=(Hblk.out _ e.symm).1;omega),zY hbase hg5.size,
      by obtain⟨k,h1,h2⟩:=HL.out.su;exact⟨k+k3,by rw[Hk1.out,←List.drop_drop,←h1],jo⟩,jz,by rw[Hk1.out,zJ,zP,zj];simp only[zV]at hk2 hln ⊢;omega,fun o h=>HL.out.tk _ (.andN Hs.out Ha.out (.and1 HRo.out h))⟩
    have HL5:=zh L5;have Hlen5:Hid (lenOf v'=acc.length+1):=zh (by rw[hQ5.len,zJ,zj]);clear hQ5 hown5 hg5 hv5 hown L5 HL HQx Hqx;go_wp2_with fail;go_roundw
    case rel=>exact⟨_,_,_,HL5.out⟩
    simp[Hlen5.out,Hlen.out];omega
theorem yY(l:List P)(ih:∀k,iw (l.drop k)):rH l:=by
 intro B w g hR;have hgl:=hR.lt;have hlow:=hR.low;have hmany:=hR.many;have hb0:=zh (dA w);have HB0:=zh (iI w);have hz0:=iH w;have c0:=(by have h:=ih 0;rw[List.drop_zero]at h;exact h:iw l) B (W0 w) g (hR.below (dA w));obtain⟨i0,hi0,hz1,hz2,hz3⟩:=info_parts nC;clear hR;unfold W0 at hb0 HB0 hz0 c0;go_enter func97,ntmps97;go_wp2_with fail;refine c0.mono ?_;rintro e w2 ⟨o,hRo,hpost⟩;have HRo:=zh hRo;clear c0 hRo
 match o,hpost,HRo with
 | none,hpost,HRo=>
  obtain⟨rfl,hg2⟩:=hpost;have Hg2:=zh hg2;clear hg2;unfold eu;exact⟨rfl,none,.or0 HRo.out,rfl,aW (aJ hb0.out _) Hg2.out⟩
 | some (q,r),hpost,HRo=>
  obtain⟨a0,a1,a2,a3,rfl,hF,hR2,hg2⟩:=hpost;rw[hz0]at hF;obtain⟨k,hk1,hk2,hk3⟩:=HRo.out.less q r rfl;have hk4:1≤k:=hk3 (.inr (.inl ⟨_,rfl⟩));have hlt2:w.heap.size+1≤w2.heap.size:=by have:=hg2.size;rw[hz0]at this;exact this
  have L0:Lp B w g l Md.orT (.or []) (w2.alloc (.cells #[a0,a1,a2,a3] 60)) (.slice (some ⟨w2.heap.size,0,none⟩) 1 1) [q] [[a0,a1,a2,a3]] r:=
   ⟨Qs.one hF hlt2,hR2.below (zRR _),aW (aW (aJ hb0.out _) hg2) (World.grownBy_alloc _ _ _),(HB0.out.keep4 hg2 jo).alloc _,by rw[vK];omega,
    ⟨k,hk1,hk4⟩,jz,by rw[hk1,zj,zP];omega,fun o h=>.or1 HRo.out h⟩
  have HL0:=zh L0;obtain⟨A',n',c',C',m',d',e4⟩:=hF.four;simp only[zQ,and_true]at e4;obtain⟨rfl,rfl,rfl,rfl⟩:=e4;clear L0 hF hR2 hg2 HB0 hb0 hk1 hk2 hk3 hk4 HRo hlt2 hz0;go_wp2_with fail;go_loopw [3] (fun v wr=>∃acc vss r,Lp B w g l Md.orT (.or []) wr v acc vss r) (fun v _=>l.length+1-lenOf v)
  case atStart=>exact⟨_,_,_,HL0.out⟩
  obtain⟨acc,vss,r,L⟩:=hrel;have hln:=L.ln;have hlen:=L.qs.len
  match r,L,hln with
  | [],L,hln=>
   have HHR:=zh (L.tk _ (.orE jz));have cp:=pY B wr g L.rd;have Hlen:=zh hlen;clear hlen;have c3:=lJ (w.heap.size+1) 6 u3 acc vss wr L.qs L.ne;go_wp2_with (go_at_call 126;refine cp.mono ?_;rintro e w' ⟨rfl,rfl⟩);refine c3.mono ?_;rintro e w4 ⟨b0,b1,b2,b3,rfl,hF4,hb4⟩;have hbk:=L.bk.below hb4 (by have:=L.sz;omega);obtain⟨q0,q1,q2,q3,f0,f1,f2,f3⟩:=hbk.four;obtain⟨A',n',c',C',m',d',e4⟩:=hF4.four;simp only[zQ,and_true]at e4;obtain⟨rfl,rfl,rfl,rfl⟩:=e4;have hX:=hbk.set4 (.int .i64 (af 6 acc).kind) (.string (af 6 acc).name) (.slice A' n' c') (.slice C' m' d');have hg5:=gH w4 w.heap.size (.int .i64 (af 6 acc).kind) (.string (af 6 acc).name) (.slice A' n' c') (.slice C' m' d');have HF:=zh (eO (w:=w) hF4 jo (zG _));have HRX:=zh ((L.rd.below hb4).other hg5 (fun b e=>by injection e with e;omega));have HGX:=zh (fP (aW L.gr (aJ hb4 _)) hg5 (fun b e=>by injection e with e;omega));have HX:=zh hX;clear hX hg5 hF4 hbk hb4 c3 L;go_wp2_with fail;refine zu (aA rfl rfl (zr _ w.heap.size 60 60 #[.int .i64 (af 6 acc).kind,.string (af 6 acc).name,.slice A' n' c',.slice C' m' d'] (0,0) _ HX.out underlying60 rfl jk)) rfl ?_;exact⟨_,HHR.out,_,_,_,_,rfl,HF.out,HRX.out,HGX.out⟩
  | s::t,L,hln=>
   have f79:((str s).toList == [79,82])=decide (s=OR):=by rw[aF];rfl
   have fe:=gT s (L.rd.ne s jz);have cp:=o8 B wr g s t L.rd;by_cases hs:s=OR
   ·rw[zO hs]at f79;obtain⟨k,hk,hkp⟩:=L.su;have hkt:t=l.drop (k+1):=by rw[←List.drop_drop,←hk];rfl
    have cx:=gK B wr g s t L.rd;have cq:=fun w1 (h:Rd B w1 g t)=>(by rw[hkt]at h ⊢;exact ih (k+1) B w1 g h:Calls prog 125 #[.pointer (some ⟨g,0,none⟩)] w1 (kI B w1 g (.and []) t))
    have Cq:=zh cq;have Hs:=zh hs;have Hkt:=zh hkt;clear hs hk hkp hkt cq;go_wp2_with (go_at_call 126;refine cp.mono ?_;rintro e w' ⟨rfl,rfl⟩);refine cx.mono ?_;rintro e w1 ⟨rfl,hR1,hgn⟩;have c1:=Cq.out w1 hR1;clear cx Cq hR1 cp;obtain⟨Q1,G1,K1,Z1⟩:=L.moved hgn hgl;have Hlen:=zh hlen;have HQ1:=zh Q1;have HG1:=zh G1;have HK1:=zh K1;have HL:=zh L;clear L hlen Q1 G1 K1 hgn;go_wp2_with fail;refine c1.mono ?_;rintro e w3 ⟨o,hRo,hpost⟩;have HRo:=zh hRo;clear c1 hRo
    match o,hpost,HRo with
    | none,hpost,HRo=>
     obtain⟨rfl,hg3⟩:=hpost;have Hg3:=zh hg3;clear hg3;unfold eu;exact⟨rfl,none,HL.out.tk _ (.orO Hs.out (.or0 HRo.out)),rfl,aW HG1.out Hg3.out⟩
    | some (q,r3),hpost,HRo=>
     obtain⟨a0,a1,a2,a3,rfl,hF,hR3,hg3⟩:=hpost;obtain⟨k3,hk1,hk2,hk3⟩:=HRo.out.less q r3 rfl;have hk4:1≤k3:=hk3 (.inr (.inl ⟨_,rfl⟩));have hsz3:=hg3.size;have Q3:=(HQ1.out.grown hg3 (fun b e=>by injection e with e;omega));have hblk:=HQ1.out.block;have hvb:∀b,u3.ownBlock=some b→b<w1.heap.size:=fun b e=>(hblk b e).2
     have hbl:=(zw w3.heap.size w3).alloc (zG _) (.cells #[a0,a1,a2,a3] 60);have Qx:=Q3.grown (aJ hbl none) (fun b e=>by cases e)
     have hqx:QF (w3.alloc (.cells #[a0,a1,a2,a3] 60)) (Kin (w.heap.size+1) (w3.alloc (.cells #[a0,a1,a2,a3] 60)) u3) q [a0,a1,a2,a3]:=
      (hF.keep fun b o hS=>hbl.cell (p:=⟨b,o,none⟩) hS.2).mono fun b hS=>⟨by have:=hS.1;omega,by rw[vK];have:=hS.2;omega,fun e=>by have:=hvb b e;have:=hS.1;omega⟩
     have HRx:=zh (hR3.below hbl);have HGx:=zh (aW (aW HG1.out hg3) (aJ hbl _));have HKx:=zh ((HK1.out.keep4 hg3 jo).alloc (.cells #[a0,a1,a2,a3] 60));have Hblk:=zh Qx.block;have HQx:=zh Qx;have Hqx:=zh hqx;have hown:=Qx.own;have hacc:acc.length≤1048576:=jo;obtain⟨A',n',c',C',m',d',e4⟩:=hF.four;simp only[zQ,and_true]at e4;obtain⟨rfl,rfl,rfl,rfl⟩:=e4;have Hk1:=zh hk1;have hbase:w.heap.size+1≤(w3.alloc (.cells #[.int .i64 q.kind,.string q.name,.slice A' n' c',.slice C' m' d'] 60)).heap.size:=by rw[vK];omega
     clear Q3 hblk hvb hbl Qx hqx hF hR3 hg3 hk1 hk3;go_wp2_with (at_builtin;refine wpList_append_own_at _ rfl _ _ 58 rfl (w.heap.size+1) 60 i0 _ 4 72 underlying58 hi0 hz1 hz2 hz3 rfl jd _ _ _ rfl hown ⟨w3.heap.size,0,none⟩ 1 1 [.int .i64 q.kind,.string q.name,.slice A' n' c',.slice C' m' d'] rfl rfl (zy (cs:=#[.int .i64 q.kind,.string q.name,.slice A' n' c',.slice C' m' d']) (t:=60) (fr:=(0,0)) (vI w3 _)) (fun u hu=>by simp at hu;rcases hu with rfl|rfl|rfl|rfl<;>rfl) jx jo hbase ?_);intro v' w5 hown5 hg5 _ hv5;have hQ5:=HQx.out.put Hqx.out hown5 hg5 (by rw[vK];exact hv5)
     have L5:Lp B w g l Md.orT (.or []) w5 v' (acc ++ [q]) (vss ++ [[.int .i64 q.kind,.string q.name,.slice A' n' c',.slice C' m' d']]) r3:=
      ⟨hQ5,HRx.out.other hg5 (fun b e=>by have:=(Hblk.out b e).1;exact⟨jo,jo⟩),fP HGx.out hg5 (fun b e=>by have:=(Hblk.out b e).1;omega),HKx.out.grown hg5 (fun e=>by have:=(Hblk.out _ e.symm).1;omega),zY hbase hg5.size,
       by obtain⟨k,h1,h2⟩:=HL.out.su;exact⟨k+1+k3,by rw[Hk1.out,←List.drop_drop,←List.drop_drop,←h1];rfl,jo⟩,jz,by rw[Hk1.out,zJ,zP,zj];simp only[zV]at hk2 hln ⊢;omega,fun o h=>HL.out.tk _ (.orO Hs.out (.or1 HRo.out h))⟩
     have HL5:=zh L5;have Hlen5:Hid (lenOf v'=acc.length+1):=zh (by rw[hQ5.len,zJ,zj]);clear hQ5 hown5 hg5 hv5 hown L5 HL HQx Hqx;go_wp2_with fail;go_roundw
     case rel=>exact⟨_,_,_,HL5.out⟩
     simp[Hlen5.out,Hlen.out];omega
   rw[zN hs]at f79;have HHR:=zh (L.tk _ (.orE (by simpa using hs)));have Hlen:=zh hlen;clear hlen hs;have c3:=lJ (w.heap.size+1) 6 u3 acc vss wr L.qs L.ne;go_wp2_with (go_at_call 126;refine cp.mono ?_;rintro e w' ⟨rfl,rfl⟩);refine c3.mono ?_;rintro e w4 ⟨b0,b1,b2,b3,rfl,hF4,hb4⟩;have hbk:=L.bk.below hb4 (by have:=L.sz;omega);obtain⟨q0,q1,q2,q3,f0,f1,f2,f3⟩:=hbk.four;obtain⟨A',n',c',C',m',d',e4⟩:=hF4.four;simp only[zQ,and_true]at e4;obtain⟨rfl,rfl,rfl,rfl⟩:=e4;have hX:=hbk.set4 (.int .i64 (af 6 acc).kind) (.string (af 6 acc).name) (.slice A' n' c') (.slice C' m' d');have hg5:=gH w4 w.heap.size (.int .i64 (af 6 acc).kind) (.string (af 6 acc).name) (.slice A' n' c') (.slice C' m' d');have HF:=zh (eO (w:=w) hF4 jo (zG _));have HRX:=zh ((L.rd.below hb4).other hg5 (fun b e=>by injection e with e;omega));have HGX:=zh (fP (aW L.gr (aJ hb4 _)) hg5 (fun b e=>by injection e with e;omega));have HX:=zh hX;clear hX hg5 hF4 hbk hb4 c3 L;go_wp2_with fail;refine zu (aA rfl rfl (zr _ w.heap.size 60 60 #[.int .i64 (af 6 acc).kind,.string (af 6 acc).name,.slice A' n' c',.slice C' m' d'] (0,0) _ HX.out underlying60 rfl jk)) rfl ?_;exact⟨_,HHR.out,_,_,_,_,rfl,HF.out,HRX.out,HGX.out⟩
theorem Jk:∀(n:Nat) (l:List P),l.length≤n→kM l→dY l∧iw l∧rH l:=by
 intro n
 induction n with
 | zero=>
  intro l hl hp;have:l=[]:=List.length_eq_zero_iff.1 jo;subst this;have hp0:∀k,dY ([].drop k):=fun k=>by rw[List.drop_nil];exact mL
  have ha:iw []:=yB [] hp0;exact⟨mL,ha,yY [] fun k=>by rw[List.drop_nil];exact ha⟩
 | succ n ih=>
  intro l hl hp
  have part:dY l:=by
   cases l with
   | nil=>exact mL
   | cons s t=>
    have ht:kM t:=fun x hx=>hp x (by simp[hx])
    have it:=ih t (by simp at hl;omega) ht;by_cases h1:s=NOT
    ·subst h1;exact FW t it.1
    by_cases h2:s=LP
    ·subst h2;exact II t it.2.2
    by_cases h3:s=RP
    ·subst h3;exact IE t
    by_cases h4:s=AND
    ·subst h4;exact FV t
    by_cases h5:s=OR
    ·subst h5;exact IG t
    have hs:=hp s jz;exact Dt s t (by unfold iq;simp[h1,h2,h3,h4,h5]) hs.1 hs.2
  have sub:∀k,1≤k→l≠[]→dY (l.drop k)∧iw (l.drop k):=fun k hk hne=>by
   have hd:kM (l.drop k):=fun x hx=>hp x (List.mem_of_mem_drop hx)
   have hll:=List.length_pos_iff.2 hne;have:=ih (l.drop k) (by rw[zP];omega) hd;exact⟨this.1,this.2.1⟩
  have parts:∀k,dY (l.drop k):=fun k=>by
   by_cases hk:k=0
   ·subst hk;exact part
   by_cases hne:l=[]
   ·subst hne;rw[List.drop_nil];exact mL
   exact(sub k jo hne).1
  have and_:iw l:=yB l parts
  exact⟨part,and_,yY l fun k=>by
   by_cases hk:k=0
   ·subst hk;exact and_
   by_cases hne:l=[]
   ·subst hne;rw[List.drop_nil];exact and_
   exact(sub k jo hne).2⟩
end Qp

namespace Qp
open Go.RowKit Ut Tk Qy
mutual
def bC:Q→Nat
 | .mk _ _ _ l=>ay l+1
def ay:List Q→Nat
 | []=>0
 | q::l=>max (bC q) (ay l)
end
mutual
def bV:Q→Bool
 | .mk _ _ ws l=>decide (32<l.length) || decide (16<ws.length) || cV l
def cV:List Q→Bool
 | []=>false
 | q::l=>bV q || cV l
end
theorem pE(k:Int)(nm:ByteArray)(ws:List ByteArray)(l:List Q):bC (.mk k nm ws l)=ay l+1:=by rw[bC]
theorem wI(k:Int)(nm:ByteArray)(ws:List ByteArray)(l:List Q):bV (.mk k nm ws l)=(decide (32<l.length) || decide (16<ws.length) || cV l):=by rw[bV]
theorem rT:∀a b,ay (a++b)=max (ay a) (ay b)
 | [],b=>by simp[ay]
 | q::a,b=>by rw[List.cons_append,ay,ay,rT a b,Nat.max_assoc]
theorem oD:∀a b,cV (a++b)=(cV a || cV b)
 | [],b=>by simp[cV]
 | q::a,b=>by rw[List.cons_append,cV,cV,oD a b,Bool.or_assoc]
theorem sM(l:List Q)(k:Nat)(h:k<l.length):ay (l.take (k+1))=max (ay (l.take k)) (bC l[k]):=by
 rw[zL h,rT];simp[ay]
theorem tL(l:List Q)(k:Nat)(h:k<l.length):cV (l.take (k+1))=(cV (l.take k) || bV l[k]):=by
 rw[zL h,oD];simp[cV]
theorem tN(l:List Q)(k:Nat)(h:k<l.length)(hb:bV l[k]=true):cV l=true:=by
 have e:l=l.take k++l[k]::l.drop (k+1):=by rw[←zc h,List.take_append_drop]
 rw[e,oD,cV,hb];simp
inductive QW:Nat→Q→Prop
 | mk {K:Nat} {k:Int} {nm:ByteArray} {ws:List ByteArray} {l:List Q} (h1:ws.length≤8796093021952) (h2:l.length≤8796093021952) (h3:∀x∈l,QW K x):QW (K+1) (.mk k nm ws l)
theorem QW.more{K:Nat}{q:Q}(h:QW K q):∀K',K≤K'→QW K' q:=by
 induction h with
 | mk h1 h2 h3 ih=>
  intro K' hK;obtain⟨K2,rfl⟩:∃K2,K'=K2+1:=⟨K'-1,jo⟩;exact .mk h1 h2 fun x hx=>ih x hx K2 jo
theorem QW.depth{K:Nat}{q:Q}(h:QW K q):bC q≤K:=by
 induction h with
 | @mk K k nm ws l h1 h2 h3 ih=>
  rw[pE]
  have:∀l':List Q,(∀x∈l',bC x≤K)→ay l'≤K:=by
   intro l'
   induction l' with
   | nil=>intro _;simp[ay]
   | cons q l' ih2=>
    intro h;rw[ay];have:=h q jz;have:=ih2 (fun x hx=>h x (by simp[hx]));omega
  have:=this l ih;omega
def kJ(F:Nat)(q:Q):Prop:=∀(w:World) (a0 a1 a2 a3:Value),QAt w w.heap.size q [a0,a1,a2,a3] →
 Calls prog F #[.agg #[a0,a1,a2,a3]] w fun e w'=>e=.returned (.bool (bV q))∧zWW w w'
def kN(F:Nat)(q:Q):Prop:=∀(w:World) (a0 a1 a2 a3:Value),QAt w w.heap.size q [a0,a1,a2,a3] →
 Calls prog F #[.agg #[a0,a1,a2,a3]] w fun e w'=>e=.returned (.int .i64 (bC q:Nat))∧zWW w w'
theorem Du(k:Int)(nm:ByteArray)(ws:List ByteArray)(l:List Q)(hl6:l.length≤8796093021952)(hw6:ws.length≤8796093021952)(ih:∀x∈l,kJ 43 x):kJ 43 (.mk k nm ws l):=by
 intro w a0 a1 a2 a3 hQ;obtain⟨WA,m,wc,CA,n,c2,e,hI⟩:=hQ.is;simp only[zQ,and_true]at e;obtain⟨rfl,rfl,rfl,rfl⟩:=e;have hb1:zWW w (w.alloc (.cells #[.int .i64 k,.string nm,.slice WA m wc,.slice CA n c2] 60)):=zRR _;have hB1:=Blk.new w 60 #[.int .i64 k,.string nm,.slice WA m wc,.slice CA n c2];have hz1:w.heap.size<(w.alloc (.cells #[.int .i64 k,.string nm,.slice WA m wc,.slice CA n c2] 60)).heap.size:=jz;have Hb1:=zh hb1;have HB1:=zh hB1;have hlm:=hI.lm;have hn6:n≤8796093021952:=jo
 have hkid:∀j (hj:j<l.length),∀w1,zWW w w1→∃b o A' n' c' C' m' d',CA=some ⟨b,o,none⟩∧b<w.heap.size ∧
   w1.cell? ⟨b,o+j*4,none⟩=some (.int .i64 l[j].kind)∧w1.cell? ⟨b,o+j*4+1,none⟩=some (.string l[j].name)∧w1.cell? ⟨b,o+j*4+2,none⟩=some (.slice A' n' c')∧w1.cell? ⟨b,o+j*4+3,none⟩=some (.slice C' m' d') ∧
   ∀w2,zWW w1 w2→Calls prog 43 #[.agg #[.int .i64 l[j].kind,.string l[j].name,.slice A' n' c',.slice C' m' d']] w2 fun e w'=>e=.returned (.bool (bV l[j]))∧zWW w2 w':=by
  intro j hj w1 hb;obtain⟨tb,tq,A',n',c',C',m',d',rfl,htb,hq,hc0,hc1,hc2,hc3⟩:=hI.at_ hj;exact⟨tb,tq,A',n',c',C',m',d',rfl,htb,(hb.cell (p:=⟨tb,tq+j*4,none⟩) htb).trans hc0,(hb.cell (p:=⟨tb,tq+j*4+1,none⟩) htb).trans hc1,(hb.cell (p:=⟨tb,tq+j*4+2,none⟩) htb).trans hc2,(hb.cell (p:=⟨tb,tq+j*4+3,none⟩) htb).trans hc3,fun w2 hb2=>ih _ (za hj) w2 _ _ _ _ ((hq.grow hb).grow hb2)⟩
 have Hlm:=zh hlm;have Hkid:=zh hkid;have hwm:=hI.wn;have hm6:m≤8796093021952:=jo;have Fin:=zh (wI k nm ws l);have Hms:=zh (tN l);have Hmt:=zh (tL l);clear hQ hI hb1 hB1 hkid ih;by_cases h32:32<n
 ·have h32':(32:Int)<(n:Int):=jo;have Fin2:Hid (bV (.mk k nm ws l)=true):=zh (by rw[Fin.out,zO jo];rfl);clear hlm hwm h32;go_enter func43,ntmps43;go_wp2;go_ret;exact⟨by rw[Fin2.out];first|done|rfl,Hb1.out⟩
 have h32':(n:Int)≤32:=jo;by_cases h16:16<m
 ·have h16':(16:Int)<(m:Int):=jo;have Fin2:Hid (bV (.mk k nm ws l)=true):=zh (by rw[Fin.out,zO (p:=16<ws.length) jo];simp);clear hlm hwm h32 h16;go_enter func43,ntmps43;go_wp2;go_ret;exact⟨by rw[Fin2.out];first|done|rfl,Hb1.out⟩
 have h16':(m:Int)≤16:=jo;have Fin2:Hid (bV (.mk k nm ws l)=cV l):=zh (by rw[Fin.out,zN jo,zN jo];rfl);clear hlm hwm h32 h16 Fin hl6 hw6;go_enter func43,ntmps43;go_wp2_with fail;generalize hw1:(w.alloc (.cells #[.int .i64 k,.string nm,.slice WA m wc,.slice CA n c2] 60))=w1 at *;clear hw1;go_loopw [3] (fun v wr=>∃j:Nat,j≤n∧v=.int .i64 (j:Nat)∧Hid (cV (l.take j)=false)∧zWW w1 wr) (fun v _=>n-(intOf v).toNat)
 case atStart=>exact⟨0,zS _,rfl,zh rfl,zw _ _⟩
 obtain⟨j,hj,rfl,hS,hb⟩:=hrel;have Hb:=zh hb;have hls:=(hb.cell (p:=⟨w.heap.size,3,none⟩) (by show w.heap.size < _;exact hz1)).trans (HB1.out.cell 3);simp at hls;by_cases hlt:j<n
 ·have hjl:j<l.length:=by rw[Hlm.out];exact hlt
  have hji:(j:Int)<(n:Int):=jo;have hji0:(0:Int)≤(j:Int):=jo;have hbx:zWW w wr:=Hb1.out.trans (hb.mono Hb1.out.size);obtain⟨tb,tq,A',n',c',C',m',d',rfl,htb,hc0,hc1,hc2',hc3,cK⟩:=Hkid.out j hjl wr hbx;have c1:=cK wr (zw _ _);clear cK;have Hmm:=zh (Hmt.out j hjl);have Hmx:=zh (Hms.out j hjl);clear hb hlt hbx;generalize l[j]=y at *;generalize (y).kind=x0 at *;generalize (y).name=x1 at *;go_wp2_with fail;refine c1.mono ?_;rintro e w2 ⟨rfl,hb2⟩;have FinB:=zt Hb hb2;clear hb2 c1
  cases hy:bV y with
  | true=>
   have Fin3:Hid (bV (.mk k nm ws l)=true):=zh (by rw[Fin2.out];exact Hmx.out hy);clear hy Hmx Hmm;go_wp2;go_ret;exact⟨by rw[Fin3.out];first|done|rfl,Hb1.out.trans (FinB.out.mono Hb1.out.size)⟩
  | false=>
   have Hnx:Hid (cV (l.take (j+1))=false):=zh (by rw[Hmm.out,hS.out,hy];rfl);clear hy Hmx Hmm;go_wp2;go_roundw
   case rel=>exact⟨j+1,jo,ju,Hnx,FinB.out⟩
   simp[intOf];omega
 have hji:(n:Int)≤(j:Int):=jo;have e:n=j:=jo
 have Fin3:Hid (bV (.mk k nm ws l)=false):=zh (by
  rw[Fin2.out,←List.take_length (l:=l),Hlm.out,e];exact hS.out)
 clear hb hS e;go_wp2;go_ret;exact⟨by rw[Fin3.out];first|done|rfl,Hb1.out.trans (Hb.out.mono Hb1.out.size)⟩
theorem FX(k:Int)(nm:ByteArray)(ws:List ByteArray)(l:List Q)(hl6:l.length≤8796093021952)(hw6:ws.length≤8796093021952)(ih:∀x∈l,kJ 99 x):kJ 99 (.mk k nm ws l):=by
 intro w a0 a1 a2 a3 hQ;obtain⟨WA,m,wc,CA,n,c2,e,hI⟩:=hQ.is;simp only[zQ,and_true]at e;obtain⟨rfl,rfl,rfl,rfl⟩:=e;have hb1:zWW w (w.alloc (.cells #[.int .i64 k,.string nm,.slice WA m wc,.slice CA n c2] 60)):=zRR _;have hB1:=Blk.new w 60 #[.int .i64 k,.string nm,.slice WA m wc,.slice CA n c2];have hz1:w.heap.size<(w.alloc (.cells #[.int .i64 k,.string nm,.slice WA m wc,.slice CA n c2] 60)).heap.size:=jz;have Hb1:=zh hb1;have HB1:=zh hB1;have hlm:=hI.lm;have hn6:n≤8796093021952:=jo
 have hkid:∀j (hj:j<l.length),∀w1,zWW w w1→∃b o A' n' c' C' m' d',CA=some ⟨b,o,none⟩∧b<w.heap.size ∧
   w1.cell? ⟨b,o+j*4,none⟩=some (.int .i64 l[j].kind)∧w1.cell? ⟨b,o+j*4+1,none⟩=some (.string l[j].name)∧w1.cell? ⟨b,o+j*4+2,none⟩=some (.slice A' n' c')∧w1.cell? ⟨b,o+j*4+3,none⟩=some (.slice C' m' d') ∧
   ∀w2,zWW w1 w2→Calls prog 99 #[.agg #[.int .i64 l[j].kind,.string l[j].name,.slice A' n' c',.slice C' m' d']] w2 fun e w'=>e=.returned (.bool (bV l[j]))∧zWW w2 w':=by
  intro j hj w1 hb;obtain⟨tb,tq,A',n',c',C',m',d',rfl,htb,hq,hc0,hc1,hc2,hc3⟩:=hI.at_ hj;exact⟨tb,tq,A',n',c',C',m',d',rfl,htb,(hb.cell (p:=⟨tb,tq+j*4,none⟩) htb).trans hc0,(hb.cell (p:=⟨tb,tq+j*4+1,none⟩) htb).trans hc1,(hb.cell (p:=⟨tb,tq+j*4+2,none⟩) htb).trans hc2,(hb.cell (p:=⟨tb,tq+j*4+3,none⟩) htb).trans hc3,fun w2 hb2=>ih _ (za hj) w2 _ _ _ _ ((hq.grow hb).grow hb2)⟩
 have Hlm:=zh hlm;have Hkid:=zh hkid;have hwm:=hI.wn;have hm6:m≤8796093021952:=jo;have Fin:=zh (wI k nm ws l);have Hms:=zh (tN l);have Hmt:=zh (tL l);clear hQ hI hb1 hB1 hkid ih;by_cases h32:32<n
 ·have h32':(32:Int)<(n:Int):=jo;have Fin2:Hid (bV (.mk k nm ws l)=true):=zh (by rw[Fin.out,zO jo];rfl);clear hlm hwm h32;go_enter func99,ntmps99;go_wp2;go_ret;exact⟨by rw[Fin2.out];first|done|rfl,Hb1.out⟩
 have h32':(n:Int)≤32:=jo;by_cases h16:16<m
 ·have h16':(16:Int)<(m:Int):=jo;have Fin2:Hid (bV (.mk k nm ws l)=true):=zh (by rw[Fin.out,zO (p:=16<ws.length) jo];simp);clear hlm hwm h32 h16;go_enter func99,ntmps99;go_wp2;go_ret;exact⟨by rw[Fin2.out];first|done|rfl,Hb1.out⟩
 have h16':(m:Int)≤16:=jo;have Fin2:Hid (bV (.mk k nm ws l)=cV l):=zh (by rw[Fin.out,zN jo,zN jo];rfl);clear hlm hwm h32 h16 Fin hl6 hw6;go_enter func99,ntmps99;go_wp2_with fail;generalize hw1:(w.alloc (.cells #[.int .i64 k,.string nm,.slice WA m wc,.slice CA n c2] 60))=w1 at *;clear hw1;go_loopw [18] (fun v wr=>∃j:Nat,j≤n∧v=.int .i64 (j:Nat)∧Hid (cV (l.take j)=false)∧zWW w1 wr) (fun v _=>n-(intOf v).toNat)
 case atStart=>exact⟨0,zS _,rfl,zh rfl,zw _ _⟩
 obtain⟨j,hj,rfl,hS,hb⟩:=hrel;have Hb:=zh hb;by_cases hlt:j<n
 ·have hjl:j<l.length:=by rw[Hlm.out];exact hlt
  have hji:(j:Int)<(n:Int):=jo;have hji0:(0:Int)≤(j:Int):=jo;have hbx:zWW w wr:=Hb1.out.trans (hb.mono Hb1.out.size);obtain⟨tb,tq,A',n',c',C',m',d',rfl,htb,hc0,hc1,hc2',hc3,cK⟩:=Hkid.out j hjl wr hbx;have hal:=(zw wr.heap.size wr).alloc (zG _) (.cells #[.int .i64 l[j].kind,.string l[j].name,.slice A' n' c',.slice C' m' d'] 60);have Hal:=zh hal;have c1:=cK _ hal;clear cK hal;have Hmm:=zh (Hmt.out j hjl);have Hmx:=zh (Hms.out j hjl);clear hb hlt hbx;generalize l[j]=y at *;generalize (y).kind=x0 at *;generalize (y).name=x1 at *;go_wp2_with fail;refine c1.mono ?_;rintro e w2 ⟨rfl,hb2⟩;have FinB:=zh ((Hb.out.trans (Hal.out.mono Hb.out.size)).trans (hb2.mono (zY Hb.out.size Hal.out.size)));clear hb2 c1
  cases hy:bV y with
  | true=>
   have Fin3:Hid (bV (.mk k nm ws l)=true):=zh (by rw[Fin2.out];exact Hmx.out hy);clear hy Hmx Hmm;go_wp2;go_ret;exact⟨by rw[Fin3.out];first|done|rfl,Hb1.out.trans (FinB.out.mono Hb1.out.size)⟩
  | false=>
   have Hnx:Hid (cV (l.take (j+1))=false):=zh (by rw[Hmm.out,hS.out,hy];rfl);clear hy Hmx Hmm;go_wp2;go_roundw
   case rel=>exact⟨j+1,jo,ju,Hnx,FinB.out⟩
   simp[intOf];omega
 have hji:(n:Int)≤(j:Int):=jo;have e:n=j:=jo
 have Fin3:Hid (bV (.mk k nm ws l)=false):=zh (by
  rw[Fin2.out,←List.take_length (l:=l),Hlm.out,e];exact hS.out)
 clear hb hS e;go_wp2;go_ret;exact⟨by rw[Fin3.out];first|done|rfl,Hb1.out.trans (Hb.out.mono Hb1.out.size)⟩
theorem B0(k:Int)(nm:ByteArray)(ws:List ByteArray)(l:List Q)(K:Nat)(hK:K≤16777216)(hl6:l.length≤8796093021952)(hd:∀j,ay (l.take j)≤K)(ih:∀x∈l,kN 44 x):kN 44 (.mk k nm ws l):=by
 intro w a0 a1 a2 a3 hQ;obtain⟨WA,m,wc,CA,n,c2,e,hI⟩:=hQ.is;simp only[zQ,and_true]at e;obtain⟨rfl,rfl,rfl,rfl⟩:=e;have hb1:zWW w (w.alloc (.cells #[.int .i64 k,.string nm,.slice WA m wc,.slice CA n c2] 60)):=zRR _;have hB1:=Blk.new w 60 #[.int .i64 k,.string nm,.slice WA m wc,.slice CA n c2];have hz1:w.heap.size<(w.alloc (.cells #[.int .i64 k,.string nm,.slice WA m wc,.slice CA n c2] 60)).heap.size:=jz;have Hb1:=zh hb1;have HB1:=zh hB1;have hlm:=hI.lm;have hn6:n≤8796093021952:=jo
 have hkid:∀j (hj:j<l.length),∀w1,zWW w w1→∃b o A' n' c' C' m' d',CA=some ⟨b,o,none⟩∧b<w.heap.size ∧
   w1.cell? ⟨b,o+j*4,none⟩=some (.int .i64 l[j].kind)∧w1.cell? ⟨b,o+j*4+1,none⟩=some (.string l[j].name)∧w1.cell? ⟨b,o+j*4+2,none⟩=some (.slice A' n' c')∧w1.cell? ⟨b,o+j*4+3,none⟩=some (.slice C' m' d') ∧
   ∀w2,zWW w1 w2→Calls prog 44 #[.agg #[.int .i64 l[j].kind,.string l[j].name,.slice A' n' c',.slice C' m' d']] w2 fun e w'=>e=.returned (.int .i64 (bC l[j]:Nat))∧zWW w2 w':=by
  intro j hj w1 hb;obtain⟨tb,tq,A',n',c',C',m',d',rfl,htb,hq,hc0,hc1,hc2,hc3⟩:=hI.at_ hj;exact⟨tb,tq,A',n',c',C',m',d',rfl,htb,(hb.cell (p:=⟨tb,tq+j*4,none⟩) htb).trans hc0,(hb.cell (p:=⟨tb,tq+j*4+1,none⟩) htb).trans hc1,(hb.cell (p:=⟨tb,tq+j*4+2,none⟩) htb).trans hc2,(hb.cell (p:=⟨tb,tq+j*4+3,none⟩) htb).trans hc3,fun w2 hb2=>ih _ (za hj) w2 _ _ _ _ ((hq.grow hb).grow hb2)⟩
 have Hlm:=zh hlm;have Hkid:=zh hkid;have Fin:=zh (pE k nm ws l);have Hmt:=zh (sM l);have Hd:=zh hd;clear hQ hI hb1 hB1 hkid ih hlm hl6 hd;go_enter func44,ntmps44;go_wp2_with fail;generalize hw1:(w.alloc (.cells #[.int .i64 k,.string nm,.slice WA m wc,.slice CA n c2] 60))=w1 at *;clear hw1;go_loopw [3,4] (fun d v wr=>∃j:Nat,j≤n∧v=.int .i64 (j:Nat)∧d=.int .i64 (ay (l.take j):Nat)∧zWW w1 wr) (fun _ v _=>n-(intOf v).toNat)
 case atStart=>exact⟨0,zS _,rfl,rfl,zw _ _⟩
 obtain⟨j,hj,rfl,rfl,hb⟩:=hrel;have Hb:=zh hb;have hdj:=Hd.out j;have hls:=(hb.cell (p:=⟨w.heap.size,3,none⟩) (by show w.heap.size < _;exact hz1)).trans (HB1.out.cell 3);simp at hls;by_cases hlt:j<n
 ·have hjl:j<l.length:=by rw[Hlm.out];exact hlt
  have hji:(j:Int)<(n:Int):=jo;have hji0:(0:Int)≤(j:Int):=jo;have hbx:zWW w wr:=Hb1.out.trans (hb.mono Hb1.out.size);obtain⟨tb,tq,A',n',c',C',m',d',rfl,htb,hc0,hc1,hc2',hc3,cK⟩:=Hkid.out j hjl wr hbx;have c1:=cK wr (zw _ _);clear cK;have Hmm:=zh (Hmt.out j hjl);have hdn:bC l[j]≤K:=by have:=Hd.out (j+1);rw[Hmm.out]at this;omega
  clear hb hlt hbx;generalize l[j]=y at *;generalize bC y=dy at *;generalize hD:ay (l.take j)=dl at *;generalize hD2:ay (l.take (j+1))=dl2 at *;have HD2:=zh hD2;clear hD hD2;generalize (y).kind=x0 at *;generalize (y).name=x1 at *;go_wp2_with fail;refine c1.mono ?_;rintro e w2 ⟨rfl,hb2⟩;have FinB:=zt Hb hb2;clear hb2 c1;go_wp2_with fail;go_roundw
  case rel=>exact⟨j+1,jo,ju,by rw[HD2.out,Hmm.out];exact congrArg (Value.int .i64) jo,FinB.out⟩
  simp[intOf];omega
 have hji:(n:Int)≤(j:Int):=jo;have e:n=j:=jo
 have Fin3:Hid (bC (.mk k nm ws l)=ay (l.take j)+1):=zh (by
  rw[Fin.out,←e,←Hlm.out,List.take_length])
 clear hb e;generalize ay (l.take j)=dl at *;go_wp2;go_ret;exact⟨ia (by rw[Fin3.out];omega),Hb1.out.trans (Hb.out.mono Hb1.out.size)⟩
theorem Dv(k:Int)(nm:ByteArray)(ws:List ByteArray)(l:List Q)(K:Nat)(hK:K≤16777216)(hl6:l.length≤8796093021952)(hd:∀j,ay (l.take j)≤K)(ih:∀x∈l,kN 100 x):kN 100 (.mk k nm ws l):=by
 intro w a0 a1 a2 a3 hQ;obtain⟨WA,m,wc,CA,n,c2,e,hI⟩:=hQ.is;simp only[zQ,and_true]at e;obtain⟨rfl,rfl,rfl,rfl⟩:=e;have hb1:zWW w (w.alloc (.cells #[.int .i64 k,.string nm,.slice WA m wc,.slice CA n c2] 60)):=zRR _;have hB1:=Blk.new w 60 #[.int .i64 k,.string nm,.slice WA m wc,.slice CA n c2];have hz1:w.heap.size<(w.alloc (.cells #[.int .i64 k,.string nm,.slice WA m wc,.slice CA n c2] 60)).heap.size:=jz;have Hb1:=zh hb1;have HB1:=zh hB1;have hlm:=hI.lm;have hn6:n≤8796093021952:=jo
 have hkid:∀j (hj:j<l.length),∀w1,zWW w w1→∃b o A' n' c' C' m' d',CA=some ⟨b,o,none⟩∧b<w.heap.size ∧
   w1.cell? ⟨b,o+j*4,none⟩=some (.int .i64 l[j].kind)∧w1.cell? ⟨b,o+j*4+1,none⟩=some (.string l[j].name)∧w1.cell? ⟨b,o+j*4+2,none⟩=some (.slice A' n' c')∧w1.cell? ⟨b,o+j*4+3,none⟩=some (.slice C' m' d') ∧
   ∀w2,zWW w1 w2→Calls prog 100 #[.agg #[.int .i64 l[j].kind,.string l[j].name,.slice A' n' c',.slice C' m' d']] w2 fun e w'=>e=.returned (.int .i64 (bC l[j]:Nat))∧zWW w2 w':=by
  intro j hj w1 hb;obtain⟨tb,tq,A',n',c',C',m',d',rfl,htb,hq,hc0,hc1,hc2,hc3⟩:=hI.at_ hj;exact⟨tb,tq,A',n',c',C',m',d',rfl,htb,(hb.cell (p:=⟨tb,tq+j*4,none⟩) htb).trans hc0,(hb.cell (p:=⟨tb,tq+j*4+1,none⟩) htb).trans hc1,(hb.cell (p:=⟨tb,tq+j*4+2,none⟩) htb).trans hc2,(hb.cell (p:=⟨tb,tq+j*4+3,none⟩) htb).trans hc3,fun w2 hb2=>ih _ (za hj) w2 _ _ _ _ ((hq.grow hb).grow hb2)⟩
 have Hlm:=zh hlm;have Hkid:=zh hkid;have Fin:=zh (pE k nm ws l);have Hmt:=zh (sM l);have Hd:=zh hd;clear hQ hI hb1 hB1 hkid ih hlm hl6 hd;go_enter func100,ntmps100;go_wp2_with fail;generalize hw1:(w.alloc (.cells #[.int .i64 k,.string nm,.slice WA m wc,.slice CA n c2] 60))=w1 at *;clear hw1;go_loopw [3,9] (fun d v wr=>∃j:Nat,j≤n∧v=.int .i64 (j:Nat)∧d=.int .i64 (ay (l.take j):Nat)∧zWW w1 wr) (fun _ v _=>n-(intOf v).toNat)
 case atStart=>exact⟨0,zS _,rfl,rfl,zw _ _⟩
 obtain⟨j,hj,rfl,rfl,hb⟩:=hrel;have Hb:=zh hb;have hdj:=Hd.out j;by_cases hlt:j<n
 ·have hjl:j<l.length:=by rw[Hlm.out];exact hlt
  have hji:(j:Int)<(n:Int):=jo;have hji0:(0:Int)≤(j:Int):=jo;have hbx:zWW w wr:=Hb1.out.trans (hb.mono Hb1.out.size);obtain⟨tb,tq,A',n',c',C',m',d',rfl,htb,hc0,hc1,hc2',hc3,cK⟩:=Hkid.out j hjl wr hbx;have hal:=(zw wr.heap.size wr).alloc (zG _) (.cells #[.int .i64 l[j].kind,.string l[j].name,.slice A' n' c',.slice C' m' d'] 60);have Hal:=zh hal;have c1:=cK _ hal;clear cK hal;have Hmm:=zh (Hmt.out j hjl);have hdn:bC l[j]≤K:=by have:=Hd.out (j+1);rw[Hmm.out]at this;omega
  clear hb hlt hbx;generalize l[j]=y at *;generalize bC y=dy at *;generalize hD:ay (l.take j)=dl at *;generalize hD2:ay (l.take (j+1))=dl2 at *;have HD2:=zh hD2;clear hD hD2;generalize (y).kind=x0 at *;generalize (y).name=x1 at *;go_wp2_with fail;refine c1.mono ?_;rintro e w2 ⟨rfl,hb2⟩;have FinB:=zh ((Hb.out.trans (Hal.out.mono Hb.out.size)).trans (hb2.mono (zY Hb.out.size Hal.out.size)));clear hb2 c1;go_wp2_with fail;go_roundw
  case rel=>exact⟨j+1,jo,ju,by rw[HD2.out,Hmm.out];exact congrArg (Value.int .i64) jo,FinB.out⟩
  simp[intOf];omega
 have hji:(n:Int)≤(j:Int):=jo;have e:n=j:=jo
 have Fin3:Hid (bC (.mk k nm ws l)=ay (l.take j)+1):=zh (by
  rw[Fin.out,←e,←Hlm.out,List.take_length])
 clear hb e;generalize ay (l.take j)=dl at *;go_wp2;go_ret;exact⟨ia (by rw[Fin3.out];omega),Hb1.out.trans (Hb.out.mono Hb1.out.size)⟩
theorem uS(l:List Q)(K:Nat)(h:∀x∈l,QW K x)(j:Nat):ay (l.take j)≤K:=by
 have:∀l':List Q,(∀x∈l',bC x≤K)→ay l'≤K:=by
  intro l'
  induction l' with
  | nil=>intro _;simp[ay]
  | cons q l' ih2=>
   intro h;rw[ay];have:=h q jz;have:=ih2 (fun x hx=>h x (by simp[hx]));omega
 exact this _ fun x hx=>(h x (List.mem_of_mem_take hx)).depth
theorem FY{K:Nat}{q:Q}(h:QW K q):kJ 43 q:=by
 induction h with
 | mk h1 h2 h3 ih=>exact Du _ _ _ _ h2 h1 ih
theorem IJ{K:Nat}{q:Q}(h:QW K q):kJ 99 q:=by
 induction h with
 | mk h1 h2 h3 ih=>exact FX _ _ _ _ h2 h1 ih
theorem Dw{K:Nat}{q:Q}(h:QW K q):K≤16777216→kN 44 q:=by
 induction h with
 | mk h1 h2 h3 ih=>intro hK;exact B0 _ _ _ _ _ jo h2 (uS _ _ h3) fun x hx=>ih x hx jo
theorem FZ{K:Nat}{q:Q}(h:QW K q):K≤16777216→kN 100 q:=by
 induction h with
 | mk h1 h2 h3 ih=>intro hK;exact Dv _ _ _ _ _ jo h2 (uS _ _ h3) fun x hx=>ih x hx jo
end Qp
end Go.Proofs.YtmomjpolkkbhnaaGreat
