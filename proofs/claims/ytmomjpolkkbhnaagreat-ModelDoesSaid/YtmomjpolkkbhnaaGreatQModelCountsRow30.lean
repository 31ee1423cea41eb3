/- cursor.Decode: the walk (printed by gen_cug.py). -/
import Derived.Test.YtmomjpolkkbhnaaGreatQModelCountsRow29
import Derived.Test.YtmomjpolkkbhnaaGreatQModelCountsRow27
set_option linter.unusedSimpArgs false
set_option linter.unusedVariables false
set_option maxRecDepth 100000
set_option maxHeartbeats 100000000
open Go.Proofs.Tryz
namespace Go.Proofs.YtmomjpolkkbhnaaGreat
namespace Cu
open Go.RowKit Cr Qp Qy Ph
structure Rdr (w0 w:World) (L:List UInt8) (a:Int) (q:ByteArray):Prop where
 ex:∃A m c,Blk w (w0.heap.size+1) 168 #[.slice A m c,.int .i64 a,.string q]∧Lf w (w0.heap.size+1) A m c L
 res:Blk w w0.heap.size 122 #[.int .i64 0,.string ⟨#[]⟩]
 bel:zWW w0 w
theorem Rdr.moved{w0 w:World}{L M:List UInt8}{a:Int}{q:ByteArray}(h:Rdr w0 w L a q){A:Option Addr}{m c:Nat}(hL:Lf (w.setCell ⟨w0.heap.size+1,0,none⟩ (.slice A m c)) (w0.heap.size+1) A m c M):Rdr w0 (w.setCell ⟨w0.heap.size+1,0,none⟩ (.slice A m c)) M a q:=by
 obtain⟨⟨A',m',c',hB,_⟩,hr,hb⟩:=h;exact⟨⟨A,m,c,hB.set_ 0 _,hL⟩,hr.far jz _,hb.setCell (p:=⟨w0.heap.size+1,0,none⟩) (zZ _) _⟩
theorem Lf.far{w:World}{g:Nat}{A:Option Addr}{m c:Nat}{L:List UInt8}(h:Lf w g A m c L)(o:Nat)(ho:o≠0)(u:Value):Lf (w.setCell ⟨g,o,none⟩ u) g A m c L:=by
 refine⟨?_,by rw[World.frozen?_setCell];exact h.fz,h.le,h.ln,fun hm=>?_,h.nil⟩
 ·rw[World.cell?_setCell_other _ _ _ _ (by simp[ho])];exact h.cell
 obtain⟨b,o',e,hb,hne,hc⟩:=h.rd hm
 exact⟨b,o',e,by simpa[World.setCell]using hb,hne,fun j u' hu=>by
  rw[vN (w:=w) (vL w ⟨g,o,none⟩ u b hne)]
  exact hc j u' hu⟩
theorem Lf.below{w w':World}{g:Nat}{A:Option Addr}{m c:Nat}{L:List UInt8}(h:Lf w g A m c L)(hg:g<w.heap.size)(hb:zWW w w'):Lf w' g A m c L:=by
 refine⟨(hb.cell (p:=⟨g,0,none⟩) hg).trans h.cell,(hb.frozen (p:=⟨g,0,none⟩) hg).trans h.fz,h.le,h.ln,fun hm=>?_,h.nil⟩;obtain⟨b,o',e,hlt,hne,hc⟩:=h.rd hm;exact⟨b,o',e,zT hlt hb.size,hne,fun j u' hu=>(hb.cell (p:=⟨b,_,none⟩) hlt).trans (hc j u' hu)⟩
theorem Rdr.after{w0 w:World}{L:List UInt8}{a:Int}{q:ByteArray}(h:Rdr w0 w L a q)(b:Int):Rdr w0 (w.setCell ⟨w0.heap.size+1,1,none⟩ (.int .i64 b)) L b q:=by
 obtain⟨⟨A',m',c',hB,hL⟩,hr,hb⟩:=h;exact⟨⟨A',m',c',hB.set_ 1 _,hL.far 1 jo _⟩,hr.far jz _,hb.setCell (p:=⟨w0.heap.size+1,1,none⟩) (zZ _) _⟩
theorem Rdr.query{w0 w:World}{L:List UInt8}{a:Int}{q:ByteArray}(h:Rdr w0 w L a q)(s:ByteArray):Rdr w0 (w.setCell ⟨w0.heap.size+1,2,none⟩ (.string s)) L a s:=by
 obtain⟨⟨A',m',c',hB,hL⟩,hr,hb⟩:=h;exact⟨⟨A',m',c',hB.set_ 2 _,hL.far 2 jo _⟩,hr.far jz _,hb.setCell (p:=⟨w0.heap.size+1,2,none⟩) (zZ _) _⟩
theorem Rdr.lt{w0 w:World}{L:List UInt8}{a:Int}{q:ByteArray}(h:Rdr w0 w L a q):w0.heap.size+1<w.heap.size:=by
 obtain⟨⟨A',m',c',hB,hL⟩,hr,hb⟩:=h;exact hB.lt
theorem Rdr.drew{w0 w:World}{L:List UInt8}{a:Int}{q:ByteArray}(h:Rdr w0 w L a q):Rdr w0 w.drew L a q:=by
 obtain⟨⟨A',m',c',hB,hL⟩,hr,hb⟩:=h;exact⟨⟨A',m',c',hB,hL.cell,hL.fz,hL.le,hL.ln,hL.rd,hL.nil⟩,hr,hb.drew⟩
theorem Rdr.below{w0 w w':World}{L:List UInt8}{a:Int}{q:ByteArray}(h:Rdr w0 w L a q)(hb:zWW w w'):Rdr w0 w' L a q:=by
 obtain⟨⟨A',m',c',hB,hL⟩,hr,hbl⟩:=h;exact⟨⟨A',m',c',hB.below hb hB.lt,hL.below hB.lt hb⟩,hr.below hb hr.lt,hbl.trans (hb.mono hbl.size)⟩
theorem iF{w:World}{g:Nat}{a0 a1 b0 b1:Value}(h:Blk w g 122 #[a0,a1]):Blk ((w.setCell ⟨g,0,none⟩ b0).setCell ⟨g,1,none⟩ b1) g 122 #[b0,b1]:=by
 have:=(h.set_ 0 b0).set_ 1 b1
 simpa using this
theorem iT{fn:Func}{p1 p2:Tmp}(hf:fn.results=#[.cell p1 122,.tmp p2]){tmps:Array Value}{W:World}{b1:Nat}{a0 a1 v:Value}(h1:tmps.getD p1 undef=.pointer (some ⟨b1,0,none⟩))(h2:tmps.getD p2 undef=v)(B1:Blk W b1 122 #[a0,a1]) :
  (results fn tmps).run prog W=.ok (.tuple #[.agg #[a0,a1],v]) W:=by
 have l1:=zr (P:=prog) W b1 122 122 #[a0,a1] (0,0) _ B1 underlying122 rfl jk;have h1':tmps[p1]?.getD undef=.pointer (some ⟨b1,0,none⟩):=by simpa using h1
 have h2':tmps[p2]?.getD undef=v:=by simpa using h2
 simp[results,hf,h1',h2',asAddr,l1]
theorem oN(A:Option Addr)(m c:Nat)(L:List UInt8)(w:World)(hR:Reads w w.heap.size 1 A m (bv L))(hm:m≤140737488351232)(hc:m≤c)(hnil:A=none→c=0):Calls prog 70 #[.slice A m c] w (nR w L):=by
 have hln:L.length=m:=by have:=hR.1;rw[dH]at this;omega
 have hb2:=((zw w.heap.size w).alloc (zG _) (.cells #[.int .i64 0,.string ⟨#[]⟩] 122)).alloc jz (.cells #[.slice A m c,.int .i64 0,.string ⟨#[]⟩] 168);have hBr:=(Blk.new w 122 #[.int .i64 0,.string ⟨#[]⟩]).alloc (.cells #[.slice A m c,.int .i64 0,.string ⟨#[]⟩] 168);have hBx:=Blk.new (w.alloc (.cells #[.int .i64 0,.string ⟨#[]⟩] 122)) 168 #[.slice A m c,.int .i64 0,.string ⟨#[]⟩];have hz:(w.alloc (.cells #[.int .i64 0,.string ⟨#[]⟩] 122)).heap.size=w.heap.size+1:=jz;rw[hz]at hBx
 have hR0:Rdr w ((w.alloc (.cells #[.int .i64 0,.string ⟨#[]⟩] 122)).alloc (.cells #[.slice A m c,.int .i64 0,.string ⟨#[]⟩] 168)) L 0 ⟨#[]⟩:=by
  refine⟨⟨A,m,c,hBx,⟨hBx.cell 0,hBx.frozen 0,hc,hln,fun hp=>?_,hnil⟩⟩,hBr,hb2⟩;obtain⟨b,o,e,hb,hcl⟩:=hR.2 hp;refine⟨b,o,e,jm,jo,fun j u hu=>?_⟩;exact(hb2.cell (p:=⟨b,o+j,none⟩) hb).trans (hcl j u hu)
 have HR0:=zh hR0;have HL:=zh hln;have HR:=zh hR;clear hb2 hBr hBx hR0 hln hR hz;go_enter func70,ntmps70;go_wp2_with fail;generalize hw2:(w.alloc (.cells #[.int .i64 0,.string ⟨#[]⟩] 122)).alloc (.cells #[.slice A m c,.int .i64 0,.string ⟨#[]⟩] 168)=w2 at *;clear hw2;obtain⟨A0,m0,c0,hB0,hL0⟩:=HR0.out.ex;have hlm0:m0≤140737488351232:=by have:=hL0.ln;have:=HL.out;omega
 have cn:=lC w2 (w.heap.size+1) A0 m0 c0 3 L hL0 hlm0 jo;clear hB0 hL0;refine cn.mono ?_;rintro e w3 ⟨A1,m1,c1,A2,c2,rfl,hln1,rfl,_,_,_,hL3⟩;have HR3:=zh (HR0.out.moved hL3);clear cn hln1 hL3 HR0;generalize hw3:w2.setCell ⟨w.heap.size+1,0,none⟩ (.slice A2 (m1-min 3 m1) c2)=w3 at *;clear hw3;obtain⟨A3,m3,c3,hB3,hL3⟩:=HR3.out.ex;have hlm3:m3≤140737488351232:=by have:=hL3.ln;rw[zP]at this;have:=HL.out;omega
 have cn:=tX w3 (w.heap.size+1) A3 m3 c3 8 (L.drop 3) hL3 hlm3 jo;clear hB3 hL3;go_wp2_with fail;refine cn.mono ?_;rintro e w4 ⟨rfl,A4,m4,c4,rfl,hL4⟩;have HR4:=zh (HR3.out.moved hL4)
 have Hz:Hid (aOf L<9223372036854775808→wrap64 (num ((L.drop 3).take 8):Nat)=(aOf L:Int)):=zh (fun h=>by
  unfold aOf at h ⊢
  exact IntWalk.wrap64_in _ jo)
 clear cn hL4 HR3;generalize wrap64 (num ((L.drop 3).take 8):Nat)=z at *;generalize hw4:w3.setCell ⟨w.heap.size+1,0,none⟩ (.slice A4 m4 c4)=w4 at *;clear hw4;rw[List.drop_drop]at HR4;obtain⟨A5,m5,c5,hB5,_⟩:=HR4.out.ex;have hd1:=hB5.cell 1;have hf1:=hB5.frozen 1;simp at hd1;clear hB5
 go_upto_region 4 with(fail);have HR5:=zh (HR4.out.after z);clear HR4 hd1 hf1;generalize hw5:w4.setCell ⟨w.heap.size+1,1,none⟩ (.int .i64 z)=w5 at *;clear hw5
 refine dN 10 (aI [(7,⟨Unit,fun _=>.int .i64 (nOf L:Int),fun _ wx=>Rdr w wx (L.drop 13) z ⟨#[]⟩⟩),(8,⟨Option Addr × Nat × Nat,fun x=>.slice x.1 x.2.1 x.2.2,fun x wx=>(∃M,Rdr w wx M z ⟨#[]⟩)∧Reads wx wx.heap.size 1 x.1 x.2.1 (bv (qOf L))⟩),(9,⟨Unit,fun _=>.string ⟨(qOf L).toArray⟩,fun _ wx=>∃M,Rdr w wx M z ⟨#[]⟩⟩)])
  (fun _=>True) (fun wx=>Rdr w wx (L.drop 11) z ⟨#[]⟩) jk jk (dS jk) trivial HR5.out.drew ?_
 refine aD 1 ?_ rfl jr jr (fun wx hC=>?_) ?_;rotate_left
 ·go_simp;all_goals with_reducible rfl
 try simp only[Act.put,zD,zE,zF]
 refine aD 2 ?_ rfl jr jr (fun wx hC=>?_) ?_;rotate_left
 ·go_simp;all_goals with_reducible rfl
 try simp only[Act.put,zD,zE,zF]
 refine aD 3 ?_ rfl jr jr (fun wx hC=>?_) ?_;rotate_left
 ·go_simp;all_goals with_reducible rfl
 try simp only[Act.put,zD,zE,zF]
 refine aD 4 ?_ rfl jr jr (fun wx hC=>?_) ?_;rotate_left
 ·go_simp;all_goals with_reducible rfl
 try simp only[Act.put,zD,zE,zF]
 refine aD 5 ?_ rfl jr jr (fun wx hC=>?_) ?_;rotate_left
 ·go_simp;all_goals with_reducible rfl
 try simp only[Act.put,zD,zE,zF]
 refine aD 6 ?_ rfl jr jr (fun wx hC=>?_) ?_;rotate_left
 ·go_simp;all_goals with_reducible rfl
 try simp only[Act.put,zD,zE,zF]
 refine aD 7 ?_ rfl jr jr (fun wx hC=>?_) ?_;rotate_left
 ·go_simp;all_goals with_reducible rfl
 try simp only[Act.put,zD,zE,zF]
 refine dz 8 _ rfl jr jr (fun wx hC hI=>?_) (fun x=>?_)
 ·refine aZ (f:=?_) (args:=?_) ?_ ?_;rotate_left 2
  ·go_simp;all_goals first|with_reducible rfl|(refine⟨?_,?_⟩<;>with_reducible rfl)
  obtain⟨A6,m6,c6,hB6,hL6⟩:=hI.ex;have hlm6:m6≤140737488351232:=by have:=hL6.ln;rw[zP]at this;have:=HL.out;omega
  refine(tX wx (w.heap.size+1) A6 m6 c6 2 (L.drop 11) hL6 hlm6 jo).mono ?_;rintro e w9 ⟨rfl,A9,m9,c9,rfl,hL9⟩;have hR9:=hI.moved hL9;rw[List.drop_drop]at hR9;have hn:=nE ((L.drop 11).take 2);have hn2:num ((L.drop 11).take 2)<65536:=zT hn (zY (Nat.pow_le_pow_right jo (List.length_take_le _ _)) jd);exact⟨_,rfl,trivial,trivial,(),by rw[IntWalk.wrap64_in _ jo];rfl,hR9⟩
 rename Unit=>x7
 try simp only[Act.put,zD,zE,zF]
 refine dz 9 _ rfl jr jr (fun wx hC hI=>?_) (fun x=>?_)
 ·refine aZ (f:=?_) (args:=?_) ?_ ?_;rotate_left 2
  ·go_simp;all_goals first|with_reducible rfl|(refine⟨?_,?_⟩<;>with_reducible rfl)
  obtain⟨A6,m6,c6,hB6,hL6⟩:=hI.ex;have hlm6:m6≤140737488351232:=by have:=hL6.ln;rw[zP]at this;have:=HL.out;omega
  have hn:=nE ((L.drop 11).take 2);have hn2:nOf L<65536:=zT hn (zY (Nat.pow_le_pow_right jo (List.length_take_le _ _)) jd);refine(lC wx (w.heap.size+1) A6 m6 c6 (nOf L) (L.drop 13) hL6 hlm6 jo).mono ?_;rintro e w9 ⟨A9,m9,c9,A10,c10,rfl,hln9,rfl,_,_,hR9,hL9⟩;exact⟨_,rfl,trivial,trivial,(A9,min (nOf L) m9,c9),rfl,⟨_,hI.moved hL9⟩,hR9⟩
 obtain⟨A8,n8,c8⟩:=x;try simp only[Act.put,zD,zE,zF]
 refine dz 10 _ rfl jr jr (fun wx hC hI=>?_) (fun x=>?_)
 ·refine fQ (u:=?_) (w':=?_) ?_ trivial ?_;rotate_left 2
  ·have hcv:=iE c8 hI.2;go_simp;all_goals first|with_reducible rfl|(refine⟨?_,?_⟩<;>with_reducible rfl)
  exact⟨trivial,(),rfl,hI.1⟩
 rename Unit=>x9
 try simp only[Act.put,zD,zE,zF]
 refine dZ (fun w6 hC hI=>?_);obtain⟨M,hR6⟩:=hI;have HR6:=zh hR6;obtain⟨A6,m6,c6,hB6,_⟩:=hR6.ex;have hd2:=hB6.cell 2;have hf2:=hB6.frozen 2;simp at hd2;have hlen:(qOf L).length≤m:=by unfold qOf;rw[zK,zP];have:=HL.out;omega
 have HS:Hid ((⟨(qOf L).toArray⟩:ByteArray).data.toList=qOf L):=zh jz;have hSz:(⟨(qOf L).toArray⟩:ByteArray).size≤m:=by rw[←aB,HS.out];exact hlen
 clear hB6 hR6 hC HR5 hlen;generalize (⟨(qOf L).toArray⟩:ByteArray)=S at *
 go_upto_region 5 with(fail);have HR7:=zh (HR6.out.query S);clear HR6 hd2 hf2;generalize hw7:w6.setCell ⟨w.heap.size+1,2,none⟩ (.string S)=w7 at *;clear hw7;obtain⟨A7,m7,c7,hB7,_⟩:=HR7.out.ex;have hd1:=hB7.cell 1;have hd2:=hB7.cell 2;simp at hd1 hd2;have hlt7:=HR7.out.lt;have Hdec:=zh (xQ Hz.out (.inl HS.out));clear hB7;by_cases hI:IsC z S
 ·obtain⟨n,rfl⟩:∃n:Nat,z=n:=⟨z.toNat,by have:=hI.1;omega⟩;have ce:=tP n S w7 hI;have HI:=zh hI;clear hI;go_wp2_with fail;refine ce.mono ?_;rintro e w8 ⟨⟨v8,rfl,hown8⟩,hb8⟩;have HR8:=zh (HR7.out.below hb8);have Hb8:Hid (zWW w w8):=zh HR8.out.bel;obtain⟨A8',c8',rfl,hRd8⟩:=aU hown8;have hcv1:=iE c8' hRd8;have hcv2:=iE c (HR.out.below Hb8.out);obtain⟨A9,m9,c9,hB9,_⟩:=HR8.out.ex;have hd1:=hB9.cell 1;have hd2:=hB9.cell 2;simp at hd1 hd2;have hBr:=HR8.out.res;have hr0:=hBr.cell 0;have hr1:=hBr.cell 1;have hg0:=hBr.frozen 0;have hg1:=hBr.frozen 1;simp at hr0 hr1;have HBr:=zh hBr;clear ce hb8 hown8 hRd8 hB9 hBr HR7;generalize hen:enc n S.data.toList=M8 at *;have Hen:=zh hen;clear hen;by_cases hE:M8=L
  ·subst hE;generalize (⟨M8.toArray⟩:ByteArray)=X at *;go_wp2;exact zu (iT rfl rfl rfl (iF HBr.out)) rfl ⟨n,S,0,.inl ⟨n,rfl,HI.out,Hen.out.symm,rfl⟩,rfl,(Hb8.out.setCell (p:=⟨w.heap.size,0,none⟩) (zG _) _).setCell (p:=⟨w.heap.size,1,none⟩) (zG _) _⟩
  have hX:((⟨M8.toArray⟩:ByteArray).toList==(⟨L.toArray⟩:ByteArray).toList)=false:=by
   rw[Tk.tl,Tk.tl,zM];intro h;exact hE (by simpa using h)
  have hXn:((⟨M8.toArray⟩:ByteArray).toList != (⟨L.toArray⟩:ByteArray).toList)=true:=by rw[bne,hX];rfl
  have Hno:Hid (∀(n:Nat) (q':ByteArray),IsC n q'→L≠enc n q'.data.toList):=zh (by
   rcases Hdec.out with⟨n',e1,_,h2⟩|h
   ·exact absurd (by rw[←Hen.out,←h2];congr 1;omega) hE
   exact h)
  clear hE Hdec;generalize (⟨M8.toArray⟩:ByteArray)=X at *;generalize (⟨L.toArray⟩:ByteArray)=Y at *;go_wp2;exact zu (iT rfl rfl rfl (iF HBr.out)) rfl ⟨0,⟨#[]⟩,250,.inr ⟨Hno.out,rfl,rfl,rfl⟩,rfl,(Hb8.out.setCell (p:=⟨w.heap.size,0,none⟩) (zG _) _).setCell (p:=⟨w.heap.size,1,none⟩) (zG _) _⟩
 have ce:=uV z S w7 hI
 have Hno:Hid (∀(n:Nat) (q':ByteArray),IsC n q'→L≠enc n q'.data.toList):=zh (by
  rcases Hdec.out with⟨n',e1,h1,h2⟩|h
  ·exact absurd h1 hI
  exact h)
 clear hI Hdec;go_wp2_with fail;refine ce.mono ?_;rintro e w8 ⟨⟨v8,rfl,hown8⟩,hb8⟩;have HR8:=zh (HR7.out.below hb8);have Hb8:Hid (zWW w w8):=zh HR8.out.bel;have hBr:=HR8.out.res;have hr0:=hBr.cell 0;have hr1:=hBr.cell 1;have hg0:=hBr.frozen 0;have hg1:=hBr.frozen 1;simp at hr0 hr1;have HBr:=zh hBr;clear ce hb8 hown8 hBr HR7;go_wp2;exact zu (iT rfl rfl rfl (iF HBr.out)) rfl ⟨0,⟨#[]⟩,250,.inr ⟨Hno.out,rfl,rfl,rfl⟩,rfl,(Hb8.out.setCell (p:=⟨w.heap.size,0,none⟩) (zG _) _).setCell (p:=⟨w.heap.size,1,none⟩) (zG _) _⟩
end Cu

namespace Md
open Go.RowKit Ut Tk Qy Qp Ev Cu
theorem qy{w:World}{S:Nat→Prop}{B:Nat}{d:Dc}{u:List Value}(h:DcS w S d u)(hS:∀b,S b→b<B):DcV w B d u:=by
 obtain⟨F,fn,fc,e,h1,h2⟩:=h.ex;exact⟨F,fn,fc,e,h1.mono hS,h2⟩
theorem Jr{w:World}{base:Nat}{A:Option Addr}{n c:Nat}{ds:List Dc}(h:DOwn w base (.slice A n c) ds):DocsAt w w.heap.size A n ds:=by
 obtain⟨A',c',e,hD,_⟩:=h.read;injection e with e1 e2 e3;subst e1 e2;obtain⟨vss,h1,h2,h3⟩:=hD.ex;exact⟨rfl,vss,h1,h2.mono (fun b hb=>hb.2),fun i a b=>qy (h3 i a b) (fun b hb=>hb.2.lt)⟩
def NoS(cs:Array Value):Prop:=∀o s t,cs[o]?=some (.string s)→cs[o+1]?=some (.string t)→False
theorem lS:NoS rs0:=fun o s t h1 h2=>by
 rcases zg o 10 with ho|ho
 ·rcases(by omega:o=0∨o=1∨o=2∨o=3∨o=4∨o=5∨o=6∨o=7∨o=8∨o=9)with rfl|rfl|rfl|rfl|rfl|rfl|rfl|rfl|rfl|rfl<;>cases h1
 rw[zn (by simpa[rsC]using ho)]at h1
 cases h1
theorem yM(a:Int)(q:ByteArray):NoS #[.int .i64 a,.string q]:=fun o s t h1 h2=>by
 rcases zg o 2 with ho|ho
 ·rcases(by omega:o=0∨o=1)with rfl|rfl
  ·cases h1
  cases h2
 rw[zn (by simpa using ho)]at h1
 cases h1
structure DW (w:World) (v:Value) (ds:List Dc):Prop where
 ex:∃base,∃vss:List (List Value),vss.length=ds.length∧w.ownsRow base 48 3 v ds.length vss.flatten∧∀i (h:i<ds.length) (h':i<vss.length),DcV w w.heap.size ds[i] vss[i]
theorem DW.of{w0 w:World}{v:Value}{ds:List Dc}(h:DocsOwn w0 w v ds):DW w v ds:=by
 obtain⟨vss,h1,h2,h3⟩:=h.ex;exact⟨_,vss,h1,h2,fun i a b=>(h3 i a b).1⟩
theorem DW.below{w w':World}{v:Value}{ds:List Dc}(h:DW w v ds)(hb:zWW w w'):DW w' v ds:=by
 obtain⟨base,vss,h1,h2,h3⟩:=h.ex;exact⟨base,vss,h1,h2.kept (aJ hb none) (by cases hv:v.ownBlock<;>simp),fun i a b=>((h3 i a b).keep fun _ _ hp=>hb.cell hp).more hb.size⟩
theorem DW.keep{w w':World}{v:Value}{ds:List Dc}{g:Nat}{T:TypeId}{cs:Array Value}(h:DW w v ds)(hg:Blk w g T cs)(hT:48≠T)(hn:NoS cs)(hs:w.heap.size≤w'.heap.size)(hk:∀b,b≠g→w'.heap[b]?=w.heap[b]?):DW w' v ds:=by
 obtain⟨base,vss,h1,h2,h3⟩:=h.ex
 refine⟨base,vss,h1,cT h2 (fun b hb=>hk b (fun e=>by
  subst e
  exact hT ((aY h2 hb).one ⟨_,_,hg⟩))),fun i a b=>?_⟩
 obtain⟨F,fn,fc,e,g1,g2⟩:=h3 i a b;refine⟨F,fn,fc,e,⟨g1.1,fun hn'=>?_⟩,g2⟩;obtain⟨bb,oo,e2,hlt,hc⟩:=g1.2 hn'
 have hne:bb≠g:=by
  cases hf:ds[i].fs with
  | nil=>have:=g2.1;rw[hf]at this;simp at this;omega
  | cons f l=>
   have h0:=hc 0 (.string f.1) (by rw[hf];simp[aO]);have h1:=hc 1 (.string f.2) (by rw[hf];simp[aO]);rintro rfl;rw[Nat.add_zero,hg.cell oo]at h0;rw[hg.cell (oo+1)]at h1;exact hn oo _ _ h0 h1
 exact⟨bb,oo,e2,zT hlt hs,fun j u hj=>(vN (hk bb hne)).trans (hc j u hj)⟩
theorem DW.at_{w:World}{v:Value}{ds:List Dc}(h:DW w v ds):∃A c,v=.slice A ds.length c∧DocsAt w w.heap.size A ds.length ds:=by
 obtain⟨base,vss,h1,h2,h3⟩:=h.ex;obtain⟨A,c,rfl,hR,_⟩:=Ev.aP h2;exact⟨A,c,rfl,rfl,vss,h1,hR,h3⟩
def TlR(w':World)(m:M)(r:Rq)(base:Nat)(cs:Array Value):Prop:=∃a q E,DecR r.cur a q E∧((E≠0∧cs=rsC E 0 0 nil nil nil 0 0 0 0)∨(E=0∧bz r.lim=false∧cs=rsC 1 0 0 nil nil nil 0 0 0 0) ∨
 (∃qq p,E=0∧bz r.lim=true∧PrsR q.data.toList 0 (some qq)∧p=bL a m.acked r.lim (upL m (fun d=>aC d.fs qq))∧((aG p.2 q≠0∧cs=rsC (aG p.2 q) 0 0 nil nil nil 0 0 0 0) ∨
  (aG p.2 q=0∧∃A c v,DW w' (.slice A p.1.length c) p.1∧w'.ownsRow base 5 1 v (bF p.2 q).length (bv (bF p.2 q))∧cs=rsC 0 0 0 (.slice A p.1.length c) nil v 0 0 0 0))))
theorem pz{L:List UInt8}{a:Int}{q:ByteArray}{E:Int}(h:DecR L a q E)(hE:E=0):IsC a q:=by
 rcases h with⟨n,rfl,h1,_⟩|⟨_,_,_,e⟩
 ·exact h1
 rw[hE]at e;cases e
section
variable {w:World} {n0 X K:Nat} {v:Value} {m:M}
theorem Fu(h:At w n0 X K v m)(hK:K≤60000)(r:Rq)(z:Rw)(hcur:Reads w w.heap.size 1 z.C z.cn (bv r.cur))(hcn:z.cn≤140737488351232∧z.cn≤z.cc∧(z.C=none→z.cc=0)) :
  Calls prog 36 #[.pointer (some ⟨X,0,none⟩),.agg (rqC r z)] w (ReP (fun w w' cs=>TlR w' m r w.heap.size cs) w):=by
 have hb:zWW w ((w.alloc (.cells (rqC r z) 37)).alloc (.cells rs0 42)):=(zRR _).alloc jz _;have hq:=(Blk.new w 37 (rqC r z)).alloc (.cells rs0 42);have hr:=Blk.new (w.alloc (.cells (rqC r z) 37)) 42 rs0;have z1:(w.alloc (.cells (rqC r z) 37)).heap.size=w.heap.size+1:=jz;rw[z1]at hr;have H1:=zh (h.below hb);have HQ:=zh hq;have HR:=zh hr;have HB:=zh hb;have hsw:w.heap.size+2≤(World.heap ((w.alloc (.cells (rqC r z) 37)).alloc (.cells rs0 42))).size:=jz;have hxl:=h.blk.lt;have CD:Hid (∀wx,zWW w wx→Calls prog 70 #[.slice z.C z.cn z.cc] wx (nR wx r.cur)):=zh (fun wx hb=>oN z.C z.cn z.cc r.cur wx ((hcur.below hb).more hb.size) hcn.1 hcn.2.1 hcn.2.2);have hfew:=h.few;have HOK:=zh h.ok;clear h hb hq hr z1 hcur hcn;go_enter func36,ntmps36
 go_upto_region 1 with(fail);generalize ((w.alloc (.cells (rqC r z) 37)).alloc (.cells rs0 42))=w1 at *;have q10:=HQ.out.cell 10;simp only[rqC,zA,zB,zC]at q10;go_wp2_with fail;refine(CD.out w1 HB.out).mono ?_;rintro e w2 ⟨a,q,E,hd,rfl,hb2⟩;have HD:=zh hd;have hb3:zWW w2 (w2.alloc (.cells #[.int .i64 a,.string q] 122)):=zRR _;have hb23:=hb2.trans (hb3.mono hb2.size);have HC3:=zh (Blk.new w2 122 #[.int .i64 a,.string q]);have H3:=zh (H1.out.below hb23);have HR3:=zb HR hb23;have HQ3:=zb HQ hb23;have HB3:=zt HB hb23;clear hb2 hb3 hb23 hd CD q10 H1 HR HQ HB;have hEE:E=0∨E≠0:=jo
 go_upto_region 2 with(fail);generalize w2.alloc (.cells #[.int .i64 a,.string q] 122)=w3 at *;rcases hEE with rfl|hE
 ·have q7:=HQ3.out.cell 7;have y1:=HC3.out.cell 1;simp only[rqC,zA,zB,zC]at q7 y1;have CL:=zh (sF r.lim w3);obtain⟨lb,hlb⟩:∃lb,bz r.lim=lb:=⟨_,rfl⟩;rw[hlb]at CL;have HLB:=zh hlb;clear hlb
  cases lb with
  | false=>
   go_wp2_with fail;refine CL.out.mono ?_;rintro e w4 ⟨rfl,rfl⟩;go_wp2_with fail;refine(dK 1 _).mono ?_;rintro e w9 ⟨rfl,hb9⟩;have HB9:=zt HB3 hb9;have HR9:=zb HR3 hb9;clear hb9;have HX9:=zh (zx _ (w.heap.size+1) _ (rsC 1 0 0 nil nil nil 0 0 0 0) _ _ HR9.out);go_wp2_with (refine zv (o:=⟨none,.store 42 _ _,_,_,_,_⟩) rfl 42 _ _ rfl (w.heap.size+1) (rsC 1 0 0 nil nil nil 0 0 0 0) rfl rfl 42 rs0 HR9.out jk rfl (by simp[rsC,Value.oneCell']) ?_);refine zu (aA rfl rfl (zr _ (w.heap.size+1) 42 42 _ (0,0) _ HX9.out underlying42 rfl jk)) rfl ?_;exact⟨_,rfl,zz HB9.out (zZ _) _,a,q,0,HD.out,.inr (.inl ⟨rfl,HLB.out,rfl⟩)⟩
  | true=>
   go_wp2_with fail;refine CL.out.mono ?_;rintro e w4 ⟨rfl,rfl⟩;clear CL;go_wp2_with fail;refine(kr q w3).mono ?_;rintro e w4 ⟨E,o,a0,a1,a2,a3,hp,rfl,hF,hb4⟩;obtain⟨A1,n1,c1,A2,n2,c2,e4⟩:=hF.four;simp only[zQ,and_true]at e4;obtain⟨rfl,rfl,rfl,rfl⟩:=e4;obtain⟨o',ho'⟩:=(pz HD.out rfl).2.2;obtain⟨rfl,rfl⟩:=hp.det ho'
   obtain⟨qq,rfl,hqs⟩:∃qq,o=some qq∧QSz qq:=by
    rcases iy hp with⟨_,q,rfl,h⟩|⟨h,_⟩
    ·exact⟨q,rfl,h⟩
    exact absurd rfl h
   have HP:=zh hp;have hk1:((some qq:Option Q).getD noQ)=qq:=rfl;rw[hk1]at hF ⊢;have hqt:QAt w4 w4.heap.size qq [.int .i64 qq.kind,.string qq.name,.slice A1 n1 c1,.slice A2 n2 c2]:=hF.at_ (fun b hb=>hb.2);have hb5:zWW w4 (w4.alloc (.cells #[.int .i64 qq.kind,.string qq.name,.slice A1 n1 c1,.slice A2 n2 c2] 60)):=zRR _;have hb45:=hb4.trans (hb5.mono hb4.size);have HQB:Hid (QBl (w4.alloc (.cells #[.int .i64 qq.kind,.string qq.name,.slice A1 n1 c1,.slice A2 n2 c2] 60)) w4.heap.size qq):=zh ⟨A1,n1,c1,A2,n2,c2,Blk.new _ _ _,hqt.grow hb5⟩;have H5:=zh (H3.out.below hb45);have HR5:=zb HR3 hb45;have HQ5:=zb HQ3 hb45;have HC5:=zb HC3 hb45;have HB5:=zt HB3 hb45;have HQS:=zh hqs;clear hb4 hb5 hb45 hqt hF hp ho' hk1 hqs q7 y1 H3 HR3 HQ3 HC3 HB3;generalize hk5:qq.kind=k5 at *;generalize hn5:qq.name=n5 at *;clear hk5 hn5
   go_upto_region 9 with(fail);generalize w4.alloc (.cells #[.int .i64 k5,.string n5,.slice A1 n1 c1,.slice A2 n2 c2] 60)=w5 at *
   have CU:Hid (∀wx,zWW w5 wx→Calls prog 72 #[.pointer (some ⟨X,0,none⟩),.func (.func 73) #[] #[.pointer (some ⟨w4.heap.size,0,none⟩)]] wx (kw wx (upL m (fun d=>aC d.fs qq)))):=zh (fun wx hb=>qi (H5.out.below hb) hK 73 #[.pointer (some ⟨w4.heap.size,0,none⟩)] (fun d=>aC d.fs qq) (enters_of func73 jk rfl)
    (fun d hd wy hb' Fa fc hF=>Dk d (ql HOK.out d hd) qq HQS.out Fa fc _ wy (HQB.out.below (hb.trans (hb'.mono hb.size))) hF))
   have HUL:Hid ((upL m (fun d=>aC d.fs qq)).length≤60000):=zh (zY (List.length_filter_le _ _) (zY hfew hK));obtain⟨U,hu⟩:∃U,upL m (fun d=>aC d.fs qq)=U:=⟨_,rfl⟩;rw[hu]at CU HUL;have HU:=zh hu;obtain⟨p1,p2,hpp⟩:∃p1 p2,bL a m.acked r.lim U=(p1,p2):=⟨_,_,rfl⟩;have HPP:=zh hpp;have CF:Hid (∀wx A n c,DocsAt wx wx.heap.size A n U→Calls prog 71 #[.agg #[.int .i64 a,.string q],.int .i64 m.acked,.int .i64 r.lim,.slice A n c] wx (nP wx (p1,p2) q)):=zh (fun wx A n c hD=>by rw[←HPP.out];exact CP a m.acked r.lim q A n c U wx hD (by rw[←hD.ln];have:=HUL.out;omega))
   have Hc:Hid (∀wx,zWW w5 wx→wx.cell? ⟨w2.heap.size,0,none⟩=some (.int .i64 a)∧wx.cell? ⟨w2.heap.size,1,none⟩=some (.string q)∧wx.cell? ⟨X,10,none⟩=some (.int .i64 m.acked)∧wx.cell? ⟨w.heap.size,7,none⟩=some (.int .i64 r.lim)):=zh (fun wx hb=>by
    have r0:=(HC5.out.below hb HC5.out.lt).cell 0;have r1:=(HC5.out.below hb HC5.out.lt).cell 1;have r2:=(H5.out.below hb).blk.cell 10;have r3:=(HQ5.out.below hb HQ5.out.lt).cell 7;simp only[mdC,rqC,zA,zB,zC]at r0 r1 r2 r3
    exact⟨r0,r1,r2,r3⟩)
   clear hu hpp;refine dm 16 (aI [(9,⟨Option Addr × Nat,fun x=>.slice x.1 U.length x.2,fun x wz=>DocsAt wz wz.heap.size x.1 U.length U⟩),(10,⟨Option Addr × Nat,fun x=>.tuple #[.slice x.1 p1.length x.2,.agg #[.int .i64 p2,.string q]],fun x wz=>DW wz (.slice x.1 p1.length x.2) p1⟩),(14,⟨Nat,fun x=>.pointer (some ⟨x,0,none⟩),fun g wx=>Blk wx g 122 #[.int .i64 0,.string ⟨#[]⟩]∧w5.heap.size≤g⟩)]) (fun wx=>zWW w5 wx) (fun w1 w2=>zWW w1 w2) jk jk (aN (fun x wa wb hg h=>h.grow hg) (aN (fun x wa wb hg h=>h.below hg) (aN (fun x wa wb hg h=>⟨h.1.below hg h.1.lt,h.2⟩) (aX)))) ((zw _ _).drew) ?_;simp only[zX,List.take_zero,zm,List.drop_zero]
   iterate 8
    refine aH _ ?_ rfl jr jr (fun wx hC hD=>?_) ?_;rotate_left
    ·have hSw:=Hc.out wx hC;go_simp;all_goals with_reducible rfl
    try simp only[Act.put,zD,zE,zF]
   refine aH 9 ?_ rfl jr jr (fun wx hC hD=>?_) ?_;rotate_left
   ·have hmf:∀(fn:Fn) (first cap:Array Value) (w:World),(Instr.makeFunc fn first cap).run prog w=.ok (.func fn first cap) w:=fun _ _ _ _=>rfl
    have hSw:=Hc.out wx hC;go_simp;all_goals with_reducible rfl
   try simp only[Act.put,zD,zE,zF]
   refine ae 10 _ rfl jr jr (fun wx hC hD=>?_) (fun x=>?_)
   ·refine aZ (f:=?_) (args:=?_) ?_ ?_;rotate_left 2
    ·have hSw:=Hc.out wx hC;go_simp;all_goals first|with_reducible rfl|(refine⟨?_,?_⟩<;>with_reducible rfl)
    refine(CU.out wx hC).mono ?_;rintro e w9 ⟨v9,rfl,hD9,hb9⟩;obtain⟨A9,c9,rfl,_⟩:=hD9.read;exact⟨_,rfl,hb9,hC.trans (hb9.mono hC.size),(A9,c9),rfl,Jr hD9⟩
   obtain⟨A8,c8⟩:=x;try simp only[Act.put,zD,zE,zF]
   refine ae 11 _ rfl jr jr (fun wx hC hD=>?_) (fun x=>?_)
   ·refine aZ (f:=?_) (args:=?_) ?_ ?_;rotate_left 2
    ·have hSw:=Hc.out wx hC;go_simp;all_goals first|with_reducible rfl|(refine⟨?_,?_⟩<;>with_reducible rfl)
    refine(CF.out wx A8 U.length c8 (bf (fC hD 9 jk) jd)).mono ?_;rintro e w9 ⟨v9,rfl,hD9⟩;obtain⟨vss,_,g2,_⟩:=hD9.ex;obtain⟨A9,c9,rfl,_⟩:=Ev.aP g2;exact⟨_,rfl,hD9.bel,hC.trans (hD9.bel.mono hC.size),(A9,c9),rfl,DW.of hD9⟩
   obtain⟨A7,c7⟩:=x;try simp only[Act.put,zD,zE,zF]
   iterate 3
    refine aH _ ?_ rfl jr jr (fun wx hC hD=>?_) ?_;rotate_left
    ·have hSw:=Hc.out wx hC;go_simp;all_goals with_reducible rfl
    try simp only[Act.put,zD,zE,zF]
   refine ae 15 _ rfl jr jr (fun wx hC hD=>?_) (fun x=>?_)
   ·refine fQ (u:=?_) (w':=?_) ?_ ?_ ?_;rotate_left 2
    ·have hSw:=Hc.out wx hC;go_simp;all_goals first|with_reducible rfl|(refine⟨?_,?_⟩<;>with_reducible rfl)
    ·exact(zRR _)
    exact⟨hC.alloc hC.size _,wx.heap.size,rfl,Blk.new _ _ _,hC.size⟩
   rename Nat=>x9
   try simp only[Act.put,zD,zE,zF]
   refine aH 16 ?_ rfl jr jr (fun wx hC hD=>?_) ?_;rotate_left
   ·have hSw:=Hc.out wx hC;go_simp;all_goals with_reducible rfl
   try simp only[Act.put,zD,zE,zF]
   refine ah (fun w6 hC hF=>?_);have HDO:=zh (bf (mK (hF 10) jd) jd);have HG9:Hid (w.heap.size≤x9):=zh (zY HB5.out.size (bf (hF 14) jd).2);have HB6:=zt HB5 hC;have HR6:=zb HR5 hC;have hbl:=(bf (hF 14) jd).1;clear hF hC CU CF Hc;have y0:=hbl.cell 0;have y1:=hbl.cell 1;have y0f:=hbl.frozen 0;have y1f:=hbl.frozen 1;simp only[zA,zB,zC]at y0 y1;have HX7:=zh (iF (b0:=.int .i64 p2) (b1:=.string q) hbl);have hgx:w.heap.size+1≠x9:=HR6.out.ne_ hbl jd;have hgw:w.heap.size≤x9:=HG9.out;have HR7:=zh ((HR6.out.far (p:=⟨x9,0,none⟩) hgx (.int .i64 p2)).far (p:=⟨x9,1,none⟩) hgx (.string q));have HB7:=zh ((HB6.out.setCell (p:=⟨x9,0,none⟩) hgw (.int .i64 p2)).setCell (p:=⟨x9,1,none⟩) hgw (.string q));have HDO7:Hid (DW ((w6.setCell ⟨x9,0,none⟩ (.int .i64 p2)).setCell ⟨x9,1,none⟩ (.string q)) (.slice A7 p1.length c7) p1):=zh (HDO.out.keep hbl jd (yM _ _) (by simp[World.setCell]) (fun b hb=>(vL _ _ _ _ hb).trans (vL _ _ _ _ hb)));have CE:=zh (li p2 q ((w6.setCell ⟨x9,0,none⟩ (.int .i64 p2)).setCell ⟨x9,1,none⟩ (.string q)));obtain⟨en,hen⟩:∃en,aG p2 q=en:=⟨_,rfl⟩;rw[hen]at CE;have HEN:=zh hen;clear hen hbl HDO HB6 HR6
   go_upto_region 10 with(fail);generalize (w6.setCell ⟨x9,0,none⟩ (.int .i64 p2)).setCell ⟨x9,1,none⟩ (.string q)=w7 at *;clear y0 y1 y0f y1f;have y0:=HX7.out.cell 0;have y1:=HX7.out.cell 1;simp only[zA,zB,zC]at y0 y1;go_wp2_with fail;refine CE.out.mono ?_;rintro e w8 hBT;obtain⟨v8,rfl,ho8⟩:=hBT.ex;obtain⟨A4,c4,rfl,_⟩:=Ev.aP ho8;have HO8:=zh ho8;have HB8:=zh (HB7.out.trans (hBT.bel.mono HB7.out.size));have HR8:=zh (HR7.out.below hBT.bel HR7.out.lt);have HDO8:=zh (HDO7.out.below hBT.bel);have hs7:=HB7.out.size;clear hBT ho8 CE y0 y1;by_cases hn:en=0
   ·subst hn;have HX7:=zh (zx _ (w.heap.size+1) _ (rsC 0 0 0 (.slice A7 p1.length c7) nil (.slice A4 (bF p2 q).length c4) 0 0 0 0) _ _ HR8.out);go_wp2_with (refine zv (o:=⟨none,.store 42 _ _,_,_,_,_⟩) rfl 42 _ _ rfl (w.heap.size+1) (rsC 0 0 0 (.slice A7 p1.length c7) nil (.slice A4 (bF p2 q).length c4) 0 0 0 0) rfl rfl 42 rs0 HR8.out jk rfl (by simp[rsC,Value.oneCell']) ?_);refine zu (aA rfl rfl (zr _ (w.heap.size+1) 42 42 _ (0,0) _ HX7.out underlying42 rfl jk)) rfl ?_;have hD5:=HDO8.out.keep HR8.out jd lS (w':=w8.setRow (w.heap.size+1) (rsC 0 0 0 (.slice A7 p1.length c7) nil (.slice A4 (bF p2 q).length c4) 0 0 0 0)) jz (fun b hb=>vJ w8 _ b _ hb)
    exact⟨_,rfl,zz HB8.out (zZ _) _,a,q,0,HD.out,.inr (.inr ⟨qq,(p1,p2),rfl,HLB.out,HP.out,by rw[HU.out,HPP.out],.inr ⟨HEN.out,A7,c7,_,hD5,cT (iD HO8.out hs7) (fun b hb=>vJ w8 _ b _ (fun e=>by
     subst e
     exact absurd ((aY HO8.out hb).one ⟨_,_,HR8.out⟩) jd)),rfl⟩⟩)⟩
   have hn2:(en != 0)=true:=by simpa using hn
   have HN:=zh hn;clear hn;go_wp2_with fail;refine(dK en _).mono ?_;rintro e w9 ⟨rfl,hb9⟩;have HB9:=zt HB8 hb9;have HR9:=zb HR8 hb9;clear hb9;have HX9:=zh (zx _ (w.heap.size+1) _ (rsC en 0 0 nil nil nil 0 0 0 0) _ _ HR9.out);go_wp2_with (refine zv (o:=⟨none,.store 42 _ _,_,_,_,_⟩) rfl 42 _ _ rfl (w.heap.size+1) (rsC en 0 0 nil nil nil 0 0 0 0) rfl rfl 42 rs0 HR9.out jk rfl (by simp[rsC,Value.oneCell']) ?_);refine zu (aA rfl rfl (zr _ (w.heap.size+1) 42 42 _ (0,0) _ HX9.out underlying42 rfl jk)) rfl ?_;exact⟨_,rfl,zz HB9.out (zZ _) _,a,q,0,HD.out,.inr (.inr ⟨qq,(p1,p2),rfl,HLB.out,HP.out,by rw[HU.out,HPP.out],.inl ⟨by show aG p2 q≠0;rw[HEN.out];exact HN.out,by show _=rsC (aG p2 q) 0 0 nil nil nil 0 0 0 0;rw[HEN.out]⟩⟩)⟩
 have hE2:(E != 0)=true:=by simpa using hE
 have HE:=zh hE;clear hE;go_wp2_with fail;refine(dK E _).mono ?_;rintro e w9 ⟨rfl,hb9⟩;have HB9:=zt HB3 hb9;have HR9:=zb HR3 hb9;clear hb9;have HX9:=zh (zx _ (w.heap.size+1) _ (rsC E 0 0 nil nil nil 0 0 0 0) _ _ HR9.out);go_wp2_with (refine zv (o:=⟨none,.store 42 _ _,_,_,_,_⟩) rfl 42 _ _ rfl (w.heap.size+1) (rsC E 0 0 nil nil nil 0 0 0 0) rfl rfl 42 rs0 HR9.out jk rfl (by simp[rsC,Value.oneCell']) ?_);refine zu (aA rfl rfl (zr _ (w.heap.size+1) 42 42 _ (0,0) _ HX9.out underlying42 rfl jk)) rfl ?_;exact⟨_,rfl,zz HB9.out (zZ _) _,a,q,E,HD.out,.inl ⟨HE.out,rfl⟩⟩
end
end Md
end Go.Proofs.YtmomjpolkkbhnaaGreat
