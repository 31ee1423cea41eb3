/- match.Match: the walk. -/
import Derived.Test.YtmomjpolkkbhnaaGreatQModelCountsRow14
import Derived.Test.YtmomjpolkkbhnaaGreatQModelCountsRow25
set_option linter.unusedSimpArgs false
set_option maxRecDepth 20000
set_option maxHeartbeats 100000000
open Go.Proofs.Tryz
namespace Go.Proofs.YtmomjpolkkbhnaaGreat
namespace Qy
open Go.RowKit Ut Tk
inductive QSz:Q→Prop where
 | mk {k:Int} {nm:ByteArray} {ws:List ByteArray} {l:List Q} (h1:ws.length≤8796093021952) (h2:l.length≤8796093021952) (h3:∀x∈l,QSz x):QSz (.mk k nm ws l)
structure EvAt (w:World) (F:Option Addr) (fn:Nat) (fs:List (ByteArray × ByteArray)):Prop where
 rd:Reads w w.heap.size 2 F fn (aO fs)
 len:fs.length=fn
 few:fn≤8796093021952
 sz:∀f∈fs,f.2.size≤1048576
theorem EvAt.grow{w w':World}{F:Option Addr}{fn:Nat}{fs:List (ByteArray × ByteArray)}(h:EvAt w F fn fs)(hb:zWW w w'):EvAt w' F fn fs:=⟨bD hb h.rd,h.len,h.few,h.sz⟩
def kE(fs:List (ByteArray × ByteArray))(q:Q):Prop:=∀(w:World) (a0 a1 a2 a3:Value) (t:Int) (F:Option Addr) (fn fc:Nat),QAt w w.heap.size q [a0,a1,a2,a3]→EvAt w F fn fs →
 Calls prog 74 #[.agg #[a0,a1,a2,a3],.agg #[.int .i64 t,.slice F fn fc]] w fun e w'=>e=.returned (.bool (aC fs q))∧zWW w w'
structure EBox (w:World) (eb:Nat) (t:Int) (F:Option Addr) (fn fc:Nat):Prop where
 c0:w.cell? ⟨eb,0,none⟩=some (.int .i64 t)
 c1:w.cell? ⟨eb,1,none⟩=some (.slice F fn fc)
theorem EBox.grow{w w':World}{eb:Nat}{t:Int}{F:Option Addr}{fn fc:Nat}(h:EBox w eb t F fn fc)(hb:zWW w w'):EBox w' eb t F fn fc:=by
 have hl:=World.block_lt_of_cell? w _ h.c0;exact⟨(hb.cell (p:=⟨eb,0,none⟩) hl).trans h.c0,(hb.cell (p:=⟨eb,1,none⟩) hl).trans h.c1⟩
theorem pX(fs:List (ByteArray × ByteArray))(q:Q)(ih:kE fs q)(eb:Nat)(t:Int)(F:Option Addr)(fn fc:Nat)(w:World)(a0 a1 a2 a3:Value)(hq:QAt w w.heap.size q [a0,a1,a2,a3])(hE:EBox w eb t F fn fc)(hF:EvAt w F fn fs) :
  Calls prog 112 #[.agg #[a0,a1,a2,a3],.pointer (some ⟨eb,0,none⟩)] w fun e w'=>e=.returned (.bool (aC fs q))∧zWW w w':=by
 obtain⟨k,nm,ws,l⟩:=q;obtain⟨A,n,c,C,m,d,e,_⟩:=hq.is;simp only[zQ,and_true]at e;obtain⟨rfl,rfl,rfl,rfl⟩:=e;have hb:zWW w (w.alloc (.cells #[.int .i64 k,.string nm,.slice A n c,.slice C m d] 60)):=zRR _;have c1:=ih _ _ _ _ _ t F fn fc (hq.grow hb) (hF.grow hb);have h0:=hE.c0;have h1:=hE.c1;have Hb:=zh hb;have hl:=World.block_lt_of_cell? w _ h0;clear hq hE hF ih hb;generalize aC fs (.mk k nm ws l)=r at *;go_enter func112,ntmps112;go_wp2_with fail;refine c1.mono ?_;rintro e w1 ⟨rfl,hb1⟩;have Hb1:=zt Hb hb1;clear hb1 c1;go_wp2;go_ret;exact⟨rfl,Hb1.out⟩
theorem FR(fs:List (ByteArray × ByteArray))(q:Q)(ih:kE fs q)(fb eb:Nat)(t:Int)(F:Option Addr)(fn fc:Nat)(w:World)(a0 a1 a2 a3:Value)(hq:QAt w w.heap.size q [a0,a1,a2,a3])(hE:EBox w eb t F fn fc)(hF:EvAt w F fn fs)
  (hfb:w.cell? ⟨fb,0,none⟩=some (.func (.func 112) #[] #[.pointer (some ⟨eb,0,none⟩)])) :
  Calls prog 115 #[.agg #[a0,a1,a2,a3],.pointer (some ⟨fb,0,none⟩)] w fun e w'=>e=.returned (.bool (!aC fs q))∧zWW w w':=by
 obtain⟨k,nm,ws,l⟩:=q;obtain⟨A,n,c,C,m,d,e,_⟩:=hq.is;simp only[zQ,and_true]at e;obtain⟨rfl,rfl,rfl,rfl⟩:=e;have hb:zWW w (w.alloc (.cells #[.int .i64 k,.string nm,.slice A n c,.slice C m d] 60)):=zRR _;have c1:=pX fs _ ih eb t F fn fc _ _ _ _ _ (hq.grow hb) (hE.grow hb) (hF.grow hb);have Hb:=zh hb;have hl:=World.block_lt_of_cell? w _ hfb;clear hq hE hF ih hb;generalize aC fs (.mk k nm ws l)=r at *;go_enter func115,ntmps115;go_wp2_with fail;refine c1.mono ?_;rintro e w1 ⟨rfl,hb1⟩;have Hb1:=zt Hb hb1;clear hb1 c1;go_wp2;go_ret;exact⟨rfl,Hb1.out⟩
theorem Az{α:Type}(l:List α)(g:α→Bool):(!l.any fun x=>!g x)=l.all g:=by
 rw[List.all_eq_not_any_not]
theorem Bu(fs:List (ByteArray × ByteArray))(k:Int)(nm:ByteArray)(ws:List ByteArray)(l:List Q)(hl2:ws.length≤8796093021952)(hl3:l.length≤8796093021952)(ih:∀x∈l,kE fs x):kE fs (.mk k nm ws l):=by
 intro w a0 a1 a2 a3 t F fn fc hq hF;obtain⟨WA,m,wc,CA,n,c2,e,hI⟩:=hq.is;simp only[zQ,and_true]at e;obtain⟨rfl,rfl,rfl,rfl⟩:=e;have hbq:zWW w (w.alloc (.cells #[.int .i64 k,.string nm,.slice WA m wc,.slice CA n c2] 60)):=zRR _;have hbe:zWW w ((w.alloc (.cells #[.int .i64 k,.string nm,.slice WA m wc,.slice CA n c2] 60)).alloc (.cells #[.int .i64 t,.slice F fn fc] 46)):=hbq.alloc hbq.size _;have hb5:zWW w (((w.alloc (.cells #[.int .i64 k,.string nm,.slice WA m wc,.slice CA n c2] 60)).alloc (.cells #[.int .i64 t,.slice F fn fc] 46)).alloc (.cells #[.func (.func 112) #[] #[.pointer (some ⟨w.heap.size+1,0,none⟩)]] 98)):=hbe.alloc hbe.size _;have z1:(w.alloc (.cells #[.int .i64 k,.string nm,.slice WA m wc,.slice CA n c2] 60)).heap.size=w.heap.size+1:=jz;have z2:((w.alloc (.cells #[.int .i64 k,.string nm,.slice WA m wc,.slice CA n c2] 60)).alloc (.cells #[.int .i64 t,.slice F fn fc] 46)).heap.size=w.heap.size+1+1:=jz;have hQ5:=(((Blk.new w 60 #[.int .i64 k,.string nm,.slice WA m wc,.slice CA n c2]).alloc (.cells #[.int .i64 t,.slice F fn fc] 46)).alloc (.cells #[.func (.func 112) #[] #[.pointer (some ⟨w.heap.size+1,0,none⟩)]] 98))
 have hE5:EBox (((w.alloc (.cells #[.int .i64 k,.string nm,.slice WA m wc,.slice CA n c2] 60)).alloc (.cells #[.int .i64 t,.slice F fn fc] 46)).alloc (.cells #[.func (.func 112) #[] #[.pointer (some ⟨w.heap.size+1,0,none⟩)]] 98)) (w.heap.size+1) t F fn fc:=by
  have h:=((Blk.new (w.alloc (.cells #[.int .i64 k,.string nm,.slice WA m wc,.slice CA n c2] 60)) 46 #[.int .i64 t,.slice F fn fc]).alloc (.cells #[.func (.func 112) #[] #[.pointer (some ⟨w.heap.size+1,0,none⟩)]] 98));rw[z1]at h;exact⟨h.cell 0,h.cell 1⟩
 have hF5:((((w.alloc (.cells #[.int .i64 k,.string nm,.slice WA m wc,.slice CA n c2] 60)).alloc (.cells #[.int .i64 t,.slice F fn fc] 46)).alloc (.cells #[.func (.func 112) #[] #[.pointer (some ⟨w.heap.size+1,0,none⟩)]] 98))).cell? ⟨w.heap.size+1+1,0,none⟩=some (.func (.func 112) #[] #[.pointer (some ⟨w.heap.size+1,0,none⟩)]):=by
  have h:=Blk.new ((w.alloc (.cells #[.int .i64 k,.string nm,.slice WA m wc,.slice CA n c2] 60)).alloc (.cells #[.int .i64 t,.slice F fn fc] 46)) 98 #[.func (.func 112) #[] #[.pointer (some ⟨w.heap.size+1,0,none⟩)]];rw[z2]at h;exact h.cell 0
 have hEv:=hF.grow hb5;have hq5:=hq.grow hb5;obtain⟨WA',m',wc',CA',n',c2',e,hI5⟩:=hq5.is;simp only[zQ,Value.slice.injEq,and_true,true_and]at e;obtain⟨⟨rfl,rfl,rfl⟩,rfl,rfl,rfl⟩:=e;have Hb5:=zh hb5;by_cases k1:k=1
 ·subst k1;have Fin:Hid (aC fs (.mk 1 nm ws l)=true):=zh (by rw[fB];simp);rw[Fin.out];clear hq hF hI hbq hbe hb5 hQ5 hE5 hF5 hEv hq5 hI5 ih;go_enter func74,ntmps74;go_wp2;go_ret;exact⟨rfl,Hb5.out⟩
 by_cases k234:k=2∨k=3∨k=4
 ·have Fin:Hid (aC fs (.mk k nm ws l)=eY k nm ws fs):=zh (by rw[fB,zH k1,zI k234]);have c1:=FQ k nm ws WA CA m wc n c2 t F fn fc fs _ k234 hI5.wds hI5.wn (by rw[←hI5.wn];exact hl2) hEv.rd hEv.len hEv.few hEv.sz;rw[Fin.out];have C1:=zh c1;clear hq hF hI hbq hbe hb5 hQ5 hE5 hF5 hEv hq5 hI5 ih c1 Fin;generalize eY k nm ws fs=r at *;rcases k234 with rfl|rfl|rfl
  all_goals
   clear k1;go_enter func74,ntmps74;go_wp2_with (go_at_call 113;refine C1.out.mono ?_;rintro e w1 ⟨rfl,hb1⟩);go_ret;exact⟨rfl,Hb5.out.trans (hb1.mono Hb5.out.size)⟩
 by_cases k5:k=5
 ·subst k5;have Fin:Hid (aC fs (.mk 5 nm ws l)=l.all (aC fs)):=zh (by rw[fB];simp)
  have c1:=sI CA n c2 5 nm ws WA m l 115 #[.pointer (some ⟨w.heap.size+1+1,0,none⟩)] (fun i=>(l[i]?).any (fun x=>!aC fs x)) _ (fun args wx=>iQ func115 jk rfl args wx)
   hI5 hI5.lm (by rw[←hI5.lm];exact hl3) (fun i h b0 b1 b2 b3 wx hqx hbx=>by
    have c:=FR fs l[i] (ih _ (za h)) (w.heap.size+1+1) (w.heap.size+1) t F fn fc wx b0 b1 b2 b3 (hqx.grow hbx) (hE5.grow hbx) (hEv.grow hbx) ((hbx.cell (p:=⟨w.heap.size+1+1,0,none⟩) jz).trans hF5);rw[zU h]
    simpa using c)
  have e:=mV l (fun x=>!aC fs x);rw[hI5.lm]at e;rw[e]at c1;have Fin2:=zh (Az l (aC fs));rw[Fin.out,←Fin2.out];have C1:=zh c1;clear hq hF hI hbq hbe hb5 hQ5 hE5 hF5 hEv hq5 hI5 ih c1 Fin e k1 k234 Fin2;generalize (l.any fun x=>!aC fs x)=r at *;go_enter func74,ntmps74;go_wp2_with (go_at_call 114;refine C1.out.mono ?_;rintro e w1 ⟨rfl,hb1⟩);go_ret;exact⟨rfl,Hb5.out.trans (hb1.mono Hb5.out.size)⟩
 by_cases k6:k=6
 ·subst k6;have Fin:Hid (aC fs (.mk 6 nm ws l)=l.any (aC fs)):=zh (by rw[fB];simp)
  have c1:=sI CA n c2 6 nm ws WA m l 112 #[.pointer (some ⟨w.heap.size+1,0,none⟩)] (fun i=>(l[i]?).any (fun x=>aC fs x)) _ (fun args wx=>iQ func112 jk rfl args wx)
   hI5 hI5.lm (by rw[←hI5.lm];exact hl3) (fun i h b0 b1 b2 b3 wx hqx hbx=>by
    have c:=pX fs l[i] (ih _ (za h)) (w.heap.size+1) t F fn fc wx b0 b1 b2 b3 (hqx.grow hbx) (hE5.grow hbx) (hEv.grow hbx);rw[zU h]
    simpa using c)
  have e:=mV l (fun x=>aC fs x);rw[hI5.lm]at e;rw[e]at c1;rw[Fin.out];have C1:=zh c1;clear hq hF hI hbq hbe hb5 hQ5 hE5 hF5 hEv hq5 hI5 ih c1 Fin e k1 k234 k5;generalize (l.any fun x=>aC fs x)=r at *;go_enter func74,ntmps74;go_wp2_with (go_at_call 114;refine C1.out.mono ?_;rintro e w1 ⟨rfl,hb1⟩);go_ret;exact⟨rfl,Hb5.out.trans (hb1.mono Hb5.out.size)⟩
 by_cases k7:k=7
 ·subst k7;have Fin:Hid (aC fs (.mk 7 nm ws l)=fA fs l):=zh (by rw[fB];simp);rw[Fin.out]
  have hcells:∀wx,Below (World.heap (((w.alloc (.cells #[.int .i64 7,.string nm,.slice WA m wc,.slice CA n c2] 60)).alloc (.cells #[.int .i64 t,.slice F fn fc] 46)).alloc (.cells #[.func (.func 112) #[] #[.pointer (some ⟨w.heap.size+1,0,none⟩)]] 98))).size (((w.alloc (.cells #[.int .i64 7,.string nm,.slice WA m wc,.slice CA n c2] 60)).alloc (.cells #[.int .i64 t,.slice F fn fc] 46)).alloc (.cells #[.func (.func 112) #[] #[.pointer (some ⟨w.heap.size+1,0,none⟩)]] 98)) wx→wx.cell? ⟨w.heap.size,3,none⟩=some (.slice CA n c2)∧wx.cell? ⟨w.heap.size+1+1,0,none⟩=some (.func (.func 112) #[] #[.pointer (some ⟨w.heap.size+1,0,none⟩)]):=fun wx hC=>
   ⟨(hC.cell (p:=⟨w.heap.size,3,none⟩) jm).trans (hQ5.cell 3),(hC.cell (p:=⟨w.heap.size+1+1,0,none⟩) jz).trans hF5⟩
  have hcells':=zh hcells;have hmn:=hI5.lm;by_cases hn1:n=1
  ·obtain⟨x,rfl⟩:∃x,l=[x]:=List.length_eq_one_iff.1 jo;obtain⟨tb,tq,A',n',c',C',m',d',e1,htb,hqx,g0,g1,g2,g3⟩:=hI5.at_ (i:=0) jz;subst e1;obtain rfl:n=1:=hn1;have hx:=ih x jz;simp only[List.getElem_cons_zero,Nat.zero_mul,Nat.add_zero]at hqx g0 g1 g2 g3
   have hcells2:∀wx,Below (World.heap (((w.alloc (.cells #[.int .i64 7,.string nm,.slice WA m wc,.slice (some ⟨tb,tq,none⟩) 1 c2] 60)).alloc (.cells #[.int .i64 t,.slice F fn fc] 46)).alloc (.cells #[.func (.func 112) #[] #[.pointer (some ⟨w.heap.size+1,0,none⟩)]] 98))).size (((w.alloc (.cells #[.int .i64 7,.string nm,.slice WA m wc,.slice (some ⟨tb,tq,none⟩) 1 c2] 60)).alloc (.cells #[.int .i64 t,.slice F fn fc] 46)).alloc (.cells #[.func (.func 112) #[] #[.pointer (some ⟨w.heap.size+1,0,none⟩)]] 98)) wx→wx.cell? ⟨w.heap.size,3,none⟩=some (.slice (some ⟨tb,tq,none⟩) 1 c2)∧wx.cell? ⟨w.heap.size+1+1,0,none⟩=some (.func (.func 112) #[] #[.pointer (some ⟨w.heap.size+1,0,none⟩)]) ∧
     wx.cell? ⟨tb,tq,none⟩=some (.int .i64 x.kind)∧wx.cell? ⟨tb,tq+1,none⟩=some (.string x.name)∧wx.cell? ⟨tb,tq+2,none⟩=some (.slice A' n' c')∧wx.cell? ⟨tb,tq+3,none⟩=some (.slice C' m' d'):=fun wx hC=>
    ⟨(hcells wx hC).1,(hcells wx hC).2,(hC.cell (p:=⟨tb,tq,none⟩) htb).trans g0,(hC.cell (p:=⟨tb,tq+1,none⟩) htb).trans g1,(hC.cell (p:=⟨tb,tq+2,none⟩) htb).trans g2,(hC.cell (p:=⟨tb,tq+3,none⟩) htb).trans g3⟩
   have c1:=fun wx (hC:Below (World.heap (((w.alloc (.cells #[.int .i64 7,.string nm,.slice WA m wc,.slice (some ⟨tb,tq,none⟩) 1 c2] 60)).alloc (.cells #[.int .i64 t,.slice F fn fc] 46)).alloc (.cells #[.func (.func 112) #[] #[.pointer (some ⟨w.heap.size+1,0,none⟩)]] 98))).size (((w.alloc (.cells #[.int .i64 7,.string nm,.slice WA m wc,.slice (some ⟨tb,tq,none⟩) 1 c2] 60)).alloc (.cells #[.int .i64 t,.slice F fn fc] 46)).alloc (.cells #[.func (.func 112) #[] #[.pointer (some ⟨w.heap.size+1,0,none⟩)]] 98)) wx)=>pX fs x hx (w.heap.size+1) t F fn fc wx _ _ _ _ (hqx.grow hC) (hE5.grow hC) (hEv.grow hC)
   have hN:fA fs [x]=!aC fs x:=by rw[fA]
   rw[hN];have C1:=zh c1;have hcells2':=zh hcells2;clear hq hF hI hbq hbe hb5 hQ5 hE5 hF5 hEv hq5 hI5 ih c1 Fin k1 k234 k5 k6 hcells hcells2 hcells' hN hqx g0 g1 g2 g3 hx hmn;generalize aC fs x=r at *;generalize x.kind=x0 at *;generalize x.name=x1 at *;go_enter func74,ntmps74;go_wp2_with fail;refine cH (aI [(10,⟨Unit,fun _=>(.bool r),fun _ _=>True⟩)]) (fun wx=>Below (World.heap (((w.alloc (.cells #[.int .i64 7,.string nm,.slice WA m wc,.slice (some ⟨tb,tq,none⟩) 1 c2] 60)).alloc (.cells #[.int .i64 t,.slice F fn fc] 46)).alloc (.cells #[.func (.func 112) #[] #[.pointer (some ⟨w.heap.size+1,0,none⟩)]] 98))).size (((w.alloc (.cells #[.int .i64 7,.string nm,.slice WA m wc,.slice (some ⟨tb,tq,none⟩) 1 c2] 60)).alloc (.cells #[.int .i64 t,.slice F fn fc] 46)).alloc (.cells #[.func (.func 112) #[] #[.pointer (some ⟨w.heap.size+1,0,none⟩)]] 98)) wx) (fun w1 w2=>zWW w1 w2) jk jk (aN (fun _ _ _ _ h=>h) (aX)) (zw _ _).drew ?_
   iterate 10
    refine aH _ ?_ rfl jr jr (fun wx hC hD=>?_) ?_;rotate_left
    ·have hSw:=hcells2'.out wx hC;go_simp;all_goals with_reducible rfl
    try simp only[Act.put,zD,zE,zF]
   refine ae 11 _ rfl jr jr (fun wx hC hD=>?_) (fun x=>?_)
   ·refine aZ (f:=?_) (args:=?_) ?_ ?_;rotate_left 2
    ·have hSw:=hcells2'.out wx hC;go_simp;all_goals first|with_reducible rfl|(refine⟨?_,?_⟩<;>with_reducible rfl)
    exact cz hC (C1.out wx hC)
   obtain⟨⟩:=x;try simp only[Act.put,zD,zE,zF]
   iterate 3
    refine aH _ ?_ rfl jr jr (fun wx hC hD=>?_) ?_;rotate_left
    ·have hSw:=hcells2'.out wx hC;go_simp;all_goals with_reducible rfl
    try simp only[Act.put,zD,zE,zF]
   refine ah (fun w2 hC hF=>?_);have Hb:=zt Hb5 hC;clear hF hC;go_wp2;go_ret;exact⟨rfl,Hb.out⟩
  have hn1':((n:Int)==1)=false:=by rw[zM];omega
  have hN:fA fs l=false:=by
   unfold fA
   split
   ·exact absurd hmn jm
   rfl
  rw[hN];clear hq hF hI hbq hbe hb5 hQ5 hE5 hF5 hEv hq5 hI5 ih Fin k1 k234 k5 k6 hcells hN hmn hn1;go_enter func74,ntmps74;go_wp2_with fail;refine cH (aI []) (fun wx=>Below (World.heap (((w.alloc (.cells #[.int .i64 7,.string nm,.slice WA m wc,.slice CA n c2] 60)).alloc (.cells #[.int .i64 t,.slice F fn fc] 46)).alloc (.cells #[.func (.func 112) #[] #[.pointer (some ⟨w.heap.size+1,0,none⟩)]] 98))).size (((w.alloc (.cells #[.int .i64 7,.string nm,.slice WA m wc,.slice CA n c2] 60)).alloc (.cells #[.int .i64 t,.slice F fn fc] 46)).alloc (.cells #[.func (.func 112) #[] #[.pointer (some ⟨w.heap.size+1,0,none⟩)]] 98)) wx) (fun w1 w2=>zWW w1 w2) jk jk (aX) (zw _ _).drew ?_
  iterate 5
   refine aH _ ?_ rfl jr jr (fun wx hC hD=>?_) ?_;rotate_left
   ·have hSw:=hcells'.out wx hC;go_simp;all_goals with_reducible rfl
   try simp only[Act.put,zD,zE,zF]
  refine aS 6 (some false) true rfl jr jr jr ?_;try simp only[Act.put,zD,zE,zF]
  refine aS 7 (some false) true rfl jr jr jr ?_;try simp only[Act.put,zD,zE,zF]
  refine aS 8 (some false) true rfl jr jr jr ?_;try simp only[Act.put,zD,zE,zF]
  refine aS 9 (some false) true rfl jr jr jr ?_;try simp only[Act.put,zD,zE,zF]
  refine aS 10 (some false) true rfl jr jr jr ?_;try simp only[Act.put,zD,zE,zF]
  refine aS 11 (some false) true rfl jr jr jr ?_;try simp only[Act.put,zD,zE,zF]
  refine aS 12 (some false) true rfl jr jr jr ?_;try simp only[Act.put,zD,zE,zF]
  iterate 2
   refine aH _ ?_ rfl jr jr (fun wx hC hD=>?_) ?_;rotate_left
   ·have hSw:=hcells'.out wx hC;go_simp;all_goals with_reducible rfl
   try simp only[Act.put,zD,zE,zF]
  refine ah (fun w2 hC hF=>?_);have Hb:=zt Hb5 hC;clear hF hC;go_wp2;go_ret;exact⟨rfl,Hb.out⟩
 have Fin:Hid (aC fs (.mk k nm ws l)=false):=zh (by rw[fB,zH k1,zH k234,zH k5,zH k6,zH k7]);rw[Fin.out];have j1:(k==1)=false:=by rw[zM];omega
 have j2:(k==2)=false:=by rw[zM];omega
 have j3:(k==3)=false:=by rw[zM];omega
 have j4:(k==4)=false:=by rw[zM];omega
 have j5:(k==5)=false:=by rw[zM];omega
 have j6:(k==6)=false:=by rw[zM];omega
 have j7:(k==7)=false:=by rw[zM];omega
 clear hq hF hI hbq hbe hb5 hQ5 hE5 hF5 hEv hq5 hI5 ih Fin k1 k234 k5 k6 k7;go_enter func74,ntmps74;go_wp2;go_ret;exact⟨rfl,Hb5.out⟩
theorem uQ(fs:List (ByteArray × ByteArray)):∀q,QSz q→kE fs q:=by
 intro q;refine Q.ind (p:=fun q=>QSz q→kE fs q) ?_ q;intro k nm ws l ih hs
 cases hs with
 | mk h1 h2 h3=>exact Bu fs k nm ws l h1 h2 (fun x hx=>ih x hx (h3 x hx))
end Qy

namespace Qp
open Go.RowKit Ut Tk Qy
def set6(w:World)(g:Nat)(a b c d e f:Value):World:=(((((w.setCell ⟨g,0,none⟩ a).setCell ⟨g,1,none⟩ b).setCell ⟨g,2,none⟩ c).setCell ⟨g,3,none⟩ d).setCell ⟨g,4,none⟩ e).setCell ⟨g,5,none⟩ f
theorem _root_.Go.Proofs.YtmomjpolkkbhnaaGreat.Blk.six{w:World}{g:Nat}{t:TypeId}{x0 x1 x2 x3 x4 x5:Value}(h:Blk w g t #[x0,x1,x2,x3,x4,x5]) :
  w.cell? ⟨g,0,none⟩=some x0∧w.cell? ⟨g,1,none⟩=some x1∧w.cell? ⟨g,2,none⟩=some x2∧w.cell? ⟨g,3,none⟩=some x3∧w.cell? ⟨g,4,none⟩=some x4∧w.cell? ⟨g,5,none⟩=some x5 ∧
  w.frozen? ⟨g,0,none⟩=false∧w.frozen? ⟨g,1,none⟩=false∧w.frozen? ⟨g,2,none⟩=false∧w.frozen? ⟨g,3,none⟩=false∧w.frozen? ⟨g,4,none⟩=false∧w.frozen? ⟨g,5,none⟩=false:=
 ⟨h.cell 0,h.cell 1,h.cell 2,h.cell 3,h.cell 4,h.cell 5,h.frozen 0,h.frozen 1,h.frozen 2,h.frozen 3,h.frozen 4,h.frozen 5⟩
theorem _root_.Go.Proofs.YtmomjpolkkbhnaaGreat.Blk.set6{w:World}{g:Nat}{t:TypeId}{x0 x1 x2 x3 x4 x5:Value}(h:Blk w g t #[x0,x1,x2,x3,x4,x5])(a b c d e f:Value):Blk (set6 w g a b c d e f) g t #[a,b,c,d,e,f]:=
 (((((h.set_ 0 a).set_ 1 b).set_ 2 c).set_ 3 d).set_ 4 e).set_ 5 f
theorem CH(w:World)(g k:Nat)(a b c d e f:Value)(h:k≠g):(set6 w g a b c d e f).heap[k]?=w.heap[k]?:=by
 unfold set6;rw[vL _ _ _ _ h,vL _ _ _ _ h,vL _ _ _ _ h,vL _ _ _ _ h,vL _ _ _ _ h,vL _ _ _ _ h]
theorem D6(w:World)(g:Nat)(a b c d e f:Value):(set6 w g a b c d e f).heap.size=w.heap.size:=by simp[set6,World.setCell]
theorem kZ{B g:Nat}{w0 w:World}(hb:Below B w0 w)(hBg:B≤g)(a b c d e f:Value):Below B w0 (set6 w g a b c d e f):=
 (((((hb.setCell (p:=⟨g,0,none⟩) hBg a).setCell (p:=⟨g,1,none⟩) hBg b).setCell (p:=⟨g,2,none⟩) hBg c).setCell (p:=⟨g,3,none⟩) hBg d).setCell (p:=⟨g,4,none⟩) hBg e).setCell (p:=⟨g,5,none⟩) hBg f
theorem Jn{w W:World}{g base:Nat}{q:Q}{vs:List Value}{a b c d e f:Value}(hF:QF W (fun x=>base≤x∧x<W.heap.size) q vs)(hb:g<base)(hw:w.heap.size≤g) :
  QF (set6 W g a b c d e f) (fun x=>w.heap.size≤x∧x<(set6 W g a b c d e f).heap.size) q vs:=
 (hF.keep fun x _ hS=>vN (w:=W) (CH W g x _ _ _ _ _ _ (by have:=hS.1;omega))).mono fun x hS=>⟨by have:=hS.1;omega,by rw[D6];exact hS.2⟩
theorem iN{w w':World}{size n:Nat}{A:Option Addr}{xs:List Value}(h:Reads w w.heap.size size A n xs)(hb:zWW w w'):Reads w' w'.heap.size size A n xs:=(h.below hb).more hb.size
theorem gW(w:World):Calls prog 80 #[] w fun e w'=>e=.returned (.agg #[.int .i64 0,.string ⟨#[]⟩,.slice none 0 0,.slice none 0 0,.int .i64 0,.bool false])∧zWW w w':=by
 have hh:=Blk.new w 96 #[.int .i64 0,.string ⟨#[]⟩,.slice none 0 0,.slice none 0 0,.int .i64 0,.bool false];have hbl:=zh ((zw w.heap.size w).alloc (zG _) (.cells #[.int .i64 0,.string ⟨#[]⟩,.slice none 0 0,.slice none 0 0,.int .i64 0,.bool false] 96));go_enter func80,ntmps80;go_wp2_with fail;exact zu (aA rfl rfl (zr _ w.heap.size 96 96 _ (0,0) _ hh underlying96 rfl jk)) rfl ⟨rfl,hbl.out⟩
def nG(w:World)(L:List P)(m:Md)(p:Nat)(e:Ending)(w':World):Prop:=
 ∃a0 a1 a2 a3 z ok,e=.returned (.agg #[a0,a1,a2,a3,.int .i64 z,.bool ok])∧rI [a0,a1,a2,a3]∧zWW w w' ∧
  ∃o,R m (L.drop p) o∧ok=o.isSome∧∀q r,o=some (q,r)→∃k:Nat,z=(k:Int)∧k≤L.length∧r=L.drop k∧QF w' (fun b=>w.heap.size≤b∧b<w'.heap.size) q [a0,a1,a2,a3]
def eD(L:List P)(p:Nat):Prop:=∀(w:World) (A:Option Addr) (c:Nat),Reads w w.heap.size 1 A L.length (sv L)→Calls prog 116 #[.slice A L.length c,.int .i64 (p:Int)] w (nG w L .part p)
def rE(L:List P)(p:Nat):Prop:=∀(w:World) (A:Option Addr) (c:Nat),Reads w w.heap.size 1 A L.length (sv L)→Calls prog 79 #[.slice A L.length c,.int .i64 (p:Int)] w (nG w L (.and []) p)
def rJ(L:List P)(p:Nat):Prop:=∀(w:World) (A:Option Addr) (c:Nat),Reads w w.heap.size 1 A L.length (sv L)→Calls prog 42 #[.slice A L.length c,.int .i64 (p:Int)] w (nG w L (.or []) p)
def W1(w:World):World:=w.alloc (.cells #[.int .i64 0,.string ByteArray.empty,.slice none 0 0,.slice none 0 0,.int .i64 0,.bool false] 96)
theorem gS(w:World):(W1 w).heap.size=w.heap.size+1:=by simp[W1]
theorem gX(w:World):Blk (W1 w) w.heap.size 96 #[.int .i64 0,.string ByteArray.empty,.slice none 0 0,.slice none 0 0,.int .i64 0,.bool false]:=Blk.new w _ _
theorem gN(w:World):zWW w (W1 w):=zRR _
theorem gp{w:World}{B:Nat}{A:Option Addr}{L:List P}(h:Reads w B 1 A L.length (sv L)){p:Nat}(hp:p<L.length):∃b o,A=some ⟨b,o,none⟩∧b<B∧w.cell? ⟨b,o+p,none⟩=some (.string (str L[p])):=by
 obtain⟨b,o,u,e,hb,hu,hc⟩:=h.at_ hp;rw[Jm L p hp]at hu;injection hu with hu;subst hu;exact⟨b,o,e,hb,hc⟩
theorem Fh(L:List P)(p:Nat)(hp:L.length≤p):eD L p:=by
 intro w A c hR;have HH:Hid (R .part (L.drop p) none):=zh (by rw[List.drop_of_length_le hp];exact .pnil);have hp':(L.length:Int)≤(p:Int):=jo;have c0:=gW (W1 w);have HB:=gX w;have Hb:=gN w;have hz:=gS w;unfold W1 at c0 HB Hb hz;have HB0:=zh HB;have Hb0:=zh Hb;have Hz:=zh hz;clear HB Hb hz hR hp;generalize L.length=n at *;go_enter func116,ntmps116;go_wp2_with fail;refine c0.mono ?_;rintro e w2 ⟨rfl,hb⟩;have B2:=HB0.out.below hb (by rw[Hz.out];omega);have b2:=Hb0.out.trans (hb.mono (by rw[Hz.out];omega));clear hb c0;obtain⟨q0,q1,q2,q3,q4,q5,f0,f1,f2,f3,f4,f5⟩:=B2.six;have hX:=B2.set6 (.int .i64 0) (.string ⟨#[]⟩) (.slice none 0 0) (.slice none 0 0) (.int .i64 0) (.bool false);have Hbl:=zh (kZ b2 (zG _) (.int .i64 0) (.string ⟨#[]⟩) (.slice none 0 0) (.slice none 0 0) (.int .i64 0) (.bool false));have HX:=zh hX;clear hX;go_wp2_with fail;refine zu (aA rfl rfl (zr _ w.heap.size 96 96 _ (0,0) _ HX.out underlying96 rfl jk)) rfl ?_;exact⟨_,_,_,_,_,_,rfl,⟨_,_,_,_,_,_,_,_,rfl⟩,Hbl.out,none,HH.out,rfl,(fun q r h=>by cases h)⟩
theorem Fj(L:List P)(p:Nat)(hp:p<L.length)(hL:L.length≤1048576)(hs1:L[p]=RP):eD L p:=by
 intro w A c hR;have hp':(p:Int)<(L.length:Int):=jo;have hp0:(0:Int)≤(p:Int):=jo;have hLi:(L.length:Int)≤1048576:=jo;have HB:=gX w;have Hb:=gN w;have hz:=gS w;have hR1:=iN hR Hb;obtain⟨b,o,rfl,hbl,hc0⟩:=gp hR hp;have hbne:b≠w.heap.size:=jo;have hd:L.drop p=L[p]::L.drop (p+1):=zc hp;have HR1:=zh hR1;have hR0:=zh hR;have HB0:=zh HB;have Hb0:=zh Hb;have Hz:=zh hz;clear HB Hb hz hR hR1;generalize hs0:L[p]=s at *;have hs:s=RP:=hs1;clear hs1;have fNOT:((str s).toList == [78,79,84])=decide (s=NOT):=by rw[aF];rfl
 have fLP:((str s).toList == [40])=decide (s=LP):=by rw[aF];rfl
 have fRP:((str s).toList == [41])=decide (s=RP):=by rw[aF];rfl
 have fAND:((str s).toList == [65,78,68])=decide (s=AND):=by rw[aF];rfl
 have fOR:((str s).toList == [79,82])=decide (s=OR):=by rw[aF];rfl
 rw[show decide (s=NOT)=false from zN (fun e=>by rw[e]at hs;exact absurd hs jd)]at fNOT;rw[show decide (s=LP)=false from zN (fun e=>by rw[e]at hs;exact absurd hs jd)]at fLP;rw[show decide (s=RP)=true from zO hs]at fRP;rw[show decide (s=AND)=false from zN (fun e=>by rw[e]at hs;exact absurd hs jd)]at fAND;rw[show decide (s=OR)=false from zN (fun e=>by rw[e]at hs;exact absurd hs jd)]at fOR;have HH:Hid (R .part (L.drop p) none):=zh (by rw[hd];exact .pbad (.inl hs));have c0:=gW (W1 w);unfold W1 at c0;clear HR1;clear hs0 hd hs;unfold W1 at HB0 Hb0 Hz;go_enter func116,ntmps116;go_wp2_with fail;refine c0.mono ?_;rintro e w2 ⟨rfl,hb⟩;have B2:=HB0.out.below hb (by rw[Hz.out];omega);have b2:=Hb0.out.trans (hb.mono (by rw[Hz.out];omega));clear hb c0 hc0;obtain⟨q0,q1,q2,q3,q4,q5,f0,f1,f2,f3,f4,f5⟩:=B2.six;have hX:=B2.set6 (.int .i64 0) (.string ⟨#[]⟩) (.slice none 0 0) (.slice none 0 0) (.int .i64 0) (.bool false);have Hbl:=zh (kZ b2 (zG _) (.int .i64 0) (.string ⟨#[]⟩) (.slice none 0 0) (.slice none 0 0) (.int .i64 0) (.bool false));have HX:=zh hX;clear hX;go_wp2_with fail;refine zu (aA rfl rfl (zr _ w.heap.size 96 96 _ (0,0) _ HX.out underlying96 rfl jk)) rfl ?_;exact⟨_,_,_,_,_,_,rfl,⟨_,_,_,_,_,_,_,_,rfl⟩,Hbl.out,none,HH.out,rfl,(fun q r h=>by cases h)⟩
theorem D7(L:List P)(p:Nat)(hp:p<L.length)(hL:L.length≤1048576)(hs1:L[p]=AND):eD L p:=by
 intro w A c hR;have hp':(p:Int)<(L.length:Int):=jo;have hp0:(0:Int)≤(p:Int):=jo;have hLi:(L.length:Int)≤1048576:=jo;have HB:=gX w;have Hb:=gN w;have hz:=gS w;have hR1:=iN hR Hb;obtain⟨b,o,rfl,hbl,hc0⟩:=gp hR hp;have hbne:b≠w.heap.size:=jo;have hd:L.drop p=L[p]::L.drop (p+1):=zc hp;have HR1:=zh hR1;have hR0:=zh hR;have HB0:=zh HB;have Hb0:=zh Hb;have Hz:=zh hz;clear HB Hb hz hR hR1;generalize hs0:L[p]=s at *;have hs:s=AND:=hs1;clear hs1;have fNOT:((str s).toList == [78,79,84])=decide (s=NOT):=by rw[aF];rfl
 have fLP:((str s).toList == [40])=decide (s=LP):=by rw[aF];rfl
 have fRP:((str s).toList == [41])=decide (s=RP):=by rw[aF];rfl
 have fAND:((str s).toList == [65,78,68])=decide (s=AND):=by rw[aF];rfl
 have fOR:((str s).toList == [79,82])=decide (s=OR):=by rw[aF];rfl
 rw[show decide (s=NOT)=false from zN (fun e=>by rw[e]at hs;exact absurd hs jd)]at fNOT;rw[show decide (s=LP)=false from zN (fun e=>by rw[e]at hs;exact absurd hs jd)]at fLP;rw[show decide (s=RP)=false from zN (fun e=>by rw[e]at hs;exact absurd hs jd)]at fRP;rw[show decide (s=AND)=true from zO hs]at fAND;rw[show decide (s=OR)=false from zN (fun e=>by rw[e]at hs;exact absurd hs jd)]at fOR;have HH:Hid (R .part (L.drop p) none):=zh (by rw[hd];exact .pbad (.inr (.inl hs)));have c0:=gW (W1 w);unfold W1 at c0;clear HR1;clear hs0 hd hs;unfold W1 at HB0 Hb0 Hz;go_enter func116,ntmps116;go_wp2_with fail;refine c0.mono ?_;rintro e w2 ⟨rfl,hb⟩;have B2:=HB0.out.below hb (by rw[Hz.out];omega);have b2:=Hb0.out.trans (hb.mono (by rw[Hz.out];omega));clear hb c0 hc0;obtain⟨q0,q1,q2,q3,q4,q5,f0,f1,f2,f3,f4,f5⟩:=B2.six;have hX:=B2.set6 (.int .i64 0) (.string ⟨#[]⟩) (.slice none 0 0) (.slice none 0 0) (.int .i64 0) (.bool false);have Hbl:=zh (kZ b2 (zG _) (.int .i64 0) (.string ⟨#[]⟩) (.slice none 0 0) (.slice none 0 0) (.int .i64 0) (.bool false));have HX:=zh hX;clear hX;go_wp2_with fail;refine zu (aA rfl rfl (zr _ w.heap.size 96 96 _ (0,0) _ HX.out underlying96 rfl jk)) rfl ?_;exact⟨_,_,_,_,_,_,rfl,⟨_,_,_,_,_,_,_,_,rfl⟩,Hbl.out,none,HH.out,rfl,(fun q r h=>by cases h)⟩
theorem Fp(L:List P)(p:Nat)(hp:p<L.length)(hL:L.length≤1048576)(hs1:L[p]=OR):eD L p:=by
 intro w A c hR;have hp':(p:Int)<(L.length:Int):=jo;have hp0:(0:Int)≤(p:Int):=jo;have hLi:(L.length:Int)≤1048576:=jo;have HB:=gX w;have Hb:=gN w;have hz:=gS w;have hR1:=iN hR Hb;obtain⟨b,o,rfl,hbl,hc0⟩:=gp hR hp;have hbne:b≠w.heap.size:=jo;have hd:L.drop p=L[p]::L.drop (p+1):=zc hp;have HR1:=zh hR1;have hR0:=zh hR;have HB0:=zh HB;have Hb0:=zh Hb;have Hz:=zh hz;clear HB Hb hz hR hR1;generalize hs0:L[p]=s at *;have hs:s=OR:=hs1;clear hs1;have fNOT:((str s).toList == [78,79,84])=decide (s=NOT):=by rw[aF];rfl
 have fLP:((str s).toList == [40])=decide (s=LP):=by rw[aF];rfl
 have fRP:((str s).toList == [41])=decide (s=RP):=by rw[aF];rfl
 have fAND:((str s).toList == [65,78,68])=decide (s=AND):=by rw[aF];rfl
 have fOR:((str s).toList == [79,82])=decide (s=OR):=by rw[aF];rfl
 rw[show decide (s=NOT)=false from zN (fun e=>by rw[e]at hs;exact absurd hs jd)]at fNOT;rw[show decide (s=LP)=false from zN (fun e=>by rw[e]at hs;exact absurd hs jd)]at fLP;rw[show decide (s=RP)=false from zN (fun e=>by rw[e]at hs;exact absurd hs jd)]at fRP;rw[show decide (s=AND)=false from zN (fun e=>by rw[e]at hs;exact absurd hs jd)]at fAND;rw[show decide (s=OR)=true from zO hs]at fOR;have HH:Hid (R .part (L.drop p) none):=zh (by rw[hd];exact .pbad (.inr (.inr hs)));have c0:=gW (W1 w);unfold W1 at c0;clear HR1;clear hs0 hd hs;unfold W1 at HB0 Hb0 Hz;go_enter func116,ntmps116;go_wp2_with fail;refine c0.mono ?_;rintro e w2 ⟨rfl,hb⟩;have B2:=HB0.out.below hb (by rw[Hz.out];omega);have b2:=Hb0.out.trans (hb.mono (by rw[Hz.out];omega));clear hb c0 hc0;obtain⟨q0,q1,q2,q3,q4,q5,f0,f1,f2,f3,f4,f5⟩:=B2.six;have hX:=B2.set6 (.int .i64 0) (.string ⟨#[]⟩) (.slice none 0 0) (.slice none 0 0) (.int .i64 0) (.bool false);have Hbl:=zh (kZ b2 (zG _) (.int .i64 0) (.string ⟨#[]⟩) (.slice none 0 0) (.slice none 0 0) (.int .i64 0) (.bool false));have HX:=zh hX;clear hX;go_wp2_with fail;refine zu (aA rfl rfl (zr _ w.heap.size 96 96 _ (0,0) _ HX.out underlying96 rfl jk)) rfl ?_;exact⟨_,_,_,_,_,_,rfl,⟨_,_,_,_,_,_,_,_,rfl⟩,Hbl.out,none,HH.out,rfl,(fun q r h=>by cases h)⟩
theorem CJ(L:List P)(p:Nat)(hp:p<L.length)(hL:L.length≤1048576)(hs1:iq L[p]=true)(hpc:Pc L[p])(hpl:L[p].length≤1048576):eD L p:=by
 intro w A c hR;have hp':(p:Int)<(L.length:Int):=jo;have hp0:(0:Int)≤(p:Int):=jo;have hLi:(L.length:Int)≤1048576:=jo;have HB:=gX w;have Hb:=gN w;have hz:=gS w;have hR1:=iN hR Hb;obtain⟨b,o,rfl,hbl,hc0⟩:=gp hR hp;have hbne:b≠w.heap.size:=jo;have hd:L.drop p=L[p]::L.drop (p+1):=zc hp;have HR1:=zh hR1;have hR0:=zh hR;have HB0:=zh HB;have Hb0:=zh Hb;have Hz:=zh hz;clear HB Hb hz hR hR1;generalize hs0:L[p]=s at *;have hs:iq s=true:=hs1;have c0:=IY s hpc hpl (W1 w);clear hs1 hpc hpl;have fNOT:((str s).toList == [78,79,84])=decide (s=NOT):=by rw[aF];rfl
 have fLP:((str s).toList == [40])=decide (s=LP):=by rw[aF];rfl
 have fRP:((str s).toList == [41])=decide (s=RP):=by rw[aF];rfl
 have fAND:((str s).toList == [65,78,68])=decide (s=AND):=by rw[aF];rfl
 have fOR:((str s).toList == [79,82])=decide (s=OR):=by rw[aF];rfl
 rw[show decide (s=NOT)=false from zN (fun e=>by rw[e]at hs;exact absurd hs jd)]at fNOT;rw[show decide (s=LP)=false from zN (fun e=>by rw[e]at hs;exact absurd hs jd)]at fLP;rw[show decide (s=RP)=false from zN (fun e=>by rw[e]at hs;exact absurd hs jd)]at fRP;rw[show decide (s=AND)=false from zN (fun e=>by rw[e]at hs;exact absurd hs jd)]at fAND;rw[show decide (s=OR)=false from zN (fun e=>by rw[e]at hs;exact absurd hs jd)]at fOR;have HH:Hid (R .part (L.drop p) ((aV s).map fun q=>(q,L.drop (p+1)))):=zh (by rw[hd];exact .pleaf hs);unfold W1 at c0;clear HR1;clear hs0 hd hs;unfold W1 at HB0 Hb0 Hz;go_enter func116,ntmps116;go_wp2_with fail;generalize aV s=oq at *;refine c0.mono ?_;rintro e w2 ⟨a0,a1,a2,a3,rfl,⟨k',nm',A',n',c',C',m',d',e4⟩,hF,hb⟩;simp only[zQ,and_true]at e4;obtain⟨rfl,rfl,rfl,rfl⟩:=e4;have B2:=HB0.out.below hb (by rw[Hz.out];omega);have b2:=Hb0.out.trans (hb.mono (by rw[Hz.out];omega));have hsz:w.heap.size+1≤w2.heap.size:=by have:=hb.size;rw[Hz.out]at this;exact this
 rw[Hz.out]at hF;generalize hok:oq.isSome=ok;have Hok:=zh hok;clear hok;have hbb:=(zw w2.heap.size w2).alloc (zG _) (.cells #[.int .i64 k',.string nm',.slice A' n' c',.slice C' m' d'] 60);have HF0:=zh (fun q h=>(hF q h).grow hbb);have HB3:=zh (B2.alloc (.cells #[.int .i64 k',.string nm',.slice A' n' c',.slice C' m' d'] 60));have HBx:=zh (Blk.new w2 60 #[.int .i64 k',.string nm',.slice A' n' c',.slice C' m' d']);have Hb3:=zh (b2.alloc jo (.cells #[.int .i64 k',.string nm',.slice A' n' c',.slice C' m' d'] 60));have hne2:w.heap.size≠w2.heap.size:=jo;clear hb c0 hc0 hF B2 b2 Hz HB0 Hb0 hbl hbne hbb
 go_upto_region 17 with(fail);generalize hw3:w2.alloc (.cells #[.int .i64 k',.string nm',.slice A' n' c',.slice C' m' d'] 60)=w3 at *;clear hw3;obtain⟨x0,x1,x2,x3,_,_,_,_⟩:=HBx.out.four;have HF:=zh (fun q h=>Jn (w:=w) (a:=.int .i64 k') (b:=.string nm') (c:=.slice A' n' c') (d:=.slice C' m' d') (e:=.int .i64 ((p:Int)+1)) (f:=.bool ok) (HF0.out q h) (Nat.lt_succ_self _) (zG _));obtain⟨q0,q1,q2,q3,q4,q5,f0,f1,f2,f3,f4,f5⟩:=HB3.out.six;have hX:=HB3.out.set6 (.int .i64 k') (.string nm') (.slice A' n' c') (.slice C' m' d') (.int .i64 ((p:Int)+1)) (.bool ok);have Hbl:=zh (kZ Hb3.out (zG _) (.int .i64 k') (.string nm') (.slice A' n' c') (.slice C' m' d') (.int .i64 ((p:Int)+1)) (.bool ok));have HX:=zh hX;clear hX;go_wp2_with fail;refine zu (aA rfl rfl (zr _ w.heap.size 96 96 _ (0,0) _ HX.out underlying96 rfl jk)) rfl ?_;exact⟨_,_,_,_,_,_,rfl,⟨_,_,_,_,_,_,_,_,rfl⟩,Hbl.out,_,HH.out,by rw[←Hok.out];cases oq<;>rfl,(fun q r h=>by obtain⟨q',h1,h2⟩:=Option.map_eq_some_iff.1 h;simp only[Prod.mk.injEq]at h2;obtain⟨rfl,rfl⟩:=h2;exact⟨p+1,jo,jo,rfl,HF.out q' h1⟩)⟩
theorem ig{w W:World}{g base:Nat}{q:Q}{vs:List Value}{cs:Array Value}(hF:QF W (fun x=>base≤x∧x<W.heap.size) q vs)(hb:g<base)(hw:w.heap.size≤g) :
  QF (W.setRow g cs) (fun x=>w.heap.size≤x∧x<(W.setRow g cs).heap.size) q vs:=
 (hF.keep fun x _ hS=>vN (w:=W) (vJ W g x _ (by have:=hS.1;omega))).mono fun x hS=>⟨by have:=hS.1;omega,by simpa[World.setRow]using hS.2⟩
theorem IZ{w:World}{S:Nat→Prop}{q:Q}{a0 a1 a2 a3:Value}{nb:Nat}(h:QF w S q [a0,a1,a2,a3])(hB:Blk w nb 60 #[a0,a1,a2,a3])(hS:S nb):QF w S (nW q) [.int .i64 7,.string ⟨#[]⟩,.slice none 0 0,.slice (some ⟨nb,0,none⟩) 1 1]:=by
 refine QF.mk (nm:=⟨#[]⟩) [[a0,a1,a2,a3]] rfl (by simpa using ReadsS.none_) rfl rfl jz ⟨rfl,fun _=>⟨nb,0,rfl,hS,fun j u hu=>?_⟩⟩ (fun i hi hi'=>?_)
 ·rw[zf,hB.cell]
  simpa using hu
 have:i=0:=by simp at hi;exact hi
 subst this;exact h
theorem D8(L:List P)(p:Nat)(hp:p<L.length)(hL:L.length≤1048576)(hs1:L[p]=NOT)(ih:eD L (p+1)):eD L p:=by
 intro w A c hR;have hp':(p:Int)<(L.length:Int):=jo;have hp0:(0:Int)≤(p:Int):=jo;have hLi:(L.length:Int)≤1048576:=jo;have HB:=gX w;have Hb:=gN w;have hz:=gS w;have hR1:=iN hR Hb;obtain⟨b,o,rfl,hbl,hc0⟩:=gp hR hp;have hbne:b≠w.heap.size:=jo;have hd:L.drop p=L[p]::L.drop (p+1):=zc hp;have HR1:=zh hR1;have hR0:=zh hR;have HB0:=zh HB;have Hb0:=zh Hb;have Hz:=zh hz;clear HB Hb hz hR hR1;generalize hs0:L[p]=s at *;have hs:s=NOT:=hs1;clear hs1;have fNOT:((str s).toList == [78,79,84])=decide (s=NOT):=by rw[aF];rfl
 have fLP:((str s).toList == [40])=decide (s=LP):=by rw[aF];rfl
 have fRP:((str s).toList == [41])=decide (s=RP):=by rw[aF];rfl
 have fAND:((str s).toList == [65,78,68])=decide (s=AND):=by rw[aF];rfl
 have fOR:((str s).toList == [79,82])=decide (s=OR):=by rw[aF];rfl
 rw[show decide (s=NOT)=true from zO hs]at fNOT;rw[show decide (s=LP)=false from zN (fun e=>by rw[e]at hs;exact absurd hs jd)]at fLP;rw[show decide (s=RP)=false from zN (fun e=>by rw[e]at hs;exact absurd hs jd)]at fRP;rw[show decide (s=AND)=false from zN (fun e=>by rw[e]at hs;exact absurd hs jd)]at fAND;rw[show decide (s=OR)=false from zN (fun e=>by rw[e]at hs;exact absurd hs jd)]at fOR;have HH:Hid (∀o,R .part (L.drop (p+1)) o→R .part (L.drop p) (o.map fun x=>(nW x.1,x.2))):=zh (fun o h=>by rw[hd];exact .pnot hs h);have c0:=ih (W1 w) _ c HR1.out;have e9:(((p+1:Nat)):Int)=(p:Int)+1:=jo;rw[e9]at c0;clear e9;unfold W1 at c0;clear HR1 ih;clear hs0 hd hs;unfold W1 at HB0 Hb0 Hz;go_enter func116,ntmps116;go_wp2_with fail;refine c0.mono ?_;rintro e w2 ⟨a0,a1,a2,a3,z,ok,rfl,⟨k',nm',A',n',c',C',m',d',e4⟩,hb,o',hRo,hok,hres⟩;simp only[zQ,and_true]at e4;obtain⟨rfl,rfl,rfl,rfl⟩:=e4;have B2:=HB0.out.below hb (by rw[Hz.out];omega);have b2:=Hb0.out.trans (hb.mono (by rw[Hz.out];omega));have hsz:w.heap.size+1≤w2.heap.size:=by have:=hb.size;rw[Hz.out]at this;exact this
 rw[Hz.out]at hres;have HRo:=zh hRo;have Hok:=zh hok;have HZ:=zh (fun q r h=>let ⟨k,h1,h2,h3,_⟩:=hres q r h;(⟨k,h1,h2,h3⟩:∃k:Nat,z=(k:Int)∧k≤L.length∧r=L.drop k));have hq0:∀q r,o'=some (q,r)→QF w2 (fun x=>w.heap.size+1≤x∧x<w2.heap.size) q [.int .i64 k',.string nm',.slice A' n' c',.slice C' m' d']:=fun q r h=>(hres q r h).choose_spec.2.2.2
 have hbb:=((zw w2.heap.size w2).alloc (zG _) (.cells #[.int .i64 k',.string nm',.slice A' n' c',.slice C' m' d',.int .i64 z,.bool ok] 96)).alloc jz (.cells #[.int .i64 k',.string nm',.slice A' n' c',.slice C' m' d'] 60);have hnb:=Blk.new (w2.alloc (.cells #[.int .i64 k',.string nm',.slice A' n' c',.slice C' m' d',.int .i64 z,.bool ok] 96)) 60 #[.int .i64 k',.string nm',.slice A' n' c',.slice C' m' d'];rw[vK]at hnb;have hbx:=(Blk.new w2 96 #[.int .i64 k',.string nm',.slice A' n' c',.slice C' m' d',.int .i64 z,.bool ok]);have HBx:=zh hbx;have HB3:=zh ((B2.alloc (.cells #[.int .i64 k',.string nm',.slice A' n' c',.slice C' m' d',.int .i64 z,.bool ok] 96)).alloc (.cells #[.int .i64 k',.string nm',.slice A' n' c',.slice C' m' d'] 60));have Hb3:=zh (b2.trans (hbb.mono jo));have hz3:(World.heap ((w2.alloc (.cells #[.int .i64 k',.string nm',.slice A' n' c',.slice C' m' d',.int .i64 z,.bool ok] 96)).alloc (.cells #[.int .i64 k',.string nm',.slice A' n' c',.slice C' m' d'] 60))).size=w2.heap.size+2:=jz;have hQ3:=fun q r h=>IZ ((hq0 q r h).grow hbb) hnb ⟨jo,by rw[hz3];omega⟩
 have hne2:w.heap.size≠w2.heap.size:=jo;have hne3:w.heap.size≠w2.heap.size+1:=jo;have HO:Hid (((w2.alloc (.cells #[.int .i64 k',.string nm',.slice A' n' c',.slice C' m' d',.int .i64 z,.bool ok] 96)).alloc (.cells #[.int .i64 k',.string nm',.slice A' n' c',.slice C' m' d'] 60)).heap[w.heap.size]?=some (.cells #[.int .i64 0,.string ByteArray.empty,.slice none 0 0,.slice none 0 0,.int .i64 0,.bool false] 96 (0,0))):=zh HB3.out;have HX:=zh (zx _ w.heap.size _ #[.int .i64 7,.string ⟨#[]⟩,.slice none 0 0,.slice (some ⟨w2.heap.size+1,0,none⟩) 1 1,.int .i64 z,.bool ok] _ _ HO.out);have Hbl:=zh (zz Hb3.out (zG _) #[.int .i64 7,.string ⟨#[]⟩,.slice none 0 0,.slice (some ⟨w2.heap.size+1,0,none⟩) 1 1,.int .i64 z,.bool ok]);have HF:=zh (fun q r h=>ig (w:=w) (g:=w.heap.size) (cs:=#[.int .i64 7,.string ⟨#[]⟩,.slice none 0 0,.slice (some ⟨w2.heap.size+1,0,none⟩) 1 1,.int .i64 z,.bool ok]) (hQ3 q r h) (Nat.lt_succ_self _) (zG _));clear hb c0 hc0 hres hq0 B2 b2 Hz HB0 Hb0 hbl hbne hbb hnb hz3 hbx hRo hok hQ3;go_wp2_with (refine zv (o:=⟨none,.store 96 _ _,_,_,_,_⟩) rfl 96 _ _ rfl w.heap.size #[.int .i64 7,.string ⟨#[]⟩,.slice none 0 0,.slice (some ⟨w2.heap.size+1,0,none⟩) 1 1,.int .i64 z,.bool ok] rfl rfl 96 #[.int .i64 0,.string ByteArray.empty,.slice none 0 0,.slice none 0 0,.int .i64 0,.bool false] HO.out jk rfl jt ?_);refine zu (aA rfl rfl (zr _ w.heap.size 96 96 _ (0,0) _ HX.out underlying96 rfl jk)) rfl ?_
 exact⟨_,_,_,_,_,_,rfl,⟨_,_,_,_,_,_,_,_,rfl⟩,Hbl.out,_,HH.out o' HRo.out,by rw[Hok.out];cases o'<;>rfl,(fun q r h=>by
  obtain⟨⟨q',r'⟩,h1,h2⟩:=Option.map_eq_some_iff.1 h;simp only[Prod.mk.injEq]at h2;obtain⟨rfl,rfl⟩:=h2;obtain⟨k,h3,h4,h5⟩:=HZ.out q' r' h1
  exact⟨k,h3,h4,h5,HF.out q' r' h1⟩)⟩
theorem Fq(L:List P)(p:Nat)(hp:p<L.length)(hL:L.length≤1048576)(hs1:L[p]=LP)(ih:rJ L (p+1)):eD L p:=by
 intro w A c hR;have hp':(p:Int)<(L.length:Int):=jo;have hp0:(0:Int)≤(p:Int):=jo;have hLi:(L.length:Int)≤1048576:=jo;have HB:=gX w;have Hb:=gN w;have hz:=gS w;have hR1:=iN hR Hb;obtain⟨b,o,rfl,hbl,hc0⟩:=gp hR hp;have hbne:b≠w.heap.size:=jo;have hd:L.drop p=L[p]::L.drop (p+1):=zc hp;have HR1:=zh hR1;have hR0:=zh hR;have HB0:=zh HB;have Hb0:=zh Hb;have Hz:=zh hz;clear HB Hb hz hR hR1;generalize hs0:L[p]=s at *;have hs:s=LP:=hs1;clear hs1;have fNOT:((str s).toList == [78,79,84])=decide (s=NOT):=by rw[aF];rfl
 have fLP:((str s).toList == [40])=decide (s=LP):=by rw[aF];rfl
 have fRP:((str s).toList == [41])=decide (s=RP):=by rw[aF];rfl
 have fAND:((str s).toList == [65,78,68])=decide (s=AND):=by rw[aF];rfl
 have fOR:((str s).toList == [79,82])=decide (s=OR):=by rw[aF];rfl
 rw[show decide (s=NOT)=false from zN (fun e=>by rw[e]at hs;exact absurd hs jd)]at fNOT;rw[show decide (s=LP)=true from zO hs]at fLP;rw[show decide (s=RP)=false from zN (fun e=>by rw[e]at hs;exact absurd hs jd)]at fRP;rw[show decide (s=AND)=false from zN (fun e=>by rw[e]at hs;exact absurd hs jd)]at fAND;rw[show decide (s=OR)=false from zN (fun e=>by rw[e]at hs;exact absurd hs jd)]at fOR;have HH:Hid (∀o,R (.or []) (L.drop (p+1)) o→R .part (L.drop p) (closed o)):=zh (fun o h=>by rw[hd];exact .plp hs h);have c0:=ih (W1 w) _ c HR1.out;have e9:(((p+1:Nat)):Int)=(p:Int)+1:=jo;rw[e9]at c0
 have hcw:∀k (hk:k<L.length),w.cell? ⟨b,o+k,none⟩=some (.string (str L[k])):=fun k hk=>by
  obtain⟨b',o',e,_,h⟩:=gp hR0.out hk;injection e with e;injection e with e1 e2;subst e1 e2;exact h
 have Hcw:=zh hcw;clear e9 hcw hR0;unfold W1 at c0;clear ih;clear hs0 hd hs;unfold W1 at HR1 HB0 Hb0 Hz;go_enter func116,ntmps116;go_wp2_with fail;refine c0.mono ?_;rintro e w2 ⟨a0,a1,a2,a3,z,ok,rfl,⟨k',nm',A',n',c',C',m',d',e4⟩,hb,o',hRo,hok,hres⟩;simp only[zQ,and_true]at e4;obtain⟨rfl,rfl,rfl,rfl⟩:=e4;have B2:=HB0.out.below hb (by rw[Hz.out];omega);have b2:=Hb0.out.trans (hb.mono (by rw[Hz.out];omega));have hsz:w.heap.size+1≤w2.heap.size:=by have:=hb.size;rw[Hz.out]at this;exact this
 rw[Hz.out]at hres;have HRo:=zh hRo;have Hok:=zh hok;clear hok;have hbb:=(zw w2.heap.size w2).alloc (zG _) (.cells #[.int .i64 k',.string nm',.slice A' n' c',.slice C' m' d',.int .i64 z,.bool ok] 96);have hbx:=Blk.new w2 96 #[.int .i64 k',.string nm',.slice A' n' c',.slice C' m' d',.int .i64 z,.bool ok];have HBx:=zh hbx;have HB3:=zh (B2.alloc (.cells #[.int .i64 k',.string nm',.slice A' n' c',.slice C' m' d',.int .i64 z,.bool ok] 96));have Hb3:=zh (b2.trans (hbb.mono jo));have HQ3:=zh (fun q r h=>((hres q r h).choose_spec.2.2.2).grow hbb);have HZ:=zh (fun q r h=>let ⟨k,h1,h2,h3,_⟩:=hres q r h;(⟨k,h1,h2,h3⟩:∃k:Nat,z=(k:Int)∧k≤L.length∧r=L.drop k));have hz3:w2.heap.size<(w2.alloc (.cells #[.int .i64 k',.string nm',.slice A' n' c',.slice C' m' d',.int .i64 z,.bool ok] 96)).heap.size:=jz;clear hb c0 hc0 hres B2 b2 HB0 Hb0 hbb hbx hRo HR1
 go_upto_region 9 with(fail);generalize hw3:w2.alloc (.cells #[.int .i64 k',.string nm',.slice A' n' c',.slice C' m' d',.int .i64 z,.bool ok] 96)=w3 at *;clear hw3;obtain⟨x0,x1,x2,x3,x4,x5,_,_,_,_,_,_⟩:=HBx.out.six
 match o',Hok,HRo,HQ3,HZ with
 | none,Hok,HRo,HQ3,HZ=>
  have HHn:=zh (HH.out _ HRo.out);obtain rfl:ok=false:=Hok.out;have c9:=gW w3;clear HQ3;go_wp2_with fail;refine c9.mono ?_;rintro e w4 ⟨rfl,hb4⟩;have B4:=HB3.out.below hb4 jo;have b4:=Hb3.out.trans (hb4.mono jo);clear hb4 c9;have HO:Hid ((World.heap w4)[w.heap.size]?=some (.cells #[.int .i64 0,.string ByteArray.empty,.slice none 0 0,.slice none 0 0,.int .i64 0,.bool false] 96 (0,0))):=zh B4;have HX:=zh (zx _ w.heap.size _ #[.int .i64 0,.string ⟨#[]⟩,.slice none 0 0,.slice none 0 0,.int .i64 0,.bool false] _ _ HO.out);have Hbl:=zh (zz b4 (zG _) #[.int .i64 0,.string ⟨#[]⟩,.slice none 0 0,.slice none 0 0,.int .i64 0,.bool false]);go_wp2_with (refine zv (o:=⟨none,.store 96 _ _,_,_,_,_⟩) rfl 96 _ _ rfl w.heap.size #[.int .i64 0,.string ⟨#[]⟩,.slice none 0 0,.slice none 0 0,.int .i64 0,.bool false] rfl rfl 96 #[.int .i64 0,.string ByteArray.empty,.slice none 0 0,.slice none 0 0,.int .i64 0,.bool false] HO.out jk rfl jt ?_);refine zu (aA rfl rfl (zr _ w.heap.size 96 96 _ (0,0) _ HX.out underlying96 rfl jk)) rfl ?_;exact⟨_,_,_,_,_,_,rfl,⟨_,_,_,_,_,_,_,_,rfl⟩,Hbl.out,none,HHn.out,rfl,(fun q r h=>by cases h)⟩
 | some (q,r),Hok,HRo,HQ3,HZ=>
  obtain rfl:ok=true:=Hok.out;obtain⟨k,rfl,hk,rfl⟩:=HZ.out q r rfl;have hk0:(0:Int)≤(k:Int):=jo;by_cases hkl:k<L.length
  ·have hki:(k:Int)<(L.length:Int):=jo;have hcx:=((Hb3.out.cell (p:=⟨b,o+k,none⟩) hbl).trans (Hcw.out k hkl));have hdk:L.drop k=L[k]::L.drop (k+1):=zc hkl;by_cases hrp:L[k]=RP
   ·have f41:((str L[k]).toList == [41])=true:=by rw[aF];exact zO hrp
    have f41':((str L[k]).toList != [41])=false:=by rw[bne,f41];rfl
    have HHn:Hid (R .part (L.drop p) (some (q,L.drop (k+1)))):=zh (by
     have:=HH.out _ HRo.out;rw[hdk]at this;rw[show closed (some (q,L[k]::L.drop (k+1)))=some (q,L.drop (k+1))from zI hrp]at this
     exact this)
    have HF:=zh (ig (w:=w) (g:=w.heap.size) (cs:=#[.int .i64 k',.string nm',.slice A' n' c',.slice C' m' d',.int .i64 ((k:Int)+1),.bool true]) (HQ3.out q _ rfl) (Nat.lt_succ_self _) (zG _));clear hdk hrp HQ3;generalize L[k]=s' at *;have HO:Hid ((World.heap w3)[w.heap.size]?=some (.cells #[.int .i64 0,.string ByteArray.empty,.slice none 0 0,.slice none 0 0,.int .i64 0,.bool false] 96 (0,0))):=zh HB3.out;have HX:=zh (zx _ w.heap.size _ #[.int .i64 k',.string nm',.slice A' n' c',.slice C' m' d',.int .i64 ((k:Int)+1),.bool true] _ _ HO.out);have Hbl:=zh (zz Hb3.out (zG _) #[.int .i64 k',.string nm',.slice A' n' c',.slice C' m' d',.int .i64 ((k:Int)+1),.bool true]);go_wp2_with (refine zv (o:=⟨none,.store 96 _ _,_,_,_,_⟩) rfl 96 _ _ rfl w.heap.size #[.int .i64 k',.string nm',.slice A' n' c',.slice C' m' d',.int .i64 ((k:Int)+1),.bool true] rfl rfl 96 #[.int .i64 0,.string ByteArray.empty,.slice none 0 0,.slice none 0 0,.int .i64 0,.bool false] HO.out jk rfl jt ?_);refine zu (aA rfl rfl (zr _ w.heap.size 96 96 _ (0,0) _ HX.out underlying96 rfl jk)) rfl ?_;exact⟨_,_,_,_,_,_,rfl,⟨_,_,_,_,_,_,_,_,rfl⟩,Hbl.out,_,HHn.out,rfl,(fun q' r' h=>by injection h with h;simp only[Prod.mk.injEq]at h;obtain⟨rfl,rfl⟩:=h;exact⟨k+1,jo,jo,rfl,HF.out⟩)⟩
   have f41:((str L[k]).toList == [41])=false:=by rw[aF];exact zN hrp
   have f41':((str L[k]).toList != [41])=true:=by rw[bne,f41];rfl
   have HHn:Hid (R .part (L.drop p) none):=zh (by
    have:=HH.out _ HRo.out;rw[hdk]at this;rw[show closed (some (q,L[k]::L.drop (k+1)))=none from zH hrp]at this
    exact this)
   clear hdk hrp;generalize L[k]=s' at *;have c9:=gW w3;clear HQ3;go_wp2_with fail;refine c9.mono ?_;rintro e w4 ⟨rfl,hb4⟩;have B4:=HB3.out.below hb4 jo;have b4:=Hb3.out.trans (hb4.mono jo);clear hb4 c9;have HO:Hid ((World.heap w4)[w.heap.size]?=some (.cells #[.int .i64 0,.string ByteArray.empty,.slice none 0 0,.slice none 0 0,.int .i64 0,.bool false] 96 (0,0))):=zh B4;have HX:=zh (zx _ w.heap.size _ #[.int .i64 0,.string ⟨#[]⟩,.slice none 0 0,.slice none 0 0,.int .i64 0,.bool false] _ _ HO.out);have Hbl:=zh (zz b4 (zG _) #[.int .i64 0,.string ⟨#[]⟩,.slice none 0 0,.slice none 0 0,.int .i64 0,.bool false]);go_wp2_with (refine zv (o:=⟨none,.store 96 _ _,_,_,_,_⟩) rfl 96 _ _ rfl w.heap.size #[.int .i64 0,.string ⟨#[]⟩,.slice none 0 0,.slice none 0 0,.int .i64 0,.bool false] rfl rfl 96 #[.int .i64 0,.string ByteArray.empty,.slice none 0 0,.slice none 0 0,.int .i64 0,.bool false] HO.out jk rfl jt ?_);refine zu (aA rfl rfl (zr _ w.heap.size 96 96 _ (0,0) _ HX.out underlying96 rfl jk)) rfl ?_;exact⟨_,_,_,_,_,_,rfl,⟨_,_,_,_,_,_,_,_,rfl⟩,Hbl.out,none,HHn.out,rfl,(fun q r h=>by cases h)⟩
  have hki:(L.length:Int)≤(k:Int):=jo
  have HHn:Hid (R .part (L.drop p) none):=zh (by
   have:=HH.out _ HRo.out;rw[List.drop_of_length_le (show L.length≤k by omega)]at this
   exact this)
  have c9:=gW w3;clear HQ3;go_wp2_with fail;refine c9.mono ?_;rintro e w4 ⟨rfl,hb4⟩;have B4:=HB3.out.below hb4 jo;have b4:=Hb3.out.trans (hb4.mono jo);clear hb4 c9;have HO:Hid ((World.heap w4)[w.heap.size]?=some (.cells #[.int .i64 0,.string ByteArray.empty,.slice none 0 0,.slice none 0 0,.int .i64 0,.bool false] 96 (0,0))):=zh B4;have HX:=zh (zx _ w.heap.size _ #[.int .i64 0,.string ⟨#[]⟩,.slice none 0 0,.slice none 0 0,.int .i64 0,.bool false] _ _ HO.out);have Hbl:=zh (zz b4 (zG _) #[.int .i64 0,.string ⟨#[]⟩,.slice none 0 0,.slice none 0 0,.int .i64 0,.bool false]);go_wp2_with (refine zv (o:=⟨none,.store 96 _ _,_,_,_,_⟩) rfl 96 _ _ rfl w.heap.size #[.int .i64 0,.string ⟨#[]⟩,.slice none 0 0,.slice none 0 0,.int .i64 0,.bool false] rfl rfl 96 #[.int .i64 0,.string ByteArray.empty,.slice none 0 0,.slice none 0 0,.int .i64 0,.bool false] HO.out jk rfl jt ?_);refine zu (aA rfl rfl (zr _ w.heap.size 96 96 _ (0,0) _ HX.out underlying96 rfl jk)) rfl ?_;exact⟨_,_,_,_,_,_,rfl,⟨_,_,_,_,_,_,_,_,rfl⟩,Hbl.out,none,HHn.out,rfl,(fun q r h=>by cases h)⟩
end Qp
end Go.Proofs.YtmomjpolkkbhnaaGreat
