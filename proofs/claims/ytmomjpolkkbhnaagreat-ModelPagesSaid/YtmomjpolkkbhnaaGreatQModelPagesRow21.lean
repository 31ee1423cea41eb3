/- match.Match: the walk. -/
import Derived.Laws.Tables
import Derived.Laws.CopyOwn
import Derived.Test.YtmomjpolkkbhnaaGreatQModelPagesRow13
import Derived.Test.YtmomjpolkkbhnaaGreatQModelPagesRow17
import Derived.Test.YtmomjpolkkbhnaaGreatQModelPagesRow0
set_option linter.unusedSimpArgs false
set_option linter.unusedVariables false
set_option maxRecDepth 20000
section
namespace Go.Proofs.YtmomjpolkkbhnaaGreat.Qy
open Go.RowKit Ut Tk
inductive QSz:Q→Prop where
 | mk {k:Int} {nm:ByteArray} {ws:List ByteArray} {l:List Q} (h1:ws.length≤8796093021952) (h2:l.length≤8796093021952) (h3:∀ x∈l,QSz x):QSz (.mk k nm ws l)
structure EvAt (w:World) (F:Option Addr) (fn:Nat) (fs:List (ByteArray × ByteArray)):Prop where
 rd:Reads w w.heap.size 2 F fn (fldC fs)
 len:fs.length=fn
 few:fn≤8796093021952
 sz:∀ f∈fs,f.2.size≤1048576
theorem EvAt.grow {w w':World} {F:Option Addr} {fn:Nat} {fs:List (ByteArray × ByteArray)} (h:EvAt w F fn fs) (hb:Below w.heap.size w w'):EvAt w' F fn fs:=⟨reads_grow hb h.rd,h.len,h.few,h.sz⟩
def MatchOk (fs:List (ByteArray × ByteArray)) (q:Q):Prop:=∀ (w:World) (a0 a1 a2 a3:Value) (t:Int) (F:Option Addr) (fn fc:Nat),QAt w w.heap.size q [a0,a1,a2,a3]→EvAt w F fn fs →
 Calls Tryz.prog 74 #[.agg #[a0,a1,a2,a3],.agg #[.int .i64 t,.slice F fn fc]] w fun e w'=>e=.returned (.bool (matchB fs q))∧Below w.heap.size w w'
structure EBox (w:World) (eb:Nat) (t:Int) (F:Option Addr) (fn fc:Nat):Prop where
 c0:w.cell? ⟨eb,0,none⟩=some (.int .i64 t)
 c1:w.cell? ⟨eb,1,none⟩=some (.slice F fn fc)
theorem EBox.grow {w w':World} {eb:Nat} {t:Int} {F:Option Addr} {fn fc:Nat} (h:EBox w eb t F fn fc) (hb:Below w.heap.size w w'):EBox w' eb t F fn fc:=by
 have hl:=World.block_lt_of_cell? w _ h.c0
 exact ⟨(hb.cell (p:=⟨eb,0,none⟩) hl).trans h.c0,(hb.cell (p:=⟨eb,1,none⟩) hl).trans h.c1⟩
set_option maxHeartbeats 800000 in
theorem fits_any (fs:List (ByteArray × ByteArray)) (q:Q) (ih:MatchOk fs q) (eb:Nat) (t:Int) (F:Option Addr) (fn fc:Nat) (w:World) (a0 a1 a2 a3:Value) (hq:QAt w w.heap.size q [a0,a1,a2,a3]) (hE:EBox w eb t F fn fc) (hF:EvAt w F fn fs) :
  Calls Tryz.prog 112 #[.agg #[a0,a1,a2,a3],.pointer (some ⟨eb,0,none⟩)] w fun e w'=>e=.returned (.bool (matchB fs q))∧Below w.heap.size w w':=by
 obtain ⟨k,nm,ws,l⟩:=q
 obtain ⟨A,n,c,C,m,d,e,_⟩:=hq.is
 simp only [List.cons.injEq,and_true] at e
 obtain ⟨rfl,rfl,rfl,rfl⟩:=e
 have hb:Below w.heap.size w (w.alloc (.cells #[.int .i64 k,.string nm,.slice A n c,.slice C m d] 60)):=(Below.refl _ _).alloc (zG _) _
 have c1:=ih _ _ _ _ _ t F fn fc (hq.grow hb) (hF.grow hb)
 have h0:=hE.c0
 have h1:=hE.c1
 have Hb:=zh hb
 have hl:=World.block_lt_of_cell? w _ h0
 clear hq hE hF ih hb
 generalize matchB fs (.mk k nm ws l)=r at *
 go_enter Tryz.func112,Tryz.ntmps112
 go_wp2_with fail
 refine c1.mono ?_
 rintro e w1 ⟨rfl,hb1⟩
 have Hb1:=zh (Hb.out.trans (hb1.mono Hb.out.size))
 clear hb1 c1
 go_wp2
 go_ret
 exact ⟨rfl,Hb1.out⟩
set_option maxHeartbeats 800000 in
theorem nots_any (fs:List (ByteArray × ByteArray)) (q:Q) (ih:MatchOk fs q) (fb eb:Nat) (t:Int) (F:Option Addr) (fn fc:Nat) (w:World) (a0 a1 a2 a3:Value) (hq:QAt w w.heap.size q [a0,a1,a2,a3]) (hE:EBox w eb t F fn fc) (hF:EvAt w F fn fs)
  (hfb:w.cell? ⟨fb,0,none⟩=some (.func (.func 112) #[] #[.pointer (some ⟨eb,0,none⟩)])) :
  Calls Tryz.prog 115 #[.agg #[a0,a1,a2,a3],.pointer (some ⟨fb,0,none⟩)] w fun e w'=>e=.returned (.bool (!matchB fs q))∧Below w.heap.size w w':=by
 obtain ⟨k,nm,ws,l⟩:=q
 obtain ⟨A,n,c,C,m,d,e,_⟩:=hq.is
 simp only [List.cons.injEq,and_true] at e
 obtain ⟨rfl,rfl,rfl,rfl⟩:=e
 have hb:Below w.heap.size w (w.alloc (.cells #[.int .i64 k,.string nm,.slice A n c,.slice C m d] 60)):=(Below.refl _ _).alloc (zG _) _
 have c1:=fits_any fs _ ih eb t F fn fc _ _ _ _ _ (hq.grow hb) (hE.grow hb) (hF.grow hb)
 have Hb:=zh hb
 have hl:=World.block_lt_of_cell? w _ hfb
 clear hq hE hF ih hb
 generalize matchB fs (.mk k nm ws l)=r at *
 go_enter Tryz.func115,Tryz.ntmps115
 go_wp2_with fail
 refine c1.mono ?_
 rintro e w1 ⟨rfl,hb1⟩
 have Hb1:=zh (Hb.out.trans (hb1.mono Hb.out.size))
 clear hb1 c1
 go_wp2
 go_ret
 exact ⟨rfl,Hb1.out⟩
theorem not_any_not {α:Type} (l:List α) (g : α→Bool):(!l.any fun x=>!g x)=l.all g:=by
 rw [List.all_eq_not_any_not]
set_option maxHeartbeats 3200000 in
theorem match_step (fs:List (ByteArray × ByteArray)) (k:Int) (nm:ByteArray) (ws:List ByteArray) (l:List Q) (hl2:ws.length≤8796093021952) (hl3:l.length≤8796093021952) (ih:∀ x∈l,MatchOk fs x):MatchOk fs (.mk k nm ws l):=by
 intro w a0 a1 a2 a3 t F fn fc hq hF
 obtain ⟨WA,m,wc,CA,n,c2,e,hI⟩:=hq.is
 simp only [List.cons.injEq,and_true] at e
 obtain ⟨rfl,rfl,rfl,rfl⟩:=e
 have hbq:Below w.heap.size w (w.alloc (.cells #[.int .i64 k,.string nm,.slice WA m wc,.slice CA n c2] 60)):=(Below.refl _ _).alloc (zG _) _
 have hbe:Below w.heap.size w ((w.alloc (.cells #[.int .i64 k,.string nm,.slice WA m wc,.slice CA n c2] 60)).alloc (.cells #[.int .i64 t,.slice F fn fc] 46)):=hbq.alloc hbq.size _
 have hb5:Below w.heap.size w (((w.alloc (.cells #[.int .i64 k,.string nm,.slice WA m wc,.slice CA n c2] 60)).alloc (.cells #[.int .i64 t,.slice F fn fc] 46)).alloc (.cells #[.func (.func 112) #[] #[.pointer (some ⟨w.heap.size+1,0,none⟩)]] 98)):=hbe.alloc hbe.size _
 have z1:(w.alloc (.cells #[.int .i64 k,.string nm,.slice WA m wc,.slice CA n c2] 60)).heap.size=w.heap.size+1:=by simp
 have z2:((w.alloc (.cells #[.int .i64 k,.string nm,.slice WA m wc,.slice CA n c2] 60)).alloc (.cells #[.int .i64 t,.slice F fn fc] 46)).heap.size=w.heap.size+1+1:=by simp
 have hQ5:=(((Blk.new w 60 #[.int .i64 k,.string nm,.slice WA m wc,.slice CA n c2]).alloc (.cells #[.int .i64 t,.slice F fn fc] 46)).alloc (.cells #[.func (.func 112) #[] #[.pointer (some ⟨w.heap.size+1,0,none⟩)]] 98))
 have hE5:EBox (((w.alloc (.cells #[.int .i64 k,.string nm,.slice WA m wc,.slice CA n c2] 60)).alloc (.cells #[.int .i64 t,.slice F fn fc] 46)).alloc (.cells #[.func (.func 112) #[] #[.pointer (some ⟨w.heap.size+1,0,none⟩)]] 98)) (w.heap.size+1) t F fn fc:=by
  have h:=((Blk.new (w.alloc (.cells #[.int .i64 k,.string nm,.slice WA m wc,.slice CA n c2] 60)) 46 #[.int .i64 t,.slice F fn fc]).alloc (.cells #[.func (.func 112) #[] #[.pointer (some ⟨w.heap.size+1,0,none⟩)]] 98))
  rw [z1] at h
  exact ⟨h.cell 0,h.cell 1⟩
 have hF5:((((w.alloc (.cells #[.int .i64 k,.string nm,.slice WA m wc,.slice CA n c2] 60)).alloc (.cells #[.int .i64 t,.slice F fn fc] 46)).alloc (.cells #[.func (.func 112) #[] #[.pointer (some ⟨w.heap.size+1,0,none⟩)]] 98))).cell? ⟨w.heap.size+1+1,0,none⟩=some (.func (.func 112) #[] #[.pointer (some ⟨w.heap.size+1,0,none⟩)]):=by
  have h:=Blk.new ((w.alloc (.cells #[.int .i64 k,.string nm,.slice WA m wc,.slice CA n c2] 60)).alloc (.cells #[.int .i64 t,.slice F fn fc] 46)) 98 #[.func (.func 112) #[] #[.pointer (some ⟨w.heap.size+1,0,none⟩)]]
  rw [z2] at h
  exact h.cell 0
 have hEv:=hF.grow hb5
 have hq5:=hq.grow hb5
 obtain ⟨WA',m',wc',CA',n',c2',e,hI5⟩:=hq5.is
 simp only [List.cons.injEq,Value.slice.injEq,and_true,true_and] at e
 obtain ⟨⟨rfl,rfl,rfl⟩,rfl,rfl,rfl⟩:=e
 have Hb5:=zh hb5
 by_cases k1:k=1
 ·subst k1
  have Fin:Hid (matchB fs (.mk 1 nm ws l)=true):=zh (by rw [matchB_eq]; simp)
  rw [Fin.out]
  clear hq hF hI hbq hbe hb5 hQ5 hE5 hF5 hEv hq5 hI5 ih
  go_enter Tryz.func74,Tryz.ntmps74
  go_wp2
  go_ret
  exact ⟨rfl,Hb5.out⟩
 by_cases k234:k=2∨k=3∨k=4
 ·have Fin:Hid (matchB fs (.mk k nm ws l)=leafB k nm ws fs):=zh (by rw [matchB_eq,if_neg k1,if_pos k234])
  have c1:=leaf_any k nm ws WA CA m wc n c2 t F fn fc fs _ k234 hI5.wds hI5.wn (by rw [← hI5.wn]; exact hl2) hEv.rd hEv.len hEv.few hEv.sz
  rw [Fin.out]
  have C1:=zh c1
  clear hq hF hI hbq hbe hb5 hQ5 hE5 hF5 hEv hq5 hI5 ih c1 Fin
  generalize leafB k nm ws fs=r at *
  rcases k234 with rfl | rfl | rfl
  all_goals
   clear k1
   go_enter Tryz.func74,Tryz.ntmps74
   go_wp2_with (go_at_call 113; refine C1.out.mono ?_; rintro e w1 ⟨rfl,hb1⟩)
   go_ret
   exact ⟨rfl,Hb5.out.trans (hb1.mono Hb5.out.size)⟩
 by_cases k5:k=5
 ·subst k5
  have Fin:Hid (matchB fs (.mk 5 nm ws l)=l.all (matchB fs)):=zh (by rw [matchB_eq]; simp)
  have c1:=containsQry CA n c2 5 nm ws WA m l 115 #[.pointer (some ⟨w.heap.size+1+1,0,none⟩)] (fun i=>(l[i]?).any (fun x=>!matchB fs x)) _ (fun args wx=>callFunc_enter Tryz.func115 (by kernel_rfl) rfl args wx)
   hI5 hI5.lm (by rw [← hI5.lm]; exact hl3) (fun i h b0 b1 b2 b3 wx hqx hbx=>by
    have c:=nots_any fs l[i] (ih _ (List.getElem_mem h)) (w.heap.size+1+1) (w.heap.size+1) t F fn fc wx b0 b1 b2 b3 (hqx.grow hbx) (hE5.grow hbx) (hEv.grow hbx) ((hbx.cell (p:=⟨w.heap.size+1+1,0,none⟩) (by simp)).trans hF5)
    rw [List.getElem?_eq_getElem h]
    simpa using c)
  have e:=any_idx l (fun x=>!matchB fs x)
  rw [hI5.lm] at e
  rw [e] at c1
  have Fin2:=zh (not_any_not l (matchB fs))
  rw [Fin.out,← Fin2.out]
  have C1:=zh c1
  clear hq hF hI hbq hbe hb5 hQ5 hE5 hF5 hEv hq5 hI5 ih c1 Fin e k1 k234 Fin2
  generalize (l.any fun x=>!matchB fs x)=r at *
  go_enter Tryz.func74,Tryz.ntmps74
  go_wp2_with (go_at_call 114; refine C1.out.mono ?_; rintro e w1 ⟨rfl,hb1⟩)
  go_ret
  exact ⟨rfl,Hb5.out.trans (hb1.mono Hb5.out.size)⟩
 by_cases k6:k=6
 ·subst k6
  have Fin:Hid (matchB fs (.mk 6 nm ws l)=l.any (matchB fs)):=zh (by rw [matchB_eq]; simp)
  have c1:=containsQry CA n c2 6 nm ws WA m l 112 #[.pointer (some ⟨w.heap.size+1,0,none⟩)] (fun i=>(l[i]?).any (fun x=>matchB fs x)) _ (fun args wx=>callFunc_enter Tryz.func112 (by kernel_rfl) rfl args wx)
   hI5 hI5.lm (by rw [← hI5.lm]; exact hl3) (fun i h b0 b1 b2 b3 wx hqx hbx=>by
    have c:=fits_any fs l[i] (ih _ (List.getElem_mem h)) (w.heap.size+1) t F fn fc wx b0 b1 b2 b3 (hqx.grow hbx) (hE5.grow hbx) (hEv.grow hbx)
    rw [List.getElem?_eq_getElem h]
    simpa using c)
  have e:=any_idx l (fun x=>matchB fs x)
  rw [hI5.lm] at e
  rw [e] at c1
  rw [Fin.out]
  have C1:=zh c1
  clear hq hF hI hbq hbe hb5 hQ5 hE5 hF5 hEv hq5 hI5 ih c1 Fin e k1 k234 k5
  generalize (l.any fun x=>matchB fs x)=r at *
  go_enter Tryz.func74,Tryz.ntmps74
  go_wp2_with (go_at_call 114; refine C1.out.mono ?_; rintro e w1 ⟨rfl,hb1⟩)
  go_ret
  exact ⟨rfl,Hb5.out.trans (hb1.mono Hb5.out.size)⟩
 by_cases k7:k=7
 ·subst k7
  have Fin:Hid (matchB fs (.mk 7 nm ws l)=matchNone fs l):=zh (by rw [matchB_eq]; simp)
  rw [Fin.out]
  have hcells:∀ wx,Below (World.heap (((w.alloc (.cells #[.int .i64 7,.string nm,.slice WA m wc,.slice CA n c2] 60)).alloc (.cells #[.int .i64 t,.slice F fn fc] 46)).alloc (.cells #[.func (.func 112) #[] #[.pointer (some ⟨w.heap.size+1,0,none⟩)]] 98))).size (((w.alloc (.cells #[.int .i64 7,.string nm,.slice WA m wc,.slice CA n c2] 60)).alloc (.cells #[.int .i64 t,.slice F fn fc] 46)).alloc (.cells #[.func (.func 112) #[] #[.pointer (some ⟨w.heap.size+1,0,none⟩)]] 98)) wx→wx.cell? ⟨w.heap.size,3,none⟩=some (.slice CA n c2)∧wx.cell? ⟨w.heap.size+1+1,0,none⟩=some (.func (.func 112) #[] #[.pointer (some ⟨w.heap.size+1,0,none⟩)]):=fun wx hC =>
   ⟨(hC.cell (p:=⟨w.heap.size,3,none⟩) (by simp; omega)).trans (hQ5.cell 3),(hC.cell (p:=⟨w.heap.size+1+1,0,none⟩) (by simp)).trans hF5⟩
  have hcells':=zh hcells
  have hmn:=hI5.lm
  by_cases hn1:n=1
  ·obtain ⟨x,rfl⟩:∃ x,l=[x]:=List.length_eq_one_iff.1 (by omega)
   obtain ⟨tb,tq,A',n',c',C',m',d',e1,htb,hqx,g0,g1,g2,g3⟩:=hI5.at_ (i:=0) (by simp)
   subst e1
   obtain rfl:n=1:=hn1
   have hx:=ih x (by simp)
   simp only [List.getElem_cons_zero,Nat.zero_mul,Nat.add_zero] at hqx g0 g1 g2 g3
   have hcells2:∀ wx,Below (World.heap (((w.alloc (.cells #[.int .i64 7,.string nm,.slice WA m wc,.slice (some ⟨tb,tq,none⟩) 1 c2] 60)).alloc (.cells #[.int .i64 t,.slice F fn fc] 46)).alloc (.cells #[.func (.func 112) #[] #[.pointer (some ⟨w.heap.size+1,0,none⟩)]] 98))).size (((w.alloc (.cells #[.int .i64 7,.string nm,.slice WA m wc,.slice (some ⟨tb,tq,none⟩) 1 c2] 60)).alloc (.cells #[.int .i64 t,.slice F fn fc] 46)).alloc (.cells #[.func (.func 112) #[] #[.pointer (some ⟨w.heap.size+1,0,none⟩)]] 98)) wx→wx.cell? ⟨w.heap.size,3,none⟩=some (.slice (some ⟨tb,tq,none⟩) 1 c2)∧wx.cell? ⟨w.heap.size+1+1,0,none⟩=some (.func (.func 112) #[] #[.pointer (some ⟨w.heap.size+1,0,none⟩)]) ∧
     wx.cell? ⟨tb,tq,none⟩=some (.int .i64 x.kind)∧wx.cell? ⟨tb,tq+1,none⟩=some (.string x.name)∧wx.cell? ⟨tb,tq+2,none⟩=some (.slice A' n' c')∧wx.cell? ⟨tb,tq+3,none⟩=some (.slice C' m' d'):=fun wx hC =>
    ⟨(hcells wx hC).1,(hcells wx hC).2,(hC.cell (p:=⟨tb,tq,none⟩) htb).trans g0,(hC.cell (p:=⟨tb,tq+1,none⟩) htb).trans g1,(hC.cell (p:=⟨tb,tq+2,none⟩) htb).trans g2,(hC.cell (p:=⟨tb,tq+3,none⟩) htb).trans g3⟩
   have c1:=fun wx (hC:Below (World.heap (((w.alloc (.cells #[.int .i64 7,.string nm,.slice WA m wc,.slice (some ⟨tb,tq,none⟩) 1 c2] 60)).alloc (.cells #[.int .i64 t,.slice F fn fc] 46)).alloc (.cells #[.func (.func 112) #[] #[.pointer (some ⟨w.heap.size+1,0,none⟩)]] 98))).size (((w.alloc (.cells #[.int .i64 7,.string nm,.slice WA m wc,.slice (some ⟨tb,tq,none⟩) 1 c2] 60)).alloc (.cells #[.int .i64 t,.slice F fn fc] 46)).alloc (.cells #[.func (.func 112) #[] #[.pointer (some ⟨w.heap.size+1,0,none⟩)]] 98)) wx)=>fits_any fs x hx (w.heap.size+1) t F fn fc wx _ _ _ _ (hqx.grow hC) (hE5.grow hC) (hEv.grow hC)
   have hN:matchNone fs [x]=!matchB fs x:=by rw [matchNone]
   rw [hN]
   have C1:=zh c1
   have hcells2':=zh hcells2
   clear hq hF hI hbq hbe hb5 hQ5 hE5 hF5 hEv hq5 hI5 ih c1 Fin k1 k234 k5 k6 hcells hcells2 hcells' hN hqx g0 g1 g2 g3 hx hmn
   generalize matchB fs x=r at *
   generalize x.kind=x0 at *
   generalize x.name=x1 at *
   go_enter Tryz.func74,Tryz.ntmps74
   go_wp2_with fail
   refine wp_region_grow (specOf [(10,⟨Unit,fun _=>(.bool r),fun _ _=>True⟩)]) (fun wx=>Below (World.heap (((w.alloc (.cells #[.int .i64 7,.string nm,.slice WA m wc,.slice (some ⟨tb,tq,none⟩) 1 c2] 60)).alloc (.cells #[.int .i64 t,.slice F fn fc] 46)).alloc (.cells #[.func (.func 112) #[] #[.pointer (some ⟨w.heap.size+1,0,none⟩)]] 98))).size (((w.alloc (.cells #[.int .i64 7,.string nm,.slice WA m wc,.slice (some ⟨tb,tq,none⟩) 1 c2] 60)).alloc (.cells #[.int .i64 t,.slice F fn fc] 46)).alloc (.cells #[.func (.func 112) #[] #[.pointer (some ⟨w.heap.size+1,0,none⟩)]] 98)) wx) (fun w1 w2=>Below w1.heap.size w1 w2) (by kernel_rfl) (by kernel_rfl) (stab_cons (fun _ _ _ _ h=>h) (stab_nil)) (Below.refl _ _).drew ?_
   iterate 10
    refine grow_fix _ ?_ rfl (by rfl) (by rfl) (fun wx hC hD=>?_) ?_
    rotate_left
    ·have hSw:=hcells2'.out wx hC
     go_simp
     all_goals with_reducible rfl
    try simp only [Act.put,zD,zE,zF]
   refine grow_give 11 _ rfl (by rfl) (by rfl) (fun wx hC hD=>?_) (fun x=>?_)
   ·refine give_enter (f:=?_) (args:=?_) ?_ ?_
    rotate_left 2
    ·have hSw:=hcells2'.out wx hC
     go_simp
     all_goals first | with_reducible rfl | (refine ⟨?_,?_⟩ <;> with_reducible rfl)
    exact calls_cst hC (C1.out wx hC)
   obtain ⟨⟩:=x
   try simp only [Act.put,zD,zE,zF]
   iterate 3
    refine grow_fix _ ?_ rfl (by rfl) (by rfl) (fun wx hC hD=>?_) ?_
    rotate_left
    ·have hSw:=hcells2'.out wx hC
     go_simp
     all_goals with_reducible rfl
    try simp only [Act.put,zD,zE,zF]
   refine grow_nil (fun w2 hC hF=>?_)
   have Hb:=zh (Hb5.out.trans (hC.mono Hb5.out.size))
   clear hF hC
   go_wp2
   go_ret
   exact ⟨rfl,Hb.out⟩
  ·have hn1':((n:Int) == 1)=false:=by rw [beq_eq_false_iff_ne]; omega
   have hN:matchNone fs l=false:=by
    unfold matchNone
    split
    ·exact absurd hmn (by simp; omega)
    ·rfl
   rw [hN]
   clear hq hF hI hbq hbe hb5 hQ5 hE5 hF5 hEv hq5 hI5 ih Fin k1 k234 k5 k6 hcells hN hmn hn1
   go_enter Tryz.func74,Tryz.ntmps74
   go_wp2_with fail
   refine wp_region_grow (specOf []) (fun wx=>Below (World.heap (((w.alloc (.cells #[.int .i64 7,.string nm,.slice WA m wc,.slice CA n c2] 60)).alloc (.cells #[.int .i64 t,.slice F fn fc] 46)).alloc (.cells #[.func (.func 112) #[] #[.pointer (some ⟨w.heap.size+1,0,none⟩)]] 98))).size (((w.alloc (.cells #[.int .i64 7,.string nm,.slice WA m wc,.slice CA n c2] 60)).alloc (.cells #[.int .i64 t,.slice F fn fc] 46)).alloc (.cells #[.func (.func 112) #[] #[.pointer (some ⟨w.heap.size+1,0,none⟩)]] 98)) wx) (fun w1 w2=>Below w1.heap.size w1 w2) (by kernel_rfl) (by kernel_rfl) (stab_nil) (Below.refl _ _).drew ?_
   iterate 5
    refine grow_fix _ ?_ rfl (by rfl) (by rfl) (fun wx hC hD=>?_) ?_
    rotate_left
    ·have hSw:=hcells'.out wx hC
     go_simp
     all_goals with_reducible rfl
    try simp only [Act.put,zD,zE,zF]
   refine grow_skip 6 (some false) true rfl (by rfl) (by rfl) (by rfl) ?_
   try simp only [Act.put,zD,zE,zF]
   refine grow_skip 7 (some false) true rfl (by rfl) (by rfl) (by rfl) ?_
   try simp only [Act.put,zD,zE,zF]
   refine grow_skip 8 (some false) true rfl (by rfl) (by rfl) (by rfl) ?_
   try simp only [Act.put,zD,zE,zF]
   refine grow_skip 9 (some false) true rfl (by rfl) (by rfl) (by rfl) ?_
   try simp only [Act.put,zD,zE,zF]
   refine grow_skip 10 (some false) true rfl (by rfl) (by rfl) (by rfl) ?_
   try simp only [Act.put,zD,zE,zF]
   refine grow_skip 11 (some false) true rfl (by rfl) (by rfl) (by rfl) ?_
   try simp only [Act.put,zD,zE,zF]
   refine grow_skip 12 (some false) true rfl (by rfl) (by rfl) (by rfl) ?_
   try simp only [Act.put,zD,zE,zF]
   iterate 2
    refine grow_fix _ ?_ rfl (by rfl) (by rfl) (fun wx hC hD=>?_) ?_
    rotate_left
    ·have hSw:=hcells'.out wx hC
     go_simp
     all_goals with_reducible rfl
    try simp only [Act.put,zD,zE,zF]
   refine grow_nil (fun w2 hC hF=>?_)
   have Hb:=zh (Hb5.out.trans (hC.mono Hb5.out.size))
   clear hF hC
   go_wp2
   go_ret
   exact ⟨rfl,Hb.out⟩
 ·have Fin:Hid (matchB fs (.mk k nm ws l)=false):=zh (by rw [matchB_eq,if_neg k1,if_neg k234,if_neg k5,if_neg k6,if_neg k7])
  rw [Fin.out]
  have j1:(k == 1)=false:=by rw [beq_eq_false_iff_ne]; omega
  have j2:(k == 2)=false:=by rw [beq_eq_false_iff_ne]; omega
  have j3:(k == 3)=false:=by rw [beq_eq_false_iff_ne]; omega
  have j4:(k == 4)=false:=by rw [beq_eq_false_iff_ne]; omega
  have j5:(k == 5)=false:=by rw [beq_eq_false_iff_ne]; omega
  have j6:(k == 6)=false:=by rw [beq_eq_false_iff_ne]; omega
  have j7:(k == 7)=false:=by rw [beq_eq_false_iff_ne]; omega
  clear hq hF hI hbq hbe hb5 hQ5 hE5 hF5 hEv hq5 hI5 ih Fin k1 k234 k5 k6 k7
  go_enter Tryz.func74,Tryz.ntmps74
  go_wp2
  go_ret
  exact ⟨rfl,Hb5.out⟩
theorem match_any (fs:List (ByteArray × ByteArray)):∀ q,QSz q→MatchOk fs q:=by
 intro q
 refine Q.ind (p:=fun q=>QSz q→MatchOk fs q) ?_ q
 intro k nm ws l ih hs
 cases hs with
 | mk h1 h2 h3=>exact match_step fs k nm ws l h1 h2 (fun x hx=>ih x hx (h3 x hx))
end Go.Proofs.YtmomjpolkkbhnaaGreat.Qy
end

section
namespace Go.Proofs.YtmomjpolkkbhnaaGreat.Md
open Go.RowKit Ut Tk Qy Qp Ev
theorem flEvt {w:World} {F:Option Addr} {fn fc:Nat} {fs:List Fl} (h:FlAt w w.heap.size F fn fc fs) (hck:chkE fs=0):EvAt w F fn fs:=⟨h.rd,h.len,h.few,fun f hf=>by have:=((chkE_ok hck).2 f hf).2.2; omega⟩
structure QBl (w:World) (g:Nat) (q:Q):Prop where
 ex:∃ A n c B m d,Blk w g 60 #[.int .i64 q.kind,.string q.name,.slice A n c,.slice B m d]∧QAt w w.heap.size q [.int .i64 q.kind,.string q.name,.slice A n c,.slice B m d]
theorem QBl.below {w w':World} {g:Nat} {q:Q} (h:QBl w g q) (hb:Below w.heap.size w w'):QBl w' g q:=by
 obtain ⟨A,n,c,B,m,d,h1,h2⟩:=h.ex
 exact ⟨A,n,c,B,m,d,h1.below hb h1.lt,h2.grow hb⟩
set_option maxHeartbeats 1600000 in
theorem tail1_any (d:Dc) (hck:chkE d.fs=0) (q:Q) (hq:QSz q) (Fa:Option Addr) (fc g:Nat) (w:World) (hQ:QBl w g q) (hF:FlAt w w.heap.size Fa d.fs.length fc d.fs) :
  Calls Tryz.prog 73 (#[.agg #[.int .i64 d.seq,.int .i64 d.at_,.slice Fa d.fs.length fc]] ++ #[.pointer (some ⟨g,0,none⟩)]) w fun e w'=>e=.returned (.bool (matchB d.fs q))∧Below w.heap.size w w':=by
 obtain ⟨A,n,c,B,m,e,h1,h2⟩:=hQ.ex
 have hb:Below w.heap.size w (w.alloc (.cells #[.int .i64 d.seq,.int .i64 d.at_,.slice Fa d.fs.length fc] 48)):=(Below.refl _ _).alloc (zG _) _
 have CM:=zh (match_any d.fs q hq (w.alloc (.cells #[.int .i64 d.seq,.int .i64 d.at_,.slice Fa d.fs.length fc] 48)) _ _ _ _ d.at_ Fa d.fs.length fc (h2.grow hb) (flEvt (flg hF hb) hck))
 have hB1:=h1.below hb h1.lt
 have k0:=hB1.cell 0
 have k1:=hB1.cell 1
 have k2:=hB1.cell 2
 have k3:=hB1.cell 3
 have hX:=Blk.new w 48 #[.int .i64 d.seq,.int .i64 d.at_,.slice Fa d.fs.length fc]
 have x1:=hX.cell 1
 have x2:=hX.cell 2
 simp only [zA,zB,zC] at k0 k1 k2 k3 x1 x2
 have HB:=zh hb
 clear hQ h1 h2 hb hF hB1 hX
 generalize q.kind=qk at *
 generalize q.name=qn at *
 generalize matchB d.fs q=mb at *
 show Calls Tryz.prog 73 #[.agg #[.int .i64 d.seq,.int .i64 d.at_,.slice Fa d.fs.length fc],.pointer (some ⟨g,0,none⟩)] w _
 go_enter Tryz.func73,Tryz.ntmps73
 go_wp2_with fail
 refine CM.out.mono ?_
 rintro e w2 ⟨rfl,hb2⟩
 have HB2:=zh (HB.out.trans (hb2.mono HB.out.size))
 clear hb2 CM k0 k1 k2 k3 x1 x2
 go_wp2
 go_ret
 exact ⟨rfl,HB2.out⟩
theorem stats1_any (d:Dc) (Fa:Option Addr) (fc:Nat) (w:World) :
  Calls Tryz.prog 75 (#[.agg #[.int .i64 d.seq,.int .i64 d.at_,.slice Fa d.fs.length fc]] ++ #[]) w fun e w'=>e=.returned (.bool true)∧Below w.heap.size w w':=by
 have HB:Hid (Below w.heap.size w (w.alloc (.cells #[.int .i64 d.seq,.int .i64 d.at_,.slice Fa d.fs.length fc] 48))):=zh ((Below.refl _ _).alloc (zG _) _)
 show Calls Tryz.prog 75 #[.agg #[.int .i64 d.seq,.int .i64 d.at_,.slice Fa d.fs.length fc]] w _
 go_enter Tryz.func75,Tryz.ntmps75
 go_wp2
 go_ret
 exact ⟨rfl,HB.out⟩
def inB (a b:Int) (q:Q) (d:Dc):Bool:=decide (a≤d.at_) && decide (d.at_≤b) && matchB d.fs q
set_option maxHeartbeats 3200000 in
theorem docs1_any (d:Dc) (hck:chkE d.fs=0) (q:Q) (hq:QSz q) (Fa:Option Addr) (fc g1 g2 g:Nat) (a b:Int) (w:World) (hQ:QBl w g q) (hF:FlAt w w.heap.size Fa d.fs.length fc d.fs)
  (hA:Blk w g1 3 #[.int .i64 a]) (hB:Blk w g2 3 #[.int .i64 b]) :
  Calls Tryz.prog 101 (#[.agg #[.int .i64 d.seq,.int .i64 d.at_,.slice Fa d.fs.length fc]] ++ #[.pointer (some ⟨g1,0,none⟩),.pointer (some ⟨g2,0,none⟩),.pointer (some ⟨g,0,none⟩)]) w fun e w'=>e=.returned (.bool (inB a b q d))∧Below w.heap.size w w':=by
 obtain ⟨A,n,c,B,m,e,h1,h2⟩:=hQ.ex
 have hb:Below w.heap.size w (w.alloc (.cells #[.int .i64 d.seq,.int .i64 d.at_,.slice Fa d.fs.length fc] 48)):=(Below.refl _ _).alloc (zG _) _
 have CM:=zh (match_any d.fs q hq (w.alloc (.cells #[.int .i64 d.seq,.int .i64 d.at_,.slice Fa d.fs.length fc] 48)) _ _ _ _ d.at_ Fa d.fs.length fc (h2.grow hb) (flEvt (flg hF hb) hck))
 have hB1:=h1.below hb h1.lt
 have k0:=hB1.cell 0
 have k1:=hB1.cell 1
 have k2:=hB1.cell 2
 have k3:=hB1.cell 3
 have hX:=Blk.new w 48 #[.int .i64 d.seq,.int .i64 d.at_,.slice Fa d.fs.length fc]
 have x1:=hX.cell 1
 have x2:=hX.cell 2
 have y1:=(hA.below hb hA.lt).cell 0
 have y2:=(hB.below hb hB.lt).cell 0
 simp only [zA,zB,zC] at k0 k1 k2 k3 x1 x2 y1 y2
 have HB:=zh hb
 have hin:inB a b q d=(decide (a≤d.at_) && decide (d.at_≤b) && matchB d.fs q):=rfl
 rw [hin]
 clear hQ h1 h2 hb hF hB1 hX hA hB hin
 generalize q.kind=qk at *
 generalize q.name=qn at *
 generalize matchB d.fs q=mb at *
 obtain ⟨s,ta,fs⟩:=d
 simp only at *
 show Calls Tryz.prog 101 #[.agg #[.int .i64 s,.int .i64 ta,.slice Fa fs.length fc],.pointer (some ⟨g1,0,none⟩),.pointer (some ⟨g2,0,none⟩),.pointer (some ⟨g,0,none⟩)] w _
 by_cases c1:a≤ta
 ·by_cases c2:ta≤b
  ·rw [decide_eq_true c1,decide_eq_true c2]
   go_enter Tryz.func101,Tryz.ntmps101
   go_wp2_with fail
   refine CM.out.mono ?_
   rintro e w2 ⟨rfl,hb2⟩
   have HB2:=zh (HB.out.trans (hb2.mono HB.out.size))
   clear hb2 CM k0 k1 k2 k3 x1 x2 y1 y2
   go_wp2
   go_ret
   exact ⟨rfl,HB2.out⟩
  ·rw [decide_eq_true c1,decide_eq_false c2]
   clear CM
   go_enter Tryz.func101,Tryz.ntmps101
   go_wp2
   go_ret
   exact ⟨rfl,HB.out⟩
 ·rw [decide_eq_false c1]
  clear CM
  go_enter Tryz.func101,Tryz.ntmps101
  go_wp2
  go_ret
  exact ⟨rfl,HB.out⟩
structure ByT (l m:List Dc):Prop where
 perm:m.Perm l
 up:m.Pairwise ltD
def DocsQ (w:World) (L:List Dc) (e:Ending) (w':World):Prop:=∃ v D,e=.returned v∧DOwn w' w.heap.size v D∧ByT L D∧Below w.heap.size w w'
end Go.Proofs.YtmomjpolkkbhnaaGreat.Md
end

section
namespace Go.Proofs.YtmomjpolkkbhnaaGreat.Md
open Go.RowKit Ut Tk Qy Qp Ev
def FldOf (w:World) (S:Nat→Prop) (x:El):Prop:=ReadsS w S 2 x.F x.n (fldC x.d.fs)∧x.d.fs.length=x.n∧x.n≤8796093021952∧x.n≤x.c∧(x.F=none→x.c=0)
theorem FldOf.dc {w:World} {S:Nat→Prop} {x:El} (h:FldOf w S x):DcS w S x.d (encE x):=⟨x.F,x.n,x.c,rfl,h.1,h.2.1,h.2.2.1,h.2.2.2.1,h.2.2.2.2⟩
theorem els_of {w:World} {S:Nat→Prop}:∀ (ds:List Dc) (vss:List (List Value)),vss.length=ds.length→(∀ i (h:i<ds.length) (h':i<vss.length),DcS w S ds[i] vss[i])→∃ l:List El,l.map El.d=ds∧l.map encE=vss∧∀ x∈l,FldOf w S x
 | [],[],_,_=>⟨[],rfl,rfl,fun x hx=>(nomatch hx)⟩
 | d :: ds,v :: vss,hl,h=>by
  obtain ⟨l,h1,h2,h3⟩:=els_of ds vss (by simpa using hl) (fun i a b=>h (i+1) (Nat.succ_lt_succ a) (Nat.succ_lt_succ b))
  obtain ⟨F,fn,fc,e,g⟩:=(h 0 (by simp) (by simp)).ex
  simp only [List.getElem_cons_zero] at e g
  refine ⟨⟨d,F,fn,fc⟩ :: l,by simp [h1],by rw [List.map_cons,h2,e]; rfl,fun x hx=>?_⟩
  rcases List.mem_cons.1 hx with rfl | hx
  ·exact g
  ·exact h3 x hx
theorem DOwn_of {w:World} {base:Nat} {v:Value} {l:List El} (h:w.ownsRow base 48 3 v l.length (l.flatMap encE)) (hf:∀ x∈l,FldOf w (Go.Proofs.YtmomjpolkkbhnaaGreat.Ev.Fd w base) x):DOwn w base v (l.map El.d):=by
 refine ⟨l.map encE,by simp,by rw [List.length_map,← List.flatMap_def]; exact h,fun i a b=>?_⟩
 rw [List.getElem_map,List.getElem_map]
 exact (hf _ (List.getElem_mem _)).dc
theorem FldOf.grown {w w':World} {base g:Nat} {x:El} (h:FldOf w (Go.Proofs.YtmomjpolkkbhnaaGreat.Ev.Fd w base) x) (hg:w.grownBy w' (some g)) (ht:Tg w 48 g):FldOf w' (Go.Proofs.YtmomjpolkkbhnaaGreat.Ev.Fd w' base) x :=
 ⟨h.1.same (fun b hS=>by
  have e:w'.heap[b]?=w.heap[b]?:=hg.block b hS.2.lt (fun e=>by
   injection e with e
   subst e
   exact absurd (ht.one hS.2) (by decide))
  exact ⟨⟨hS.1,hS.2.same e⟩,e⟩),h.2⟩
theorem sortOwn {w:World} {base:Nat} {v:Value} {ds:List Dc} (h:DOwn w base v ds) (hl:ds.length≤1048576) (h0:∀ d∈ds,0≤d.seq) (hp:ds.Pairwise (fun x y=>x.seq<y.seq)) :
  Calls Tryz.prog 102 #[v,.func (.func 103) #[] #[]] w fun e w'=>e=.returned (.tuple #[])∧∃ D,ByT ds D∧DOwn w' base v D∧w.grownBy w' v.ownBlock:=by
 obtain ⟨vss,g1,g2,g3⟩:=h.ex
 obtain ⟨l,rfl,rfl,hf⟩:=els_of ds vss g1 g3
 rw [List.length_map] at g2 hl
 rw [← List.flatMap_def] at g2
 have hp':l.Pairwise (fun x y=>x.d.seq<y.d.seq):=(List.pairwise_map (f:=El.d)).1 hp
 have h0':∀ x∈l,0≤x.d.seq:=fun x hx=>h0 _ (List.mem_map.2 ⟨x,hx,rfl⟩)
 rcases g2.2 with ⟨hv,hz⟩ | ⟨g,cap,cur,hv,hb,hh,hc1,hc2,hc3,ht⟩
 ·have hl0:l=[]:=List.length_eq_zero_iff.1 hz
  subst hl0 hv
  refine (sortE_nil w _).mono ?_
  rintro e w' ⟨rfl,rfl⟩
  exact ⟨rfl,[],⟨List.Perm.refl _,List.Pairwise.nil⟩,h,grow_of_below (Below.refl _ _) _⟩
 ·subst hv
  refine (sortD_any base g cap l cur w hh (by first | exact ht | simpa using ht) hl hb hc1 hc2 hc3 h0' hp').mono ?_
  rintro e w' ⟨rfl,m,q1,q2,q3,q4⟩
  refine ⟨rfl,m.map El.d,⟨q1.map _,(List.pairwise_map (f:=El.d)).2 q2⟩,?_,q4⟩
  have hml:m.length=l.length:=q1.length_eq
  rw [← hml] at q3
  exact DOwn_of (by rw [hml] at q3 ⊢; exact q3) (fun x hx=>(hf x (q1.mem_iff.1 hx)).grown q4 ⟨_,_,hh⟩)
theorem ok_up {m:M} (h:Ok m):m.ds.Pairwise (fun x y=>x.seq<y.seq):=by
 rw [List.pairwise_iff_getElem]
 intro i j hi hj hij
 have h1:=(h.doc i hi).2.1
 have h2:=(h.doc j hj).2.1
 omega
theorem ok_pos {m:M} (h:Ok m):∀ d∈m.ds,0≤d.seq:=fun d hd=>by
 obtain ⟨i,hi,rfl⟩:=List.mem_iff_getElem.1 hd
 have h1:=(h.doc i hi).2.1
 omega
theorem ok_chk {m:M} (h:Ok m):∀ d∈m.ds,chkE d.fs=0:=fun d hd=>by
 obtain ⟨i,hi,rfl⟩:=List.mem_iff_getElem.1 hd
 exact (h.doc i hi).1
set_option maxHeartbeats 3200000 in
theorem docs_any {w:World} {n0 X K:Nat} {v:Value} {m:M} (h:At w n0 X K v m) (hK:K≤60000) (q:Q) (hq:QSz q) (a0 a1 a2 a3:Value) (a b:Int) (hQ:∃ A n c B k d,[a0,a1,a2,a3]=[.int .i64 q.kind,.string q.name,.slice A n c,.slice B k d]) (hqa:QAt w w.heap.size q [a0,a1,a2,a3]) :
  Calls Tryz.prog 67 #[.pointer (some ⟨X,0,none⟩),.agg #[a0,a1,a2,a3],.int .i64 a,.int .i64 b] w (DocsQ w (upL m (inB a b q))):=by
 obtain ⟨A,n,c,B,k,d,e⟩:=hQ
 simp only [List.cons.injEq,and_true] at e
 obtain ⟨rfl,rfl,rfl,rfl⟩:=e
 have hb1:Below w.heap.size w (w.alloc (.cells #[.int .i64 q.kind,.string q.name,.slice A n c,.slice B k d] 60)):=(Below.refl _ _).alloc (zG _) _
 have hb2:=hb1.alloc hb1.size (.cells #[.int .i64 a] 3)
 have hb3:=hb2.alloc hb2.size (.cells #[.int .i64 b] 3)
 have z1:(w.alloc (.cells #[.int .i64 q.kind,.string q.name,.slice A n c,.slice B k d] 60)).heap.size=w.heap.size+1:=by simp
 have z2:((w.alloc (.cells #[.int .i64 q.kind,.string q.name,.slice A n c,.slice B k d] 60)).alloc (.cells #[.int .i64 a] 3)).heap.size=w.heap.size+2:=by simp
 have x1:=((Blk.new w 60 #[.int .i64 q.kind,.string q.name,.slice A n c,.slice B k d]).alloc (.cells #[.int .i64 a] 3)).alloc (.cells #[.int .i64 b] 3)
 have x2:=(Blk.new (w.alloc (.cells #[.int .i64 q.kind,.string q.name,.slice A n c,.slice B k d] 60)) 3 #[.int .i64 a]).alloc (.cells #[.int .i64 b] 3)
 have x3:=Blk.new ((w.alloc (.cells #[.int .i64 q.kind,.string q.name,.slice A n c,.slice B k d] 60)).alloc (.cells #[.int .i64 a] 3)) 3 #[.int .i64 b]
 rw [z1] at x2
 rw [z2] at x3
 generalize hw3:((w.alloc (.cells #[.int .i64 q.kind,.string q.name,.slice A n c,.slice B k d] 60)).alloc (.cells #[.int .i64 a] 3)).alloc (.cells #[.int .i64 b] 3)=w3 at *
 have H3:=h.below hb3
 have HQ:QBl w3 w.heap.size q:=⟨A,n,c,B,k,d,x1,hqa.grow hb3⟩
 have CU:=zh (up_any H3 hK 101 #[.pointer (some ⟨w.heap.size+1,0,none⟩),.pointer (some ⟨w.heap.size+2,0,none⟩),.pointer (some ⟨w.heap.size,0,none⟩)] (inB a b q) (enters_of Tryz.func101 (by kernel_rfl) rfl)
  (fun d hd wx hb Fa fc hF=>docs1_any d (ok_chk h.ok d hd) q hq Fa fc _ _ _ a b wx (HQ.below hb) hF (x2.below hb x2.lt) (x3.below hb x3.lt)))
 have HLN:Hid ((upL m (inB a b q)).length≤60000∧(∀ d∈upL m (inB a b q),0≤d.seq)∧(upL m (inB a b q)).Pairwise (fun x y=>x.seq<y.seq)):=zh ⟨Nat.le_trans (List.length_filter_le _ _) (Nat.le_trans h.few hK),fun d hd=>ok_pos h.ok d (List.mem_filter.1 hd).1,(ok_up h.ok).filter _⟩
 have HB3:=zh hb3
 have hs3:=hb3.size
 generalize upL m (inB a b q)=L at *
 clear h H3 HQ hqa hb1 hb2 hb3 z1 z2 x1 x2 x3
 subst hw3
 go_enter Tryz.func67,Tryz.ntmps67
 go_wp2_with fail
 generalize ((w.alloc (.cells #[.int .i64 q.kind,.string q.name,.slice A n c,.slice B k d] 60)).alloc (.cells #[.int .i64 a] 3)).alloc (.cells #[.int .i64 b] 3)=w3 at *
 refine CU.out.mono ?_
 rintro e w4 ⟨v4,rfl,hD,hb4⟩
 have CS:=zh (sortOwn hD (by have:=HLN.out.1; omega) HLN.out.2.1 HLN.out.2.2)
 have HB4:=zh (HB3.out.trans (hb4.mono HB3.out.size))
 have HOB:Hid (∀ j,v4.ownBlock=some j→w.heap.size≤j):=zh (fun j hj=>by
  obtain ⟨vss,_,g2,_⟩:=hD.ex
  have:=(g2.lt j hj).1
  omega)
 clear hD hb4 CU
 go_wp2_with fail
 refine CS.out.mono ?_
 rintro e w5 ⟨rfl,D,hT,hD5,hg⟩
 have FIN:Hid (DocsQ w L (.returned v4) w5):=zh ⟨v4,D,rfl,hD5.mono hs3,hT,HB4.out.grown hg (by have:=HB4.out.size; omega) (fun j hj=>HOB.out j hj)⟩
 clear hT hD5 hg CS
 go_wp2
 go_ret
 exact FIN.out
end Go.Proofs.YtmomjpolkkbhnaaGreat.Md
end

section
namespace Go.Proofs.YtmomjpolkkbhnaaGreat.Md
open Go.RowKit Ut Tk Qy Qp Ev
structure Rq where
 op:Int
 evs:List Evn
 dur:Bool
 now:Int
 q:ByteArray
 frm:Int
 til:Int
 lim:Int
 width:Int
 after:Int
 cur:List UInt8
structure Rw where
 E:Option Addr
 en:Nat
 ec:Nat
 C:Option Addr
 cn:Nat
 cc:Nat
abbrev rqC (r:Rq) (z:Rw):Array Value:=#[.int .i64 r.op,.slice z.E z.en z.ec,.bool r.dur,.int .i64 r.now,.string r.q,.int .i64 r.frm,.int .i64 r.til,.int .i64 r.lim,.int .i64 r.width,.int .i64 r.after,.slice z.C z.cn z.cc]
abbrev rs0:Array Value:=rsC 0 0 0 nil nil nil 0 0 0 0
theorem own_kp {w w':World} {n0:Nat} {v:Value} {ds:List Dc} (h:DOwn w n0 v ds) (hk:∀ b,(Tg w 48 b∨Tg w 85 b)→w'.heap[b]?=w.heap[b]?):DOwn w' n0 v ds:=by
 obtain ⟨vss,g1,g2,g3⟩:=h.ex
 exact ⟨vss,g1,own_same g2 (fun b hb=>hk b (.inl (tg_own g2 hb))),fun i a b=>(g3 i a b).same (fun b hS=>⟨⟨hS.1,hS.2.same (hk b (.inr hS.2))⟩,hk b (.inr hS.2)⟩)⟩
theorem At.kp {w w':World} {n0 X K:Nat} {v:Value} {m:M} (h:At w n0 X K v m) (hs:w.heap.size≤w'.heap.size) (hk:∀ b,(Tg w 81 b∨Tg w 48 b∨Tg w 85 b)→w'.heap[b]?=w.heap[b]?):At w' n0 X K v m :=
 ⟨(hk X (.inl ⟨_,_,h.blk⟩)).trans h.blk,own_kp h.own (fun b hb=>hk b (.inr hb)),Nat.le_trans h.n0 hs,h.ok,h.few⟩
theorem At.row {w:World} {n0 X K g:Nat} {v:Value} {m:M} {cs:Array Value} (h:At w n0 X K v m) (hg:Blk w g 42 cs) (cs':Array Value):At (w.setRow g cs') n0 X K v m :=
 h.kp (by simp) (fun b hb=>setRow_other w g b cs' (fun e=>by
  subst e
  rcases hb with hb | hb | hb
  ·exact absurd (hb.one ⟨_,_,hg⟩) (by decide)
  ·exact absurd (hb.one ⟨_,_,hg⟩) (by decide)
  ·exact absurd (hb.one ⟨_,_,hg⟩) (by decide)))
theorem At.set {w:World} {n0 X K:Nat} {v u:Value} {m m':M} {i:Nat} (h:At w n0 X K v m) (hb:Blk (w.setCell ⟨X,i,none⟩ u) X 81 (mdC m' v)) (hd:m'.ds=m.ds) (ok:Ok m'):At (w.setCell ⟨X,i,none⟩ u) n0 X K v m':=by
 refine ⟨hb,?_,by simpa [World.setCell] using h.n0,ok,by rw [hd]; exact h.few⟩
 rw [hd]
 refine own_kp h.own (fun b hT=>Below.heap_setCell _ _ _ _ (fun e=>?_))
 have e:b=X:=e
 subst e
 rcases hT with hT | hT
 ·exact absurd (hT.one ⟨_,_,h.blk⟩) (by decide)
 ·exact absurd (hT.one ⟨_,_,h.blk⟩) (by decide)
theorem chg_set (w:World) (X i:Nat) (u:Value):Chg (fun b=>b=X) w (w.setCell ⟨X,i,none⟩ u):=⟨rfl,rfl,rfl,by simp [World.setCell],fun k hk hn=>Below.heap_setCell _ _ _ _ (fun e=>hn e)⟩
theorem chg_row {O:Nat→Prop} {w W:World} {g:Nat} (h:Chg O w W) (hg:w.heap.size≤g) (cs:Array Value):Chg O w (W.setRow g cs) :=
 h.trans (O':=fun b=>b=g) ⟨rfl,rfl,rfl,by simp,fun k hk hn=>setRow_other _ _ _ _ (fun e=>hn e)⟩ (fun x hx=>.inr (by rw [hx]; exact hg))
def StP (n0 X K:Nat) (v:Value) (m':M) (w:World) (cs:Array Value) (e:Ending) (w':World):Prop:=e=.returned (.agg cs)∧At w' n0 X K v m'∧Chg (fun b=>b=X) w w'
theorem chg_bl {O:Nat→Prop} {w w':World} (h:Below w.heap.size w w'):Chg O w w':=Chg.of_new h
theorem below_dq {B:Nat} {w0 w:World} (h:Below B w0 w) (n:Nat):Below B w0 (w.drewN n):=⟨h.os,h.tape,h.output,h.size,h.block⟩
section
variable {w:World} {n0 X K:Nat} {v:Value} {m:M}
set_option maxHeartbeats 1600000 in
theorem nothing_any (h:At w n0 X K v m) (r:Rq) (z:Rw):Calls Tryz.prog 31 #[.pointer (some ⟨X,0,none⟩),.agg (rqC r z)] w (StP n0 X K v m w rs0):=by
 have hb:Below w.heap.size w ((w.alloc (.cells (rqC r z) 37)).alloc (.cells rs0 42)):=((Below.refl _ _).alloc (zG _) _).alloc (by simp) _
 have hq:=(Blk.new w 37 (rqC r z)).alloc (.cells rs0 42)
 have hr:=Blk.new (w.alloc (.cells (rqC r z) 37)) 42 rs0
 have z1:(w.alloc (.cells (rqC r z) 37)).heap.size=w.heap.size+1:=by simp
 rw [z1] at hr
 have H1:=zh (h.below hb)
 have HQ:=zh hq
 have HR:=zh hr
 have HB:=zh hb
 have hsw:w.heap.size+2≤(World.heap ((w.alloc (.cells (rqC r z) 37)).alloc (.cells rs0 42))).size:=by simp
 have hxl:=h.blk.lt
 clear h hb hq hr z1
 go_enter Tryz.func31,Tryz.ntmps31
 go_upto_region 1 with (fail)
 generalize ((w.alloc (.cells (rqC r z) 37)).alloc (.cells rs0 42))=w1 at *
 have HX9:=zh (setRow_heap _ (w.heap.size+1) _ (rs0) _ _ HR.out)
 go_wp2_with (refine wpList_store_row (o:=⟨none,.store 42 _ _,_,_,_,_⟩) rfl 42 _ _ rfl (w.heap.size+1) (rs0) rfl rfl 42 rs0 HR.out (by kernel_rfl) rfl (by simp [rsC,Value.oneCell']) ?_)
 refine bodyPost_ret (results_cell rfl rfl (run_loadVar_row _ (w.heap.size+1) 42 42 _ (0,0) _ HX9.out Tryz.underlying42 rfl (by kernel_rfl))) rfl ?_
 exact ⟨rfl,H1.out.row HR.out _,chg_row (chg_bl HB.out) (Nat.le_succ _) _⟩
set_option maxHeartbeats 1600000 in
theorem sync_any (h:At w n0 X K v m) (r:Rq) (z:Rw):Calls Tryz.prog 29 #[.pointer (some ⟨X,0,none⟩),.agg (rqC r z)] w (StP n0 X K v { m with acked:=(m.ds.length:Nat) } w rs0):=by
 obtain ⟨A8,c8,hv,_,_,_⟩:=h.docs
 subst hv
 have hb:Below w.heap.size w ((w.alloc (.cells (rqC r z) 37)).alloc (.cells rs0 42)):=((Below.refl _ _).alloc (zG _) _).alloc (by simp) _
 have hq:=(Blk.new w 37 (rqC r z)).alloc (.cells rs0 42)
 have hr:=Blk.new (w.alloc (.cells (rqC r z) 37)) 42 rs0
 have z1:(w.alloc (.cells (rqC r z) 37)).heap.size=w.heap.size+1:=by simp
 rw [z1] at hr
 have H1:=zh (h.below hb)
 have HQ:=zh hq
 have HR:=zh hr
 have HB:=zh hb
 have hsw:w.heap.size+2≤(World.heap ((w.alloc (.cells (rqC r z) 37)).alloc (.cells rs0 42))).size:=by simp
 have hxl:=h.blk.lt
 have k7:=H1.out.blk.cell 7
 have k10:=H1.out.blk.cell 10
 have k10f:=H1.out.blk.frozen 10
 have hok:=h.ok
 simp only [mdC,zA,zB,zC] at k7 k10
 have HA2:=zh (H1.out.set (i:=10) (u:=.int .i64 (m.ds.length:Nat)) (m':={ m with acked:=(m.ds.length:Nat) }) (by have:=H1.out.blk.set_ 10 (.int .i64 (m.ds.length:Nat)); simpa [mdC] using this) rfl ⟨hok.c,hok.ret,hok.doc,hok.fl,hok.nw,⟨Int.natCast_nonneg _,Int.le_refl _⟩⟩)
 have hgx:w.heap.size+1≠X:=by omega
 have HR2:=zh (HR.out.far (p:=⟨X,10,none⟩) hgx (.int .i64 (m.ds.length:Nat)))
 have HC2:=zh ((chg_bl (O:=fun b=>b=X) HB.out).trans (chg_set _ X 10 (.int .i64 (m.ds.length:Nat))) (fun x hx=>.inl hx))
 clear h hb hq hr z1 hok
 go_enter Tryz.func29,Tryz.ntmps29
 go_upto_region 1 with (fail)
 generalize ((w.alloc (.cells (rqC r z) 37)).alloc (.cells rs0 42))=w1 at *
 go_upto_region 2 with (fail)
 generalize w1.setCell ⟨X,10,none⟩ (.int .i64 (m.ds.length:Nat))=w2 at *
 clear k7 k10 k10f
 have HX9:=zh (setRow_heap _ (w.heap.size+1) _ (rs0) _ _ HR2.out)
 go_wp2_with (refine wpList_store_row (o:=⟨none,.store 42 _ _,_,_,_,_⟩) rfl 42 _ _ rfl (w.heap.size+1) (rs0) rfl rfl 42 rs0 HR2.out (by kernel_rfl) rfl (by simp [rsC,Value.oneCell']) ?_)
 refine bodyPost_ret (results_cell rfl rfl (run_loadVar_row _ (w.heap.size+1) 42 42 _ (0,0) _ HX9.out Tryz.underlying42 rfl (by kernel_rfl))) rfl ?_
 exact ⟨rfl,HA2.out.row HR2.out _,chg_row HC2.out (Nat.le_succ _) _⟩
def tickE (m:M) (n:Int):Int:=if n≤m.now then 271 else 0
def tickM (m:M) (n:Int):M:=if n≤m.now then m else { m with now:=n }
set_option maxHeartbeats 1600000 in
theorem tick_any (h:At w n0 X K v m) (r:Rq) (z:Rw) (hn:I64 r.now):Calls Tryz.prog 30 #[.pointer (some ⟨X,0,none⟩),.agg (rqC r z)] w (StP n0 X K v (tickM m r.now) w (rsC (tickE m r.now) 0 0 nil nil nil 0 0 0 0)):=by
 have hb:Below w.heap.size w ((w.alloc (.cells (rqC r z) 37)).alloc (.cells rs0 42)):=((Below.refl _ _).alloc (zG _) _).alloc (by simp) _
 have hq:=(Blk.new w 37 (rqC r z)).alloc (.cells rs0 42)
 have hr:=Blk.new (w.alloc (.cells (rqC r z) 37)) 42 rs0
 have z1:(w.alloc (.cells (rqC r z) 37)).heap.size=w.heap.size+1:=by simp
 rw [z1] at hr
 have H1:=zh (h.below hb)
 have HQ:=zh hq
 have HR:=zh hr
 have HB:=zh hb
 have hsw:w.heap.size+2≤(World.heap ((w.alloc (.cells (rqC r z) 37)).alloc (.cells rs0 42))).size:=by simp
 have hxl:=h.blk.lt
 have k9:=H1.out.blk.cell 9
 have k9f:=H1.out.blk.frozen 9
 have q3:=HQ.out.cell 3
 simp only [mdC,rqC,zA,zB,zC] at k9 q3
 have hok:=h.ok
 by_cases hle:r.now≤m.now
 ·have e1:tickE m r.now=271:=if_pos hle
  have e2:tickM m r.now=m:=if_pos hle
  rw [e1,e2]
  clear h hb hq hr z1 hok e1 e2
  go_enter Tryz.func30,Tryz.ntmps30
  go_upto_region 1 with (fail)
  generalize ((w.alloc (.cells (rqC r z) 37)).alloc (.cells rs0 42))=w1 at *
  go_quiet (fail)
  have HDN:=zh (below_dq (Below.refl w1.heap.size w1) nq)
  generalize w1.drewN nq=w2 at *
  go_wp2_with fail
  refine (fails_any 271 w2).mono ?_
  rintro e w3 ⟨rfl,hb3⟩
  have HB3:=zh (HDN.out.trans (hb3.mono HDN.out.size))
  have H3:=zh (H1.out.below HB3.out)
  have HR3:=zh (HR.out.below HB3.out HR.out.lt)
  clear hb3
  have HX9:=zh (setRow_heap _ (w.heap.size+1) _ (rsC 271 0 0 nil nil nil 0 0 0 0) _ _ HR3.out)
  go_wp2_with (refine wpList_store_row (o:=⟨none,.store 42 _ _,_,_,_,_⟩) rfl 42 _ _ rfl (w.heap.size+1) (rsC 271 0 0 nil nil nil 0 0 0 0) rfl rfl 42 rs0 HR3.out (by kernel_rfl) rfl (by simp [rsC,Value.oneCell']) ?_)
  refine bodyPost_ret (results_cell rfl rfl (run_loadVar_row _ (w.heap.size+1) 42 42 _ (0,0) _ HX9.out Tryz.underlying42 rfl (by kernel_rfl))) rfl ?_
  exact ⟨rfl,H3.out.row HR3.out _,chg_row (chg_bl (HB.out.trans (HB3.out.mono HB.out.size))) (Nat.le_succ _) _⟩
 ·have e1:tickE m r.now=0:=if_neg hle
  have e2:tickM m r.now={ m with now:=r.now }:=if_neg hle
  rw [e1,e2]
  clear h hb hq hr z1 e1 e2
  go_enter Tryz.func30,Tryz.ntmps30
  go_upto_region 1 with (fail)
  generalize ((w.alloc (.cells (rqC r z) 37)).alloc (.cells rs0 42))=w1 at *
  go_quiet (fail)
  have HDN:=zh (below_dq (Below.refl w1.heap.size w1) nq)
  have k9:=(HDN.out.cell (p:=⟨X,9,none⟩) H1.out.blk.lt).trans k9
  have k9f:=(H1.out.below HDN.out).blk.frozen 9
  have q3:=(HDN.out.cell (p:=⟨w.heap.size,3,none⟩) HQ.out.lt).trans q3
  have H2:=zh (H1.out.below HDN.out)
  have HR2:=zh (HR.out.below HDN.out HR.out.lt)
  have HB2:=zh (HB.out.trans (HDN.out.mono HB.out.size))
  generalize w1.drewN nq=w2 at *
  have hgx:w.heap.size+1≠X:=by omega
  have HA3:=zh (H2.out.set (i:=9) (u:=.int .i64 r.now) (m':={ m with now:=r.now }) (by have:=H2.out.blk.set_ 9 (.int .i64 r.now); simpa [mdC] using this) rfl ⟨hok.c,hok.ret,hok.doc,hok.fl,hn,hok.ak⟩)
  have HR3:=zh (HR2.out.far (p:=⟨X,9,none⟩) hgx (.int .i64 r.now))
  have HC3:=zh ((chg_bl (O:=fun b=>b=X) HB2.out).trans (chg_set _ X 9 (.int .i64 r.now)) (fun x hx=>.inl hx))
  clear hok
  go_upto_region 4 with (fail)
  generalize w2.setCell ⟨X,9,none⟩ (.int .i64 r.now)=w3 at *
  clear k9 k9f q3
  have HX9:=zh (setRow_heap _ (w.heap.size+1) _ (rs0) _ _ HR3.out)
  go_wp2_with (refine wpList_store_row (o:=⟨none,.store 42 _ _,_,_,_,_⟩) rfl 42 _ _ rfl (w.heap.size+1) (rs0) rfl rfl 42 rs0 HR3.out (by kernel_rfl) rfl (by simp [rsC,Value.oneCell']) ?_)
  refine bodyPost_ret (results_cell rfl rfl (run_loadVar_row _ (w.heap.size+1) 42 42 _ (0,0) _ HX9.out Tryz.underlying42 rfl (by kernel_rfl))) rfl ?_
  exact ⟨rfl,HA3.out.row HR3.out _,chg_row HC3.out (Nat.le_succ _) _⟩
end
end Go.Proofs.YtmomjpolkkbhnaaGreat.Md
end

section
namespace Go.Proofs.YtmomjpolkkbhnaaGreat.Hi
open Go.RowKit
structure Row (B:Nat) (w wr:World) (v:Value) (l:List Bk):Prop where
 own:OwnB wr B v l
 bel:Below B w wr
theorem OwnB.below {w w':World} {base:Nat} {v:Value} {l:List Bk} (h:OwnB w base v l) (hb:Below w.heap.size w w'):OwnB w' base v l :=
 World.ownsRow.kept h (grow_of_below hb none) (by cases v.ownBlock <;> simp)
theorem below_grown {w w':World} {base:Nat} {v:Value} {l:List Bk} (h:OwnB w base v l) (hg:w.grownBy w' v.ownBlock) (hb:base≤w.heap.size):Below base w w' :=
 ⟨hg.os,hg.tape,hg.output,hg.size,fun i hi=>hg.block i (by omega) fun e=>by have:=(World.ownsRow.lt h i e.symm).1; omega⟩
theorem Row.start (w wr:World) (B:Nat) (hb:Below B w wr):Row B w wr (.slice none 0 0) []:=⟨World.ownsRow_nil _ _ _ _,hb⟩
theorem Row.below {B:Nat} {w wr w':World} {v:Value} {l:List Bk} (h:Row B w wr v l) (hB:B≤wr.heap.size) (hb:Below wr.heap.size wr w'):Row B w w' v l:=⟨h.own.below hb,h.bel.trans (hb.mono hB)⟩
def PutPost (B:Nat) (w:World) (l:List Bk) (k n:Int) (e:Ending) (w':World):Prop :=
 ∃ v',e=.returned (.tuple #[v',.bool (putF l k n).2])∧Row B w w' v' (putF l k n).1
set_option maxHeartbeats 3200000 in
theorem put_any (B:Nat) (v:Value) (l:List Bk) (k n:Int) (w:World) (hown:OwnB w B v l) (hB:B≤w.heap.size) (hl:l.length≤1000000) (hup:Up l) (h1:∀ b∈l,1≤b.2) (hn : 1≤n) (hn2:n≤9223372036854775807) :
  Calls Tryz.prog 106 #[v,.int .i64 k,.int .i64 n] w (PutPost B w l k n):=by
 obtain ⟨A,c,rfl,hR⟩:=own_shape hown
 have c0:=by_any w
 have HR:=zh hR
 have Hown:=zh hown
 have Hup:=zh hup
 have H1:=zh h1
 clear hR hown hup h1
 unfold kF at c0
 go_enter Tryz.func106,Tryz.ntmps106
 go_wp2_with fail
 refine c0.mono ?_
 rintro e w1 ⟨rfl,hb1,hp⟩
 have c1:=search_any A c w.heap.size w.heap.size l k w1 (HR.out.below hb1) hb1.size hp Hup.out (by omega)
 have Hb1:=zh hb1
 clear hb1 c0 hp
 unfold cloF at *
 go_wp2_with fail
 refine c1.mono ?_
 rintro e w2 ⟨rfl,hb2⟩
 have Hb2:=zh (Hb1.out.trans (hb2.mono Hb1.out.size))
 clear hb2 c1
 have hs2:=Hb2.out.size
 have Hown2:=zh (Hown.out.below Hb2.out)
 have hpl:=pos_le l k
 by_cases hf:found l k=true
 ·have hff:pos l k<l.length∧(l.getD (pos l k) (0,0)).1=k:=by unfold found at hf; simpa using hf
  obtain ⟨hlt,hkk⟩:=hff
  have hgd:l.getD (pos l k) (0,0)=l[pos l k]:=by rw [List.getD_eq_getElem?_getD,List.getElem?_eq_getElem hlt]; rfl
  rw [hgd] at hkk
  obtain ⟨g,cap,hv⟩:∃ g cap,Value.slice A l.length c=.slice (some ⟨g,0,none⟩) l.length cap:=by
   rcases Hown2.out.2 with ⟨h,h0⟩ | ⟨g,cap,cur,h,_⟩
   ·omega
   ·exact ⟨g,cap,h⟩
  injection hv with hA _ hc
  subst hA hc
  have hge:=bkC_get l (pos l k) hlt
  have hcl:=Hown2.out.cellAt (pos l k * 2+1) (by omega)
  rw [hge.2] at hcl
  have hfr:=Hown2.out.frozenAt (pos l k * 2+1)
  have hone:=H1.out l[pos l k] (List.getElem_mem hlt)
  by_cases hbig:mostN<n∨mostN - n<l[pos l k].2
  ·have F:Hid (putF l k n=([],false)):=zh (by unfold putF; rw [if_pos ⟨hlt,by rw [hgd]; exact hkk⟩,hgd,if_pos hbig])
   unfold mostN at hbig
   generalize l[pos l k].2=y at *
   generalize pos l k=i at *
   clear hge hkk hgd
   go_wp2
   all_goals go_ret2
   all_goals exact ⟨.slice none 0 0,by rw [F.out]; rfl,by rw [F.out]; exact Row.start _ _ _ (Hb2.out.mono hB)⟩
  ·have hs:(bkC l).set (pos l k * 2+1) (.int .i64 (l[pos l k].2+n))=bkC (l.set (pos l k) (k,l[pos l k].2+n)):=bkC_set l (pos l k) k _ hlt hkk
   have F:Hid (putF l k n=(l.set (pos l k) (k,l[pos l k].2+n),true)):=zh (by unfold putF; rw [if_pos ⟨hlt,by rw [hgd]; exact hkk⟩,hgd,if_neg hbig])
   have Hst:=zh (Hown2.out.stored (pos l k * 2+1) (.int .i64 (l[pos l k].2+n)))
   rw [hs] at Hst
   have RW:Hid (Row B w (w2.setCell ⟨g,pos l k * 2+1,none⟩ (.int .i64 (l[pos l k].2+n))) (.slice (some ⟨g,0,none⟩) l.length c) (l.set (pos l k) (k,l[pos l k].2+n))):=zh ⟨by
    have:=Hst.out.1
    unfold OwnB
    rw [List.length_set]
    exact this,(Hb2.out.mono hB).trans (below_grown Hown2.out Hst.out.2 (by omega))⟩
   unfold mostN at hbig
   clear Hst hs
   generalize l[pos l k].2=y at *
   generalize hi:pos l k=i at *
   clear hge hkk hgd
   have hw:IntKind.i64.wrap (1099511627776 - n)=1099511627776 - n:=IntWalk.i64_in _ (by omega)
   have hw2:IntKind.i64.wrap (y+n)=y+n:=IntWalk.i64_in _ (by omega)
   have hb1':¬ 1099511627776<n:=by omega
   have hb2':¬ 1099511627776 - n<y:=by omega
   go_wp2
   go_ret2
   exact ⟨.slice (some ⟨g,0,none⟩) l.length c,by rw [F.out]; rfl,by rw [F.out]; exact RW.out⟩
 ·have hff:¬ (pos l k<l.length∧(l.getD (pos l k) (0,0)).1=k):=fun h=>hf (by unfold found; simpa using h)
  have F:Hid (putF l k n=(l.take (pos l k) ++ (k,n) :: l.drop (pos l k),decide (n≤mostN))):=zh (by unfold putF; rw [if_neg hff])
  have hf':found l k=false:=by simpa using hf
  have ci:=ins_any B (pos l k) w2.heap.size (.slice A l.length c) l k n (w2.alloc (.cells #[.int .i64 k,.int .i64 n] 91)) (World.ownsRow.alloc Hown2.out _) hpl hl (Blk.new _ _ _) (fun e=>by have:=(World.ownsRow.lt Hown2.out _ e).2; omega) (by rw [World.size_alloc]; omega)
  clear hff hf
  rw [hf']
  generalize pos l k=i at *
  go_wp2_with fail
  refine ci.mono ?_
  rintro e w3 ⟨v',rfl,hown3,hg3⟩
  have R3:Hid (Row B w w3 v' (l.take i ++ (k,n) :: l.drop i)):=zh ⟨hown3,(Hb2.out.mono hB).trans (((Below.refl _ _).alloc (by omega) _).trans (below_grown (World.ownsRow.alloc Hown2.out _) hg3 (by rw [World.size_alloc]; omega)))⟩
  clear hown3 hg3 ci
  by_cases hm:n≤1099511627776
  ·go_wp2
   go_ret2
   exact ⟨v',by rw [F.out]; unfold mostN; rw [decide_eq_true hm]; rfl,by rw [F.out]; exact R3.out⟩
  ·go_wp2
   go_ret2
   exact ⟨v',by rw [F.out]; unfold mostN; rw [decide_eq_false (by omega)]; rfl,by rw [F.out]; exact R3.out⟩
end Go.Proofs.YtmomjpolkkbhnaaGreat.Hi
end

section
namespace Go.Proofs.YtmomjpolkkbhnaaGreat.Hi
open Go.RowKit
theorem fl_neg (n d:Int) (hd : 1≤d) (h:n.tmod d<0):n.tdiv d - 1=n / d:=by
 have h1:=Int.mul_tdiv_add_tmod n d
 have h2:=Int.lt_tmod_of_pos n (show 0<d by omega)
 have h3:n=d * (n.tdiv d - 1)+(n.tmod d+d):=by rw [Int.mul_sub]; omega
 have h4:n / d=(d * (n.tdiv d - 1)+(n.tmod d+d)) / d:=by rw [← h3]
 rw [h4,Int.add_comm,Int.add_mul_ediv_left _ _ (by omega),Int.ediv_eq_zero_of_lt (by omega) (by omega)]; omega
theorem fl_pos (n d:Int) (hd : 1≤d) (h:¬ n.tmod d<0):n.tdiv d=n / d:=by
 have h1:=Int.mul_tdiv_add_tmod n d
 have h2:=Int.tmod_lt_of_pos n (show 0<d by omega)
 have h4:n / d=(d * (n.tdiv d)+n.tmod d) / d:=by rw [h1]
 rw [h4,Int.add_comm,Int.add_mul_ediv_left _ _ (by omega),Int.ediv_eq_zero_of_lt (by omega) (by omega)]; omega
theorem td_b (n d:Int) (hd : 1≤d) (h1 : -9223372036854775808≤n) (h2:n≤9223372036854775807) : -9223372036854775808≤n.tdiv d∧n.tdiv d≤9223372036854775807:=by
 have:=Int.natAbs_tdiv_le_natAbs n d
 constructor
 ·rcases Int.le_total 0 n with h | h
  ·have:=Int.tdiv_nonneg h (show 0≤d by omega); omega
  ·have:=Int.natAbs_tdiv_le_natAbs n d; omega
 ·rcases Int.le_total 0 n with h | h
  ·have:=Int.natAbs_tdiv_le_natAbs n d; omega
  ·have:=Int.tdiv_nonneg (a:=-n) (b:=d) (by omega) (by omega)
   rw [Int.neg_tdiv] at this
   omega
theorem fl_b (n d:Int) (hd : 1≤d) (h1 : -9223372036854775808≤n) (h2:n≤9223372036854775807) : -9223372036854775808≤n / d∧n / d≤9223372036854775807:=by
 have a:=Int.le_ediv_of_mul_le (c:=d) (a:=-9223372036854775808) (b:=n) (by omega) (by omega)
 have b:=Int.ediv_lt_of_lt_mul (c:=d) (a:=n) (b:=9223372036854775808) (by omega) (by omega)
 omega
abbrev In64 (n:Int):Prop:=-9223372036854775808≤n∧n≤9223372036854775807
set_option maxHeartbeats 800000 in
theorem floor_any (n d:Int) (w:World) (hd : 1≤d) (hn:In64 n) (hd2:d≤9223372036854775807):Calls Tryz.prog 107 #[.int .i64 n,.int .i64 d] w fun e w'=>e=.returned (.int .i64 (n / d))∧w=w':=by
 have hb:=td_b n d hd hn.1 hn.2
 have hf:=fl_b n d hd hn.1 hn.2
 have h0:¬ d=0:=by omega
 have hw1:wrap64 (n.tdiv d)=n.tdiv d:=IntWalk.wrap64_in _ hb
 have hm1:=Int.tmod_lt_of_pos n (show 0<d by omega)
 have hm2:=Int.lt_tmod_of_pos n (show 0<d by omega)
 have hw2:wrap64 (n.tmod d)=n.tmod d:=IntWalk.wrap64_in _ (by omega)
 by_cases h:n.tmod d<0
 ·have e:=zh (fl_neg n d hd h)
  have hw3:wrap64 (n.tdiv d - 1)=n.tdiv d - 1:=IntWalk.wrap64_in _ (by rw [e.out]; exact hf)
  clear hm1 hm2 hf hb hn
  go_enter Tryz.func107,Tryz.ntmps107
  go_wp2
  go_ret
  exact ⟨by show Ending.returned (.int .i64 (wrap64 (n.tdiv d - 1)))=_; rw [hw3,e.out],rfl⟩
 ·have e:=zh (fl_pos n d hd h)
  clear hm1 hm2 hf hb hn
  go_enter Tryz.func107,Tryz.ntmps107
  go_wp2
  go_ret
  exact ⟨by show Ending.returned (.int .i64 (n.tdiv d))=_; rw [e.out],rfl⟩
end Go.Proofs.YtmomjpolkkbhnaaGreat.Hi
end
