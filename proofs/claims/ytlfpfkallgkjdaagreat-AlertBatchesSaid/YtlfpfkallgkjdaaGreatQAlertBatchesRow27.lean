/- match.Match: the walk. -/
import Derived.Test.YtlfpfkallgkjdaaGreatQAlertBatchesRow26
import Derived.Test.YtlfpfkallgkjdaaGreatQAlertBatchesRow0
set_option linter.unusedSimpArgs false
set_option maxRecDepth 20000
namespace Go.Proofs.YtlfpfkallgkjdaaGreat.Qy
open Go.RowKit Ut Tk
inductive QSz:Q→Prop where
 | mk {k:Int} {nm:ByteArray} {ws:List ByteArray} {l:List Q} (h1:ws.length≤8796093021952) (h2:l.length≤8796093021952) (h3:∀ x∈l,QSz x):QSz (.mk k nm ws l)
structure EvAt (w:World) (F:Option Addr) (fn:Nat) (fs:List (ByteArray × ByteArray)):Prop where
 rd:Reads w w.heap.size 2 F fn (fldC fs)
 len:fs.length=fn
 few:fn≤8796093021952
 sz:∀ f∈fs,f.2.size≤1048576
theorem EvAt.grow {w w':World} {F:Option Addr} {fn:Nat} {fs:List (ByteArray × ByteArray)} (h:EvAt w F fn fs) (hb:Below w.heap.size w w'):EvAt w' F fn fs:=⟨reads_grow hb h.rd,h.len,h.few,h.sz⟩
def MatchOk (fs:List (ByteArray × ByteArray)) (q:Q):Prop:=∀ (w:World) (a0 a1 a2 a3:Value) (t:Int) (F:Option Addr) (fn fc:Nat),QAt w w.heap.size q [a0,a1,a2,a3]→EvAt w F fn fs →
 Calls Tryz.prog 46 #[.agg #[a0,a1,a2,a3],.agg #[.int .i64 t,.slice F fn fc]] w fun e w'=>e=.returned (.bool (matchB fs q))∧Below w.heap.size w w'
structure EBox (w:World) (eb:Nat) (t:Int) (F:Option Addr) (fn fc:Nat):Prop where
 c0:w.cell? ⟨eb,0,none⟩=some (.int .i64 t)
 c1:w.cell? ⟨eb,1,none⟩=some (.slice F fn fc)
theorem EBox.grow {w w':World} {eb:Nat} {t:Int} {F:Option Addr} {fn fc:Nat} (h:EBox w eb t F fn fc) (hb:Below w.heap.size w w'):EBox w' eb t F fn fc:=by
 have hl:=World.block_lt_of_cell? w _ h.c0
 exact ⟨(hb.cell (p:=⟨eb,0,none⟩) hl).trans h.c0,(hb.cell (p:=⟨eb,1,none⟩) hl).trans h.c1⟩
set_option maxHeartbeats 800000 in
theorem fits_any (fs:List (ByteArray × ByteArray)) (q:Q) (ih:MatchOk fs q) (eb:Nat) (t:Int) (F:Option Addr) (fn fc:Nat) (w:World) (a0 a1 a2 a3:Value) (hq:QAt w w.heap.size q [a0,a1,a2,a3]) (hE:EBox w eb t F fn fc) (hF:EvAt w F fn fs) :
  Calls Tryz.prog 81 #[.agg #[a0,a1,a2,a3],.pointer (some ⟨eb,0,none⟩)] w fun e w'=>e=.returned (.bool (matchB fs q))∧Below w.heap.size w w':=by
 obtain ⟨k,nm,ws,l⟩:=q
 obtain ⟨A,n,c,C,m,d,e,_⟩:=hq.is
 simp only [List.cons.injEq,and_true] at e
 obtain ⟨rfl,rfl,rfl,rfl⟩:=e
 have hb:Below w.heap.size w (w.alloc (.cells #[.int .i64 k,.string nm,.slice A n c,.slice C m d] 52)):=(Below.refl _ _).alloc (zG _) _
 have c1:=ih _ _ _ _ _ t F fn fc (hq.grow hb) (hF.grow hb)
 have h0:=hE.c0
 have h1:=hE.c1
 have Hb:=zh hb
 have hl:=World.block_lt_of_cell? w _ h0
 clear hq hE hF ih hb
 generalize matchB fs (.mk k nm ws l)=r at *
 go_enter Tryz.func81,Tryz.ntmps81
 go_wp2_with fail
 refine c1.mono ?_
 rintro e w1 ⟨rfl,hb1⟩
 have Hb1:=zh (Hb.out.trans (hb1.mono Hb.out.size))
 clear hb1 c1
 go_wp2
 go_ret
 exact ⟨rfl,Hb1.out⟩
set_option maxHeartbeats 800000 in
theorem nots_any (fs:List (ByteArray × ByteArray)) (q:Q) (ih:MatchOk fs q) (fb eb:Nat) (t:Int) (F:Option Addr) (fn fc:Nat) (w:World) (a0 a1 a2 a3:Value) (hq:QAt w w.heap.size q [a0,a1,a2,a3]) (hE:EBox w eb t F fn fc) (hF:EvAt w F fn fs)
  (hfb:w.cell? ⟨fb,0,none⟩=some (.func (.func 81) #[] #[.pointer (some ⟨eb,0,none⟩)])) :
  Calls Tryz.prog 84 #[.agg #[a0,a1,a2,a3],.pointer (some ⟨fb,0,none⟩)] w fun e w'=>e=.returned (.bool (!matchB fs q))∧Below w.heap.size w w':=by
 obtain ⟨k,nm,ws,l⟩:=q
 obtain ⟨A,n,c,C,m,d,e,_⟩:=hq.is
 simp only [List.cons.injEq,and_true] at e
 obtain ⟨rfl,rfl,rfl,rfl⟩:=e
 have hb:Below w.heap.size w (w.alloc (.cells #[.int .i64 k,.string nm,.slice A n c,.slice C m d] 52)):=(Below.refl _ _).alloc (zG _) _
 have c1:=fits_any fs _ ih eb t F fn fc _ _ _ _ _ (hq.grow hb) (hE.grow hb) (hF.grow hb)
 have Hb:=zh hb
 have hl:=World.block_lt_of_cell? w _ hfb
 clear hq hE hF ih hb
 generalize matchB fs (.mk k nm ws l)=r at *
 go_enter Tryz.func84,Tryz.ntmps84
 go_wp2_with fail
 refine c1.mono ?_
 rintro e w1 ⟨rfl,hb1⟩
 have Hb1:=zh (Hb.out.trans (hb1.mono Hb.out.size))
 clear hb1 c1
 go_wp2
 go_ret
 exact ⟨rfl,Hb1.out⟩
theorem not_any_not {α:Type} (l:List α) (g : α→Bool):(!l.any fun x=>!g x)=l.all g:=by
 rw [List.all_eq_not_any_not]
set_option maxHeartbeats 3200000 in
theorem match_step (fs:List (ByteArray × ByteArray)) (k:Int) (nm:ByteArray) (ws:List ByteArray) (l:List Q) (hl2:ws.length≤8796093021952) (hl3:l.length≤8796093021952) (ih:∀ x∈l,MatchOk fs x):MatchOk fs (.mk k nm ws l):=by
 intro w a0 a1 a2 a3 t F fn fc hq hF
 obtain ⟨WA,m,wc,CA,n,c2,e,hI⟩:=hq.is
 simp only [List.cons.injEq,and_true] at e
 obtain ⟨rfl,rfl,rfl,rfl⟩:=e
 have hbq:Below w.heap.size w (w.alloc (.cells #[.int .i64 k,.string nm,.slice WA m wc,.slice CA n c2] 52)):=(Below.refl _ _).alloc (zG _) _
 have hbe:Below w.heap.size w ((w.alloc (.cells #[.int .i64 k,.string nm,.slice WA m wc,.slice CA n c2] 52)).alloc (.cells #[.int .i64 t,.slice F fn fc] 33)):=hbq.alloc hbq.size _
 have hb5:Below w.heap.size w (((w.alloc (.cells #[.int .i64 k,.string nm,.slice WA m wc,.slice CA n c2] 52)).alloc (.cells #[.int .i64 t,.slice F fn fc] 33)).alloc (.cells #[.func (.func 81) #[] #[.pointer (some ⟨w.heap.size+1,0,none⟩)]] 119)):=hbe.alloc hbe.size _
 have z1:(w.alloc (.cells #[.int .i64 k,.string nm,.slice WA m wc,.slice CA n c2] 52)).heap.size=w.heap.size+1:=by simp
 have z2:((w.alloc (.cells #[.int .i64 k,.string nm,.slice WA m wc,.slice CA n c2] 52)).alloc (.cells #[.int .i64 t,.slice F fn fc] 33)).heap.size=w.heap.size+1+1:=by simp
 have hQ5:=(((Blk.new w 52 #[.int .i64 k,.string nm,.slice WA m wc,.slice CA n c2]).alloc (.cells #[.int .i64 t,.slice F fn fc] 33)).alloc (.cells #[.func (.func 81) #[] #[.pointer (some ⟨w.heap.size+1,0,none⟩)]] 119))
 have hE5:EBox (((w.alloc (.cells #[.int .i64 k,.string nm,.slice WA m wc,.slice CA n c2] 52)).alloc (.cells #[.int .i64 t,.slice F fn fc] 33)).alloc (.cells #[.func (.func 81) #[] #[.pointer (some ⟨w.heap.size+1,0,none⟩)]] 119)) (w.heap.size+1) t F fn fc:=by
  have h:=((Blk.new (w.alloc (.cells #[.int .i64 k,.string nm,.slice WA m wc,.slice CA n c2] 52)) 33 #[.int .i64 t,.slice F fn fc]).alloc (.cells #[.func (.func 81) #[] #[.pointer (some ⟨w.heap.size+1,0,none⟩)]] 119))
  rw [z1] at h
  exact ⟨h.cell 0,h.cell 1⟩
 have hF5:((((w.alloc (.cells #[.int .i64 k,.string nm,.slice WA m wc,.slice CA n c2] 52)).alloc (.cells #[.int .i64 t,.slice F fn fc] 33)).alloc (.cells #[.func (.func 81) #[] #[.pointer (some ⟨w.heap.size+1,0,none⟩)]] 119))).cell? ⟨w.heap.size+1+1,0,none⟩=some (.func (.func 81) #[] #[.pointer (some ⟨w.heap.size+1,0,none⟩)]):=by
  have h:=Blk.new ((w.alloc (.cells #[.int .i64 k,.string nm,.slice WA m wc,.slice CA n c2] 52)).alloc (.cells #[.int .i64 t,.slice F fn fc] 33)) 119 #[.func (.func 81) #[] #[.pointer (some ⟨w.heap.size+1,0,none⟩)]]
  rw [z2] at h
  exact h.cell 0
 have hEv:=hF.grow hb5
 have hq5:=hq.grow hb5
 obtain ⟨WA',m',wc',CA',n',c2',e,hI5⟩:=hq5.is
 simp only [List.cons.injEq,Value.slice.injEq,and_true,true_and] at e
 obtain ⟨⟨rfl,rfl,rfl⟩,rfl,rfl,rfl⟩:=e
 have Hb5:=zh hb5
 by_cases k1:k=1
 ·subst k1
  have Fin:Hid (matchB fs (.mk 1 nm ws l)=true):=zh (by rw [matchB_eq]; simp)
  rw [Fin.out]
  clear hq hF hI hbq hbe hb5 hQ5 hE5 hF5 hEv hq5 hI5 ih
  go_enter Tryz.func46,Tryz.ntmps46
  go_wp2
  go_ret
  exact ⟨rfl,Hb5.out⟩
 by_cases k234:k=2∨k=3∨k=4
 ·have Fin:Hid (matchB fs (.mk k nm ws l)=leafB k nm ws fs):=zh (by rw [matchB_eq,if_neg k1,if_pos k234])
  have c1:=leaf_any k nm ws WA CA m wc n c2 t F fn fc fs _ k234 hI5.wds hI5.wn (by rw [← hI5.wn]; exact hl2) hEv.rd hEv.len hEv.few hEv.sz
  rw [Fin.out]
  have C1:=zh c1
  clear hq hF hI hbq hbe hb5 hQ5 hE5 hF5 hEv hq5 hI5 ih c1 Fin
  generalize leafB k nm ws fs=r at *
  rcases k234 with rfl | rfl | rfl
  all_goals
   clear k1
   go_enter Tryz.func46,Tryz.ntmps46
   go_wp2_with (go_at_call 82; refine C1.out.mono ?_; rintro e w1 ⟨rfl,hb1⟩)
   go_ret
   exact ⟨rfl,Hb5.out.trans (hb1.mono Hb5.out.size)⟩
 by_cases k5:k=5
 ·subst k5
  have Fin:Hid (matchB fs (.mk 5 nm ws l)=l.all (matchB fs)):=zh (by rw [matchB_eq]; simp)
  have c1:=containsQry CA n c2 5 nm ws WA m l 84 #[.pointer (some ⟨w.heap.size+1+1,0,none⟩)] (fun i=>(l[i]?).any (fun x=>!matchB fs x)) _ (fun args wx=>callFunc_enter Tryz.func84 (by kernel_rfl) rfl args wx)
   hI5 hI5.lm (by rw [← hI5.lm]; exact hl3) (fun i h b0 b1 b2 b3 wx hqx hbx=>by
    have c:=nots_any fs l[i] (ih _ (List.getElem_mem h)) (w.heap.size+1+1) (w.heap.size+1) t F fn fc wx b0 b1 b2 b3 (hqx.grow hbx) (hE5.grow hbx) (hEv.grow hbx) ((hbx.cell (p:=⟨w.heap.size+1+1,0,none⟩) (by simp)).trans hF5)
    rw [List.getElem?_eq_getElem h]
    simpa using c)
  have e:=any_idx l (fun x=>!matchB fs x)
  rw [hI5.lm] at e
  rw [e] at c1
  have Fin2:=zh (not_any_not l (matchB fs))
  rw [Fin.out,← Fin2.out]
  have C1:=zh c1
  clear hq hF hI hbq hbe hb5 hQ5 hE5 hF5 hEv hq5 hI5 ih c1 Fin e k1 k234 Fin2
  generalize (l.any fun x=>!matchB fs x)=r at *
  go_enter Tryz.func46,Tryz.ntmps46
  go_wp2_with (go_at_call 83; refine C1.out.mono ?_; rintro e w1 ⟨rfl,hb1⟩)
  go_ret
  exact ⟨rfl,Hb5.out.trans (hb1.mono Hb5.out.size)⟩
 by_cases k6:k=6
 ·subst k6
  have Fin:Hid (matchB fs (.mk 6 nm ws l)=l.any (matchB fs)):=zh (by rw [matchB_eq]; simp)
  have c1:=containsQry CA n c2 6 nm ws WA m l 81 #[.pointer (some ⟨w.heap.size+1,0,none⟩)] (fun i=>(l[i]?).any (fun x=>matchB fs x)) _ (fun args wx=>callFunc_enter Tryz.func81 (by kernel_rfl) rfl args wx)
   hI5 hI5.lm (by rw [← hI5.lm]; exact hl3) (fun i h b0 b1 b2 b3 wx hqx hbx=>by
    have c:=fits_any fs l[i] (ih _ (List.getElem_mem h)) (w.heap.size+1) t F fn fc wx b0 b1 b2 b3 (hqx.grow hbx) (hE5.grow hbx) (hEv.grow hbx)
    rw [List.getElem?_eq_getElem h]
    simpa using c)
  have e:=any_idx l (fun x=>matchB fs x)
  rw [hI5.lm] at e
  rw [e] at c1
  rw [Fin.out]
  have C1:=zh c1
  clear hq hF hI hbq hbe hb5 hQ5 hE5 hF5 hEv hq5 hI5 ih c1 Fin e k1 k234 k5
  generalize (l.any fun x=>matchB fs x)=r at *
  go_enter Tryz.func46,Tryz.ntmps46
  go_wp2_with (go_at_call 83; refine C1.out.mono ?_; rintro e w1 ⟨rfl,hb1⟩)
  go_ret
  exact ⟨rfl,Hb5.out.trans (hb1.mono Hb5.out.size)⟩
 by_cases k7:k=7
 ·subst k7
  have Fin:Hid (matchB fs (.mk 7 nm ws l)=matchNone fs l):=zh (by rw [matchB_eq]; simp)
  rw [Fin.out]
  have hcells:∀ wx,Below (World.heap (((w.alloc (.cells #[.int .i64 7,.string nm,.slice WA m wc,.slice CA n c2] 52)).alloc (.cells #[.int .i64 t,.slice F fn fc] 33)).alloc (.cells #[.func (.func 81) #[] #[.pointer (some ⟨w.heap.size+1,0,none⟩)]] 119))).size (((w.alloc (.cells #[.int .i64 7,.string nm,.slice WA m wc,.slice CA n c2] 52)).alloc (.cells #[.int .i64 t,.slice F fn fc] 33)).alloc (.cells #[.func (.func 81) #[] #[.pointer (some ⟨w.heap.size+1,0,none⟩)]] 119)) wx→wx.cell? ⟨w.heap.size,3,none⟩=some (.slice CA n c2)∧wx.cell? ⟨w.heap.size+1+1,0,none⟩=some (.func (.func 81) #[] #[.pointer (some ⟨w.heap.size+1,0,none⟩)]):=fun wx hC =>
   ⟨(hC.cell (p:=⟨w.heap.size,3,none⟩) (by simp; omega)).trans (hQ5.cell 3),(hC.cell (p:=⟨w.heap.size+1+1,0,none⟩) (by simp)).trans hF5⟩
  have hcells':=zh hcells
  have hmn:=hI5.lm
  by_cases hn1:n=1
  ·obtain ⟨x,rfl⟩:∃ x,l=[x]:=List.length_eq_one_iff.1 (by omega)
   obtain ⟨tb,tq,A',n',c',C',m',d',e1,htb,hqx,g0,g1,g2,g3⟩:=hI5.at_ (i:=0) (by simp)
   subst e1
   obtain rfl:n=1:=hn1
   have hx:=ih x (by simp)
   simp only [List.getElem_cons_zero,Nat.zero_mul,Nat.add_zero] at hqx g0 g1 g2 g3
   have hcells2:∀ wx,Below (World.heap (((w.alloc (.cells #[.int .i64 7,.string nm,.slice WA m wc,.slice (some ⟨tb,tq,none⟩) 1 c2] 52)).alloc (.cells #[.int .i64 t,.slice F fn fc] 33)).alloc (.cells #[.func (.func 81) #[] #[.pointer (some ⟨w.heap.size+1,0,none⟩)]] 119))).size (((w.alloc (.cells #[.int .i64 7,.string nm,.slice WA m wc,.slice (some ⟨tb,tq,none⟩) 1 c2] 52)).alloc (.cells #[.int .i64 t,.slice F fn fc] 33)).alloc (.cells #[.func (.func 81) #[] #[.pointer (some ⟨w.heap.size+1,0,none⟩)]] 119)) wx→wx.cell? ⟨w.heap.size,3,none⟩=some (.slice (some ⟨tb,tq,none⟩) 1 c2)∧wx.cell? ⟨w.heap.size+1+1,0,none⟩=some (.func (.func 81) #[] #[.pointer (some ⟨w.heap.size+1,0,none⟩)]) ∧
     wx.cell? ⟨tb,tq,none⟩=some (.int .i64 x.kind)∧wx.cell? ⟨tb,tq+1,none⟩=some (.string x.name)∧wx.cell? ⟨tb,tq+2,none⟩=some (.slice A' n' c')∧wx.cell? ⟨tb,tq+3,none⟩=some (.slice C' m' d'):=fun wx hC =>
    ⟨(hcells wx hC).1,(hcells wx hC).2,(hC.cell (p:=⟨tb,tq,none⟩) htb).trans g0,(hC.cell (p:=⟨tb,tq+1,none⟩) htb).trans g1,(hC.cell (p:=⟨tb,tq+2,none⟩) htb).trans g2,(hC.cell (p:=⟨tb,tq+3,none⟩) htb).trans g3⟩
   have c1:=fun wx (hC:Below (World.heap (((w.alloc (.cells #[.int .i64 7,.string nm,.slice WA m wc,.slice (some ⟨tb,tq,none⟩) 1 c2] 52)).alloc (.cells #[.int .i64 t,.slice F fn fc] 33)).alloc (.cells #[.func (.func 81) #[] #[.pointer (some ⟨w.heap.size+1,0,none⟩)]] 119))).size (((w.alloc (.cells #[.int .i64 7,.string nm,.slice WA m wc,.slice (some ⟨tb,tq,none⟩) 1 c2] 52)).alloc (.cells #[.int .i64 t,.slice F fn fc] 33)).alloc (.cells #[.func (.func 81) #[] #[.pointer (some ⟨w.heap.size+1,0,none⟩)]] 119)) wx)=>fits_any fs x hx (w.heap.size+1) t F fn fc wx _ _ _ _ (hqx.grow hC) (hE5.grow hC) (hEv.grow hC)
   have hN:matchNone fs [x]=!matchB fs x:=by rw [matchNone]
   rw [hN]
   have C1:=zh c1
   have hcells2':=zh hcells2
   clear hq hF hI hbq hbe hb5 hQ5 hE5 hF5 hEv hq5 hI5 ih c1 Fin k1 k234 k5 k6 hcells hcells2 hcells' hN hqx g0 g1 g2 g3 hx hmn
   generalize matchB fs x=r at *
   generalize x.kind=x0 at *
   generalize x.name=x1 at *
   go_enter Tryz.func46,Tryz.ntmps46
   go_wp2_with fail
   refine wp_region_grow (specOf [(10,⟨Unit,fun _=>(.bool r),fun _ _=>True⟩)]) (fun wx=>Below (World.heap (((w.alloc (.cells #[.int .i64 7,.string nm,.slice WA m wc,.slice (some ⟨tb,tq,none⟩) 1 c2] 52)).alloc (.cells #[.int .i64 t,.slice F fn fc] 33)).alloc (.cells #[.func (.func 81) #[] #[.pointer (some ⟨w.heap.size+1,0,none⟩)]] 119))).size (((w.alloc (.cells #[.int .i64 7,.string nm,.slice WA m wc,.slice (some ⟨tb,tq,none⟩) 1 c2] 52)).alloc (.cells #[.int .i64 t,.slice F fn fc] 33)).alloc (.cells #[.func (.func 81) #[] #[.pointer (some ⟨w.heap.size+1,0,none⟩)]] 119)) wx) (fun w1 w2=>Below w1.heap.size w1 w2) (by kernel_rfl) (by kernel_rfl) (stab_cons (fun _ _ _ _ h=>h) (stab_nil)) (Below.refl _ _).drew ?_
   iterate 10
    refine grow_fix _ ?_ rfl (by rfl) (by rfl) (fun wx hC hD=>?_) ?_
    rotate_left
    ·have hSw:=hcells2'.out wx hC
     go_simp
     all_goals with_reducible rfl
    try simp only [Act.put,zD,zE,zF]
   refine grow_give 11 _ rfl (by rfl) (by rfl) (fun wx hC hD=>?_) (fun x=>?_)
   ·refine give_enter (f:=?_) (args:=?_) ?_ ?_
    rotate_left 2
    ·have hSw:=hcells2'.out wx hC
     go_simp
     all_goals first | with_reducible rfl | (refine ⟨?_,?_⟩ <;> with_reducible rfl)
    exact calls_cst hC (C1.out wx hC)
   obtain ⟨⟩:=x
   try simp only [Act.put,zD,zE,zF]
   iterate 3
    refine grow_fix _ ?_ rfl (by rfl) (by rfl) (fun wx hC hD=>?_) ?_
    rotate_left
    ·have hSw:=hcells2'.out wx hC
     go_simp
     all_goals with_reducible rfl
    try simp only [Act.put,zD,zE,zF]
   refine grow_nil (fun w2 hC hF=>?_)
   have Hb:=zh (Hb5.out.trans (hC.mono Hb5.out.size))
   clear hF hC
   go_wp2
   go_ret
   exact ⟨rfl,Hb.out⟩
  ·have hn1':((n:Int) == 1)=false:=by rw [beq_eq_false_iff_ne]; omega
   have hN:matchNone fs l=false:=by
    unfold matchNone
    split
    ·exact absurd hmn (by simp; omega)
    ·rfl
   rw [hN]
   clear hq hF hI hbq hbe hb5 hQ5 hE5 hF5 hEv hq5 hI5 ih Fin k1 k234 k5 k6 hcells hN hmn hn1
   go_enter Tryz.func46,Tryz.ntmps46
   go_wp2_with fail
   refine wp_region_grow (specOf []) (fun wx=>Below (World.heap (((w.alloc (.cells #[.int .i64 7,.string nm,.slice WA m wc,.slice CA n c2] 52)).alloc (.cells #[.int .i64 t,.slice F fn fc] 33)).alloc (.cells #[.func (.func 81) #[] #[.pointer (some ⟨w.heap.size+1,0,none⟩)]] 119))).size (((w.alloc (.cells #[.int .i64 7,.string nm,.slice WA m wc,.slice CA n c2] 52)).alloc (.cells #[.int .i64 t,.slice F fn fc] 33)).alloc (.cells #[.func (.func 81) #[] #[.pointer (some ⟨w.heap.size+1,0,none⟩)]] 119)) wx) (fun w1 w2=>Below w1.heap.size w1 w2) (by kernel_rfl) (by kernel_rfl) (stab_nil) (Below.refl _ _).drew ?_
   iterate 5
    refine grow_fix _ ?_ rfl (by rfl) (by rfl) (fun wx hC hD=>?_) ?_
    rotate_left
    ·have hSw:=hcells'.out wx hC
     go_simp
     all_goals with_reducible rfl
    try simp only [Act.put,zD,zE,zF]
   refine grow_skip 6 (some false) true rfl (by rfl) (by rfl) (by rfl) ?_
   try simp only [Act.put,zD,zE,zF]
   refine grow_skip 7 (some false) true rfl (by rfl) (by rfl) (by rfl) ?_
   try simp only [Act.put,zD,zE,zF]
   refine grow_skip 8 (some false) true rfl (by rfl) (by rfl) (by rfl) ?_
   try simp only [Act.put,zD,zE,zF]
   refine grow_skip 9 (some false) true rfl (by rfl) (by rfl) (by rfl) ?_
   try simp only [Act.put,zD,zE,zF]
   refine grow_skip 10 (some false) true rfl (by rfl) (by rfl) (by rfl) ?_
   try simp only [Act.put,zD,zE,zF]
   refine grow_skip 11 (some false) true rfl (by rfl) (by rfl) (by rfl) ?_
   try simp only [Act.put,zD,zE,zF]
   refine grow_skip 12 (some false) true rfl (by rfl) (by rfl) (by rfl) ?_
   try simp only [Act.put,zD,zE,zF]
   iterate 2
    refine grow_fix _ ?_ rfl (by rfl) (by rfl) (fun wx hC hD=>?_) ?_
    rotate_left
    ·have hSw:=hcells'.out wx hC
     go_simp
     all_goals with_reducible rfl
    try simp only [Act.put,zD,zE,zF]
   refine grow_nil (fun w2 hC hF=>?_)
   have Hb:=zh (Hb5.out.trans (hC.mono Hb5.out.size))
   clear hF hC
   go_wp2
   go_ret
   exact ⟨rfl,Hb.out⟩
 ·have Fin:Hid (matchB fs (.mk k nm ws l)=false):=zh (by rw [matchB_eq,if_neg k1,if_neg k234,if_neg k5,if_neg k6,if_neg k7])
  rw [Fin.out]
  have j1:(k == 1)=false:=by rw [beq_eq_false_iff_ne]; omega
  have j2:(k == 2)=false:=by rw [beq_eq_false_iff_ne]; omega
  have j3:(k == 3)=false:=by rw [beq_eq_false_iff_ne]; omega
  have j4:(k == 4)=false:=by rw [beq_eq_false_iff_ne]; omega
  have j5:(k == 5)=false:=by rw [beq_eq_false_iff_ne]; omega
  have j6:(k == 6)=false:=by rw [beq_eq_false_iff_ne]; omega
  have j7:(k == 7)=false:=by rw [beq_eq_false_iff_ne]; omega
  clear hq hF hI hbq hbe hb5 hQ5 hE5 hF5 hEv hq5 hI5 ih Fin k1 k234 k5 k6 k7
  go_enter Tryz.func46,Tryz.ntmps46
  go_wp2
  go_ret
  exact ⟨rfl,Hb5.out⟩
theorem match_any (fs:List (ByteArray × ByteArray)):∀ q,QSz q→MatchOk fs q:=by
 intro q
 refine Q.ind (p:=fun q=>QSz q→MatchOk fs q) ?_ q
 intro k nm ws l ih hs
 cases hs with
 | mk h1 h2 h3=>exact match_step fs k nm ws l h1 h2 (fun x hx=>ih x hx (h3 x hx))
end Go.Proofs.YtlfpfkallgkjdaaGreat.Qy


