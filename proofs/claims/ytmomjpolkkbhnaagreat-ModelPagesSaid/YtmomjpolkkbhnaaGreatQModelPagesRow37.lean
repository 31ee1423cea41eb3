/- The walks: a bucket's place (slices.BinarySearchFunc, by a closure). -/
import Derived.Test.YtmomjpolkkbhnaaGreatProg
import Derived.Lib.Hide
import Derived.Outline
import Derived.Laws.CopyRow
import Derived.Laws.OwnMore
import Derived.Lib.AppendZerosOnto
import Derived.Lib.Overlaps
import Derived.Lib.SlBuf
import Derived.Laws.Externs
import Derived.Deep.RegionLaw
import Derived.Deep.RegionHeld3
import Derived.Test.YtmomjpolkkbhnaaGreatQModelPagesRow14
import Derived.Test.YtmomjpolkkbhnaaGreatQModelPagesRow0
set_option maxRecDepth 20000
section
namespace Go.Proofs.YtmomjpolkkbhnaaGreat.Hi
open Go.RowKit
theorem isNaN_any (n:Int) (w:World):Calls Tryz.prog 130 #[.int .i64 n] w fun e w'=>e=.returned (.bool false)∧w=w':=by
 go_enter Tryz.func130,Tryz.ntmps130
 go_wp2
 go_ret
 exact ⟨by simp,rfl⟩
def cmpI (a b:Int):Int:=if a<b then -1 else if b<a then 1 else 0
set_option maxHeartbeats 400000 in
theorem compare_any (a b:Int) (w:World):Calls Tryz.prog 105 #[.int .i64 a,.int .i64 b] w fun e w'=>e=.returned (.int .i64 (cmpI a b))∧w=w':=by
 have c1:=isNaN_any a w
 have c2:=isNaN_any b w
 go_enter Tryz.func105,Tryz.ntmps105
 go_wp2_with fail
 refine c1.mono ?_
 rintro e w' ⟨rfl,rfl⟩
 go_wp2_with fail
 refine c2.mono ?_
 rintro e w' ⟨rfl,rfl⟩
 rcases Int.lt_trichotomy a b with h | h | h
 ·have E:Hid (cmpI a b=-1):=zh (by unfold cmpI; rw [if_pos h])
  go_wp2
  go_ret
  exact ⟨by rw [E.out]; rfl,rfl⟩
 ·subst h
  have E:Hid (cmpI a a=0):=zh (by unfold cmpI; rw [if_neg (by omega),if_neg (by omega)])
  go_wp2
  go_ret
  exact ⟨by rw [E.out]; rfl,rfl⟩
 ·have E:Hid (cmpI a b=1):=zh (by unfold cmpI; rw [if_neg (by omega),if_pos h])
  have h':¬ a<b:=by omega
  go_wp2
  go_ret
  exact ⟨by rw [E.out]; rfl,rfl⟩
theorem k_any (a b:Int) (w:World):Calls Tryz.prog 133 #[.agg #[.int .i64 a,.int .i64 b]] w fun e w'=>e=.returned (.int .i64 a)∧Below w.heap.size w w':=by
 go_enter Tryz.func133,Tryz.ntmps133
 go_wp2
 go_ret
 exact ⟨rfl,(Below.refl _ _).alloc (zG _) _⟩
def kF:Value:=.func (.func 133) #[] #[]
def cloF (p:Nat):Value:=.func (.func 155) #[] #[.pointer (some ⟨p,0,none⟩)]
theorem by_any (w:World):Calls Tryz.prog 132 #[kF] w fun e w'=>e=.returned (cloF w.heap.size)∧Below w.heap.size w w'∧w'.cell? ⟨w.heap.size,0,none⟩=some kF:=by
 unfold kF cloF
 have h0:=(Blk.new w 183 #[.func (.func 133) #[] #[]]).cell 0
 go_enter Tryz.func132,Tryz.ntmps132
 go_wp2
 go_ret
 exact ⟨rfl,(Below.refl _ _).alloc (zG _) _,h0⟩
set_option maxHeartbeats 400000 in
theorem clo_any (p:Nat) (a b t:Int) (w:World) (hp:w.cell? ⟨p,0,none⟩=some kF):Calls Tryz.prog 155 #[.agg #[.int .i64 a,.int .i64 b],.int .i64 t,.pointer (some ⟨p,0,none⟩)] w fun e w'=>e=.returned (.int .i64 (cmpI a t))∧Below w.heap.size w w':=by
 have hpl:=World.block_lt_of_cell? w _ hp
 unfold kF at hp
 have hne:¬ p=w.heap.size:=by have:p<w.heap.size:=hpl; omega
 go_enter Tryz.func155,Tryz.ntmps155
 go_wp2_with fail
 refine (k_any a b _).mono ?_
 rintro e w2 ⟨rfl,hb2⟩
 have Hb2:=zh (((Below.refl _ _).alloc (zG _) _).trans (hb2.mono (by simp)))
 clear hb2
 go_wp2_with fail
 refine (compare_any a t _).mono ?_
 rintro e w' ⟨rfl,rfl⟩
 go_wp2
 go_ret
 exact ⟨rfl,Hb2.out⟩
theorem cmpI_lt {a b:Int} (h:a<b):cmpI a b=-1:=by unfold cmpI; rw [if_pos h]
theorem cmpI_eq (a:Int):cmpI a a=0:=by unfold cmpI; rw [if_neg (by omega),if_neg (by omega)]
theorem cmpI_gt {a b:Int} (h:b<a):cmpI a b=1:=by unfold cmpI; rw [if_neg (by omega),if_pos h]
set_option maxHeartbeats 1600000 in
theorem search_any (A:Option Addr) (c B p:Nat) (l:List Bk) (t:Int) (w:World) (hR:Reads w B 2 A l.length (bkC l)) (hB:B≤w.heap.size) (hp:w.cell? ⟨p,0,none⟩=some kF) (hup:Up l) (hl:l.length≤1000000000) :
  Calls Tryz.prog 131 #[.slice A l.length c,.int .i64 t,cloF p] w fun e w'=>e=.returned (.tuple #[.int .i64 (pos l t:Nat),.bool (found l t)])∧Below w.heap.size w w':=by
 have HR:=zh hR
 have Hup:=zh hup.lt
 have hpl:=World.block_lt_of_cell? w _ hp
 unfold cloF
 clear hR hup
 go_enter Tryz.func131,Tryz.ntmps131
 go_wp2
 go_loopw [9,10] (fun i j wr=>∃ a b:Nat,a≤b∧b≤l.length∧i=.int .i64 a∧j=.int .i64 b∧(∀ x (h:x<a),∃ h:x<l.length,l[x].1<t)∧(∀ h:b<l.length,t≤l[b].1)∧Below w.heap.size w wr) (fun i j _=>(intOf j).toNat - (intOf i).toNat)
 case atStart=>exact ⟨0,l.length,Nat.zero_le _,zG _,rfl,rfl,fun x h=>by omega,fun h=>by omega,Below.refl _ _⟩
 case round =>
  obtain ⟨a,b,hab,hbl,rfl,rfl,h1,h2,hb⟩:=hrel
  by_cases hlt:a<b
  ·have hm:(a+b) / 2<l.length:=by omega
   obtain ⟨bb,o,rfl,hbb,hc1,hc2⟩:=bks_at HR.out rfl hm
   have d1:=(hb.cell (p:=⟨bb,o+(a+b) / 2 * 2,none⟩) (Nat.lt_of_lt_of_le hbb hB)).trans hc1
   have d2:=(hb.cell (p:=⟨bb,o+(a+b) / 2 * 2+1,none⟩) (Nat.lt_of_lt_of_le hbb hB)).trans hc2
   have hp':=(hb.cell (p:=⟨p,0,none⟩) hpl).trans hp
   have cc:=clo_any p l[(a+b) / 2].1 l[(a+b) / 2].2 t wr hp'
   have H1:=zh h1
   have H2:=zh h2
   have Hb:=zh hb
   clear hc1 hc2 h1 h2 hb
   by_cases hlm:l[(a+b) / 2].1<t
   ·rw [cmpI_lt hlm] at cc
    have H1':Hid (∀ x (h:x<(a+b) / 2+1),∃ h:x<l.length,l[x].1<t):=zh (fun x h=>⟨by omega,by
     by_cases e:x=(a+b) / 2
     ·subst e; exact hlm
     ·have:=Hup.out x ((a+b) / 2) (by omega) hm; omega⟩)
    clear hlm
    generalize l[(a+b) / 2].1=u at *
    generalize l[(a+b) / 2].2=v at *
    go_wp2_with fail
    refine cc.mono ?_
    rintro e w2 ⟨rfl,hb2⟩
    have Hb2:=zh (Hb.out.trans (hb2.mono Hb.out.size))
    clear hb2 cc
    go_wp2
    go_roundw
    case rel=>exact ⟨(a+b) / 2+1,b,by omega,hbl,by go_num,rfl,H1'.out,H2.out,Hb2.out⟩
    case measure=>simp [intOf]; omega
   ·have hcm:cmpI l[(a+b) / 2].1 t=0∨cmpI l[(a+b) / 2].1 t=1:=by
     rcases Int.lt_trichotomy l[(a+b) / 2].1 t with h | h | h
     ·exact absurd h hlm
     ·rw [h]; exact .inl (cmpI_eq t)
     ·exact .inr (cmpI_gt h)
    have H2':Hid (∀ h:(a+b) / 2<l.length,t≤l[(a+b) / 2].1):=zh (fun _=>by omega)
    clear hlm
    generalize cmpI l[(a+b) / 2].1 t=z at *
    generalize l[(a+b) / 2].1=u at *
    generalize l[(a+b) / 2].2=v at *
    have hz:¬ z<0:=by omega
    clear hcm
    go_wp2_with fail
    refine cc.mono ?_
    rintro e w2 ⟨rfl,hb2⟩
    have Hb2:=zh (Hb.out.trans (hb2.mono Hb.out.size))
    clear hb2 cc
    go_wp2
    go_roundw
    case rel=>exact ⟨a,(a+b) / 2,by omega,by omega,rfl,by go_num,H1.out,H2'.out,Hb2.out⟩
    case measure=>simp [intOf]; omega
  ·obtain rfl:a=b:=by omega
   have hpos:pos l t=a:=pos_eq l t a hbl (fun x h=>(h1 x h).2) h2
   have F:Hid (found l t=(decide (a<l.length) && decide ((l.getD a (0,0)).1=t))):=zh (by unfold found; rw [hpos])
   have Hpos:=zh hpos
   clear hpos h1
   by_cases hal:a<l.length
   ·have h2a:=h2 hal
    obtain ⟨bb,o,rfl,hbb,hc1,hc2⟩:=bks_at HR.out rfl hal
    have d1:=(hb.cell (p:=⟨bb,o+a * 2,none⟩) (Nat.lt_of_lt_of_le hbb hB)).trans hc1
    have d2:=(hb.cell (p:=⟨bb,o+a * 2+1,none⟩) (Nat.lt_of_lt_of_le hbb hB)).trans hc2
    have hp':=(hb.cell (p:=⟨p,0,none⟩) hpl).trans hp
    have cc:=clo_any p l[a].1 l[a].2 t wr hp'
    have Hb:=zh hb
    have hgd:l.getD a (0,0)=l[a]:=by rw [List.getD_eq_getElem?_getD,List.getElem?_eq_getElem hal]; rfl
    rw [hgd,decide_eq_true hal,Bool.true_and] at F
    clear hc1 hc2 h2 hb hgd
    by_cases he:l[a].1=t
    ·rw [he,cmpI_eq] at cc
     rw [decide_eq_true he] at F
     rw [he] at d1
     clear he h2a
     generalize l[a].2=v at *
     go_wp2_with fail
     refine cc.mono ?_
     rintro e w2 ⟨rfl,hb2⟩
     have Hb2:=zh (Hb.out.trans (hb2.mono Hb.out.size))
     clear hb2 cc
     go_wp2
     go_ret2
     exact ⟨by rw [Hpos.out,F.out]; rfl,Hb2.out⟩
    ·rw [cmpI_gt (show t<l[a].1 by omega)] at cc
     rw [decide_eq_false he] at F
     clear he h2a
     generalize l[a].2=v at *
     generalize l[a].1=u at *
     go_wp2_with fail
     refine cc.mono ?_
     rintro e w2 ⟨rfl,hb2⟩
     have Hb2:=zh (Hb.out.trans (hb2.mono Hb.out.size))
     clear hb2 cc
     go_wp2
     go_ret2
     exact ⟨by rw [Hpos.out,F.out]; rfl,Hb2.out⟩
   ·rw [decide_eq_false hal,Bool.false_and] at F
    have Hb:=zh hb
    clear h2 hb
    go_wp2
    go_ret2
    exact ⟨by rw [Hpos.out,F.out]; rfl,Hb.out⟩
end Go.Proofs.YtmomjpolkkbhnaaGreat.Hi
end

section
namespace Go.Proofs.YtmomjpolkkbhnaaGreat.Hi
open Go.RowKit
section
variable {P:Program}
theorem run_copyK (w:World) (dT sT ty elem:TypeId) (sz m:Nat) (g o dLen dCap:Nat) (a:Addr) (sLen sCap:Nat) (cur:Array Value) (t:TypeId) (cs:List Value)
  (hu:P.underlying dT=some (.slice elem)) (hs:(P.info? elem).map (·.size)=some sz) (hg:w.heap[g]?=some (.cells cur t (0,0))) (hm:Nat.min sLen dLen=m) (hn:cs.length=m * sz)
  (hsrc:∀ j v,cs[j]?=some v→w.cell? (a.add j)=some v) (hfit:o+cs.length≤cur.size) (h1:∀ v∈cs,v.oneCell'=true) :
  (Builtin.copy_ #[dT,sT] ty #[.slice (some ⟨g,o,none⟩) dLen dCap,.slice (some a) sLen sCap]).run P w =
   .ok (Go.goInt m) (w.setRow g (cur.toList.take o ++ cs ++ cur.toList.drop (o+cs.length)).toArray):=by
 have hl:=run_loadCells_list (P:=P) w a cs hsrc
 have hst:=run_storeCells_at P g o t cs 0 cur w hg (by simpa using hfit) h1
 cases hq:P.info? elem with
 | none=>simp [hq] at hs
 | some i =>
  have hi:i.size=sz:=by simpa [hq] using hs
  rw [hn] at hl
  simp [Builtin.copy_,run_underlying hu,Builtin.lenOf,Builtin.firstCells,sizeOf,typeInfo,hq,hi,hm,hl,hst]
theorem step_copyR {ops:Array Oper} {o:Oper} {a:Act} {w:World} {K:Act→World→Prop} {Q:Exit→Act→World→Prop} {E:Prop}
  (hg:o.guard=none) (d x:Operand) (dT sT:TypeId) (hop:o.op=Op.call { callee:=Callee.builtin Builtin.copy,args:=#[d,x],argTypes:=#[dT,sT] })
  (v u:Value) (hd:a.eval d=v) (hx:a.eval x=u) {v':Value} {w':World} (hr:(Builtin.copy_ #[dT,sT] o.type #[v,u]).run P w=.ok v' w') (hK:K (a.put o.dst v') w') :
  if Region.wanted o (yielded ops a.tmps)=true then Oper.wp P o a w K Q else E:=by
 have hw:Region.wanted o (yielded ops a.tmps)=true:=by simp [Region.wanted,hg]
 rw [if_pos hw]
 exact Lib.wp_copy_run w d x dT sT hop v u hd hx hr hK
end
theorem ins_row (C D X:List Value) (a:Nat) (hX:X.length=2) (hl:a+2+D.length≤C.length) :
  ((C.take (a+2) ++ D ++ C.drop (a+2+D.length)).take a ++ X ++ (C.take (a+2) ++ D ++ C.drop (a+2+D.length)).drop (a+X.length)).take (a+2+D.length)=C.take a ++ X ++ D:=by
 have h1:(C.take (a+2)).length=a+2:=by rw [List.length_take]; omega
 have e1:(C.take (a+2) ++ D ++ C.drop (a+2+D.length)).take a=C.take a:=by
  rw [List.append_assoc,List.take_append_of_le_length (by omega),List.take_take,Nat.min_eq_left (by omega)]
 have e2:(C.take (a+2) ++ D ++ C.drop (a+2+D.length)).drop (a+X.length)=D ++ C.drop (a+2+D.length):=by
  rw [hX,List.append_assoc,List.drop_append_of_le_length (by omega),List.drop_eq_nil_of_le (by omega),List.nil_append]
 have h2:(C.take a ++ X).length=a+2:=by rw [List.length_append,List.length_take,hX]; omega
 rw [e1,e2,← List.append_assoc,List.take_append_of_le_length (by rw [List.length_append,h2]; omega),List.take_of_length_le (by rw [List.length_append,h2]; omega)]
theorem bk_info:(Tryz.prog.info? 91).map (fun i=>(i.zero,i.size,i.bytes))=some (some (.agg #[.int .i64 0,.int .i64 0]),2,16):=by kernel_rfl
theorem bk_size:(Tryz.prog.info? 91).map (·.size)=some 2:=by kernel_rfl
def OwnB (w:World) (base:Nat) (v:Value) (l:List Bk):Prop:=w.ownsRow base 91 2 v l.length (bkC l)
def InsPost (w:World) (base:Nat) (v:Value) (l:List Bk) (e:Ending) (w':World):Prop :=
 ∃ v',e=.returned v'∧OwnB w' base v' l∧w.grownBy w' v.ownBlock
theorem add_lit (b o j:Nat):(⟨b,o,none⟩:Addr).add j=⟨b,o+j,none⟩:=by unfold Addr.add; split <;> simp_all
set_option maxHeartbeats 3200000 in
theorem ins_room (base g cap i vb:Nat) (l:List Bk) (k x:Int) (w:World) (hown:OwnB w base (.slice (some ⟨g,0,none⟩) l.length cap) l) (hi:i<l.length) (hroom:l.length+1≤cap) (hl:l.length≤1000000)
  (hv:Blk w vb 91 #[.int .i64 k,.int .i64 x]) (hne:vb≠g) :
  Calls Tryz.prog 134 #[.slice (some ⟨g,0,none⟩) l.length cap,.int .i64 (i:Int),.slice (some ⟨vb,0,none⟩) 1 1] w
   (InsPost w base (.slice (some ⟨g,0,none⟩) l.length cap) (l.take i ++ (k,x) :: l.drop i)):=by
 obtain ⟨cur,hcm,hg,hsz,htk,hbg⟩:∃ cur:Array Value,cap≤maxLen∧w.heap[g]?=some (.cells cur 91 (0,0))∧cur.size=cap * 2∧cur.toList.take (l.length * 2)=bkC l∧base≤g:=by
  rcases hown.2 with ⟨h,_⟩ | ⟨g',cap',cur,h,hb,hg,hnc,hcm,hcs,ht⟩
  ·cases h
  ·injection h with h1 h2 h3
   injection h1 with h1
   injection h1 with h1
   subst h1 h3
   exact ⟨cur,hcm,hg,hcs,ht,hb⟩
 unfold maxLen at hcm
 have hshb:w.shape? g=some (91,cap * 2):=by unfold World.shape?; rw [hg]; simp [hsz]
 have hsha:w.shape? vb=some (91,2):=by unfold World.shape?; unfold Blk at hv; rw [hv]; rfl
 have hov:∀ lb cb,(callFunc 156 #[.slice (some ⟨vb,0,none⟩) 1 1,.slice (some ⟨g,(i+1) * 2,none⟩) lb cb]).run Tryz.prog w=.ok (.value (.bool false)) w:=fun lb cb=>by
  rw [run_callFunc_extern Tryz.func156 (by kernel_rfl) (by kernel_rfl) (by kernel_rfl) (e:=Extern.SlicesOverlaps.overlaps #[40,40] #[4]) (by kernel_rfl),
   Lib.run_overlaps_apart w 40 4 91 Tryz.underlying40 2 (fun _=>by kernel_rfl) ⟨vb,0,none⟩ ⟨g,(i+1) * 2,none⟩ 1 1 lb cb hne _ _ _ _ hsha hshb (by omega) (hv.frozen 0) (hv.frozen 2)]
  rfl
 have hi1:((i:Int) == (l.length:Int))=false:=beq_eq_false_iff_ne.2 (by omega)
 have hr1:(l.length:Int)+1≤(cap:Int):=by omega
 have hdl:(bkC (l.drop i)).length=(l.length - i) * 2:=by rw [bkC_len,List.length_drop]
 have hcell:∀ j u,(bkC l)[j]?=some u→w.cell? ⟨g,j,none⟩=some u:=fun j u hj=>by
  have:=hown.cells (g:=g) rfl j u hj
  rw [add_lit,Nat.zero_add] at this
  exact this
 have hcp1:∀ ty dc sc dl sl,dl=l.length - i→sl=l.length+1 - i→(Builtin.copy_ #[40,40] ty #[.slice (some ⟨g,(i+1) * 2,none⟩) dl dc,.slice (some ⟨g,i * 2,none⟩) sl sc]).run Tryz.prog w.drew =
   .ok (Go.goInt (l.length - i:Nat)) (w.drew.setRow g (cur.toList.take (i * 2+2) ++ bkC (l.drop i) ++ cur.toList.drop (i * 2+2+(bkC (l.drop i)).length)).toArray):=fun ty dc sc dl sl hdl' hsl'=>by
  have e:(i+1) * 2=i * 2+2:=by omega
  rw [e]
  exact run_copyK w.drew _ _ ty 91 2 (l.length - i) g (i * 2+2) _ dc ⟨g,i * 2,none⟩ _ sc cur 91 (bkC (l.drop i)) Tryz.underlying40 bk_size hg (by simp only [Nat.min_def]; split <;> omega) hdl
   (fun j u hj=>by
    rw [add_lit]
    rw [bkC_drop,List.getElem?_drop] at hj
    exact hcell _ _ hj) (by rw [hdl]; omega) (bkC_one _)
 obtain ⟨R1,hR1⟩:∃ R1,R1=cur.toList.take (i * 2+2) ++ bkC (l.drop i) ++ cur.toList.drop (i * 2+2+(bkC (l.drop i)).length):=⟨_,rfl⟩
 have hfit1:i * 2+2+(bkC (l.drop i)).length≤cur.toList.length:=by rw [hdl,Array.length_toList (xs:=cur),hsz]; omega
 have hins:=ins_row cur.toList (bkC (l.drop i)) [Value.int .i64 k,Value.int .i64 x] (i * 2) rfl hfit1
 rw [← hR1] at hcp1 hins
 have hR1l:R1.length=cap * 2:=by
  rw [hR1,List.length_append,List.length_append,List.length_take,List.length_drop,hdl,Array.length_toList]; omega
 have hW:(w.drew.setRow g R1.toArray).heap=(w.setRow g R1.toArray).heap:=rfl
 have hcp2:∀ ty dc sl,sl=l.length+1 - i→(Builtin.copy_ #[40,40] ty #[.slice (some ⟨g,i * 2,none⟩) sl dc,.slice (some ⟨vb,0,none⟩) 1 1]).run Tryz.prog (w.drew.setRow g R1.toArray) =
   .ok (Go.goInt (1:Nat)) ((w.drew.setRow g R1.toArray).setRow g (R1.take (i * 2) ++ [Value.int .i64 k,Value.int .i64 x] ++ R1.drop (i * 2+2)).toArray):=fun ty dc sl hsl'=>by
  have hWg:(w.drew.setRow g R1.toArray).heap[g]?=some (.cells R1.toArray 91 (0,0)):=by rw [hW]; exact setRow_heap w g _ _ _ _ hg
  have hWv:(w.drew.setRow g R1.toArray).heap[vb]?=some (.cells #[.int .i64 k,.int .i64 x] 91 (0,0)):=by rw [hW,setRow_other w g vb _ hne]; exact hv
  have:=run_copyK (w.drew.setRow g R1.toArray) 40 40 ty 91 2 1 g (i * 2) sl dc ⟨vb,0,none⟩ 1 1 R1.toArray 91 [.int .i64 k,.int .i64 x] Tryz.underlying40 bk_size hWg (by simp only [Nat.min_def]; split <;> omega) rfl
   (fun j u hj=>by
    rw [add_lit,Nat.zero_add,cell_of_row (w.drew.setRow g R1.toArray) vb j _ _ _ hWv]
    simpa using hj) (by simp; omega) (by intro u hu; simp at hu; rcases hu with rfl | rfl <;> rfl)
  simpa using this
 have hfin:OwnB ((w.drew.setRow g R1.toArray).setRow g (R1.take (i * 2) ++ [Value.int .i64 k,Value.int .i64 x] ++ R1.drop (i * 2+2)).toArray) base (.slice (some ⟨g,0,none⟩) (l.length+1) cap) (l.take i ++ (k,x) :: l.drop i):=by
  have hlen:(l.take i ++ (k,x) :: l.drop i).length=l.length+1:=by simp; omega
  unfold OwnB
  rw [hlen]
  refine ⟨by rw [bkC_len,hlen],.inr ⟨g,cap,_,rfl,hbg,setRow_heap _ g _ _ _ _ (setRow_heap w.drew g _ _ _ _ hg),hroom,by unfold maxLen; omega,?_,?_⟩⟩
  ·simp; omega
  ·rw [hdl] at hins
   have e3:i * 2+2+(l.length - i) * 2=(l.length+1) * 2:=by omega
   rw [e3] at hins
   rw [List.toList_toArray]
   refine hins.trans ?_
   rw [bkC_app,bkC_take,← htk,List.take_take,Nat.min_eq_left (by omega),List.append_assoc]
   rfl
 have hgr:w.grownBy ((w.drew.setRow g R1.toArray).setRow g (R1.take (i * 2) ++ [Value.int .i64 k,Value.int .i64 x] ++ R1.drop (i * 2+2)).toArray) (some g) :=
  ⟨rfl,rfl,rfl,by simp [World.setRow],fun j _ hj=>by
   have hj':j≠g:=fun e=>hj (by rw [e])
   rw [setRow_other _ g j _ hj',setRow_other w.drew g j _ hj']; rfl⟩
 obtain ⟨R2,hR2⟩:∃ R2,R2=R1.take (i * 2) ++ [Value.int .i64 k,Value.int .i64 x] ++ R1.drop (i * 2+2):=⟨_,rfl⟩
 rw [← hR2] at hcp2 hfin hgr
 have Fin:=zh hfin
 have Gr:=zh hgr
 have hw1:IntKind.i64.wrap ((i:Int)+1)=(i:Int)+1:=IntWalk.i64_in _ (by omega)
 have hb1:(0:Int)≤(i:Int)+1:=by omega
 have htn:((i:Int)+1).toNat=i+1:=by omega
 have hb2:¬ (cap=i+1):=by omega
 have hb3:(i:Int)≤(l.length:Int)+1:=by omega
 have hb5:i≤l.length:=by omega
 have hb4:¬ (cap=i):=by omega
 clear hR2 hins hfin hgr hcell hdl hR1 hR1l hshb hsha
 go_enter Tryz.func134,Tryz.ntmps134
 go_wp2_with (simp only [hov])
 go_region_law (refine step_copyR rfl _ _ 40 40 rfl _ _ (by simp [Act.eval,Act.put]) (by simp [Act.eval,Act.put]) (hcp1 _ _ _ _ _ (by omega) (by omega)) ?_)
 go_wp2_with (at_builtin; refine Lib.wpList_copy_run _ rfl _ _ 40 40 rfl _ _ rfl rfl (hcp2 _ _ _ (by omega)) ?_)
 go_ret
 exact ⟨_,rfl,Fin.out,Gr.out⟩
end Go.Proofs.YtmomjpolkkbhnaaGreat.Hi
end
