/- loggialaw32.behind: the walk (printed by gen_alv.py). -/
import Derived.RegionTactic
import Derived.ChangeAlike
import Derived.Test.YtlfpfkallgkjdaaGreatQAlertRunsRow41
import Derived.Test.YtlfpfkallgkjdaaGreatQAlertRunsRow28
import Derived.Test.YtlfpfkallgkjdaaGreatQAlertRunsRow2
import Derived.Test.YtlfpfkallgkjdaaGreatQAlertRunsRow29
import Derived.Test.YtlfpfkallgkjdaaGreatQAlertRunsRow15
import Derived.Test.YtlfpfkallgkjdaaGreatQAlertRunsRow1
import Derived.Test.YtlfpfkallgkjdaaGreatQAlertRunsRow4
import Derived.Test.YtlfpfkallgkjdaaGreatQAlertRunsRow0
set_option linter.unusedSimpArgs false
set_option linter.unusedVariables false
set_option maxRecDepth 40000
section
namespace Go.Proofs.YtlfpfkallgkjdaaGreat.Al
open Go.RowKit Go.Maps Ut Tk Qy Qp Ev Mv
theorem StepR.len {l l':List (Int × Kp)} {o:Opr} (h:StepR l o l') (hu:UpI l):l'.length≤l.length+1:=by
 cases h with
 | drop h=>have:=(dropsL_few (cutI o.ids) l hu).1; omega
 | fork h=>omega
 | put h3 h4 hp =>
  cases hp with
  | arg h=>omega
  | bad h hp=>omega
  | many h hp hg hm=>omega
  | ok h hp hm=>rw [put_len hu]; split <;> omega
def BehP (w:World) (e:Ending) (w':World):Prop:=∃ Bb K l,e=.returned (.tuple #[.pointer (some ⟨Bb,0,none⟩),.bool true])∧K≤40000∧l.length≤30∧St w.heap.size w' Bb K l∧Below w.heap.size w w'
set_option maxHeartbeats 12800000 in
theorem behind_any (A:Option Addr) (n c:Nat) (L:List Opr) (w:World) (hO:OpsAt w A n c L) :
  Calls Tryz.prog 15 #[.slice A n c] w (BehP w):=by
 have hlen:=hO.ln
 have hfew:=hO.few
 have hcap:=hO.cap
 have HO:=zh hO
 have CN:=zh (new_n w)
 clear hO
 go_enter Tryz.func15,Tryz.ntmps15
 go_wp2_with fail
 refine CN.out.mono ?_
 rintro e w1 ⟨X,rfl,hX1,hb1,hXn⟩
 have hs1:=hb1.size
 have hb2:Below w1.heap.size w1 (w1.alloc (.cells #[.pointer (some ⟨X,0,none⟩),.slice none 0 0] 43)):=(Below.refl _ _).alloc (zG _) _
 have hS:St w.heap.size (w1.alloc (.cells #[.pointer (some ⟨X,0,none⟩),.slice none 0 0] 43)) w1.heap.size 0 []:=⟨⟨X,none,0,0,[],Blk.new w1 _ _,hX1.new_below hb2,RAt.nil _,rfl⟩,by simp,by omega⟩
 have HS:=zh hS
 have HB:=zh (hb1.trans (hb2.mono hs1))
 clear hS hX1 hb1 hb2 CN
 go_wp2_with fail
 go_loopw [5] (fun i wr=>∃ (k:Nat) (l:List (Int × Kp)),k≤n∧k≤30∧l.length≤k∧i=.int .i64 k∧Hid (St w.heap.size wr w1.heap.size (1001 * k) l)∧Hid (Below w.heap.size w wr)) (fun i _=>n - (intOf i).toNat)
 case atStart=>exact ⟨0,[],Nat.zero_le _,by omega,zG _,rfl,HS,HB⟩
 case round =>
  obtain ⟨k,l,hk,hk30,hlk,rfl,hS,hB⟩:=hrel
  have hsB:=hB.out.size
  by_cases hlt:k<n∧k<30
  ·obtain ⟨hkn,hk3⟩:=hlt
   have hk1:(k:Int)<(n:Int):=by omega
   have hk2:(k:Int)<30:=by omega
   have hkl:k<L.length:=by omega
   obtain ⟨b,o,I,m,mc,rfl,hbl,y0,y1,y2,y3,hop⟩:=(HO.out.below hB.out).at_ hkl
   obtain ⟨X1,A1,n1,c1,O1,g1,g2,g3,g4⟩:=hS.out.ex
   have x0:=g1.cell 0
   simp only [zA,zB] at x0
   have hup:=g2.up
   have CS:=zh (step_any L[k] I m mc hS.out hsB (by omega) hop)
   clear g1 g2 g3 g4 hop
   generalize L[k]=op at *
   go_wp2_with fail
   refine CS.out.mono ?_
   rintro e w2 ⟨l2,hst,rfl,hS2,hb2⟩
   have HS5:Hid (St w.heap.size w2 w1.heap.size (1001 * (k+1)) l2):=zh (hS2.more (by omega))
   have HB5:Hid (Below w.heap.size w w2):=zh (hB.out.trans hb2)
   have hl2:=hst.len hup
   clear hst hS2 hb2 CS y0 y1 y2 y3
   go_wp2_with fail
   go_roundw
   case rel=>exact ⟨k+1,l2,by omega,by omega,by omega,by go_num,HS5,HB5⟩
   case measure=>simp [intOf]; omega
  ·obtain ⟨X1,A1,n1,c1,O1,g1,g2,g3,g4⟩:=hS.out.ex
   have x0:=g1.cell 0
   simp only [zA,zB] at x0
   clear g1 g2 g3 g4
   by_cases hkn:k<n
   ·have hk1:(k:Int)<(n:Int):=by omega
    have hk2:¬ (k:Int)<30:=by omega
    go_wp2_with fail
    go_quiet (fail)
    have HS6:=zh (hS.out.below (Mx.below_dN (Below.refl wr.heap.size wr) nq))
    have HB6:=zh (Mx.below_dN hB.out nq)
    go_wp2
    go_ret2
    exact ⟨_,1001 * k,l,rfl,by omega,by omega,HS6.out,HB6.out⟩
   ·have hk1:¬ (k:Int)<(n:Int):=by omega
    go_wp2_with fail
    go_quiet (fail)
    have HS6:=zh (hS.out.below (Mx.below_dN (Below.refl wr.heap.size wr) nq))
    have HB6:=zh (Mx.below_dN hB.out nq)
    go_wp2
    go_ret2
    exact ⟨_,1001 * k,l,rfl,by omega,by omega,HS6.out,HB6.out⟩
end Go.Proofs.YtlfpfkallgkjdaaGreat.Al
end

section
namespace Go.Proofs.YtlfpfkallgkjdaaGreat.Qy
open Go.RowKit Ut Tk
end Go.Proofs.YtlfpfkallgkjdaaGreat.Qy
end

section
namespace Go.Proofs.YtlfpfkallgkjdaaGreat.Qy
open Go.RowKit Ut Tk
theorem ba_toList_inj {x y:ByteArray} (h:x.toList=y.toList):x=y:=by
 rw [tl,tl] at h
 cases x; cases y
 simpa using h
set_option maxHeartbeats 800000 in
theorem has_any (A:Option Addr) (n c:Nat) (l:List ByteArray) (x:ByteArray) (w:World) (hR:Reads w w.heap.size 1 A n (bsv l)) (hn:l.length=n) (hn2:n≤4194304) :
  Calls Tryz.prog 165 #[.slice A n c,.string x] w fun e w'=>e=.returned (.bool (Lib.containsS l x))∧Below w.heap.size w w':=by
 have HR:=zh hR
 have Hn:=zh hn
 clear hR hn
 go_enter Tryz.func165,Tryz.ntmps165
 go_wp2
 go_loopw [5] (fun i wr=>∃ k:Nat,k≤n∧i=.int .i64 k∧(∀ j (h:j<l.length),j<k→l[j]≠x)∧Below w.heap.size w wr) (fun i _=>n - (intOf i).toNat)
 case atStart=>exact ⟨0,Nat.zero_le _,rfl,fun j _ hj=>by omega,Below.refl _ _⟩
 case round =>
  obtain ⟨k,hk,rfl,hal,hb⟩:=hrel
  have Hal:=zh hal
  have Hb:=zh hb
  by_cases hlt:k<n
  ·have hkl:k<l.length:=by rw [Hn.out]; exact hlt
   have hki:(k:Int)<(n:Int):=by omega
   have hki0:(0:Int)≤(k:Int):=by omega
   obtain ⟨tb,tq,rfl,htb,hc⟩:=HR.out.2 (by omega)
   have hck:=hc k (.string l[k]) (by unfold bsv; rw [List.getElem?_map,List.getElem?_eq_getElem hkl]; rfl)
   have hd:=(hb.cell (p:=⟨tb,tq+k,none⟩) htb).trans hck
   by_cases he:l[k]=x
   ·have Fin:Hid (Lib.containsS l x=true):=zh ((Lib.containsS_iff l x).2 (he ▸ List.getElem_mem hkl))
    rw [he] at hd
    clear hc hck hal hb he
    go_wp2
    go_ret
    exact ⟨by rw [Fin.out]; rfl,Hb.out⟩
   ·have hne:(l[k].toList == x.toList)=false:=beq_eq_false_iff_ne.2 (fun e=>he (ba_toList_inj e))
    have Hnx:Hid (∀ j (h:j<l.length),j<k+1→l[j]≠x):=zh (fun j h hj=>by
     by_cases hjk:j=k
     ·subst hjk; exact he
     ·exact Hal.out j h (by omega))
    clear hc hck hal hb he
    generalize l[k]=y at *
    go_wp2
    go_roundw
    case rel=>exact ⟨k+1,by omega,by go_num,Hnx.out,Hb.out⟩
    case measure=>simp [intOf]; omega
  ·obtain rfl:k=n:=by omega
   have Fin:Hid (Lib.containsS l x=false):=zh (by
    rw [← Bool.not_eq_true,Lib.containsS_iff]
    intro hm
    obtain ⟨j,hj,e⟩:=List.getElem_of_mem hm
    exact Hal.out j hj (by rw [← Hn.out]; exact hj) e)
   clear hal hb
   go_wp2
   go_ret
   exact ⟨by rw [Fin.out]; rfl,Hb.out⟩
structure MoR (w:World) (v:Value) (S:Option Addr) (ts:List ByteArray):Prop where
 at_ : 0<ts.length→∃ b o,S=some ⟨b,o,none⟩∧b<w.heap.size∧v.ownBlock≠some b∧∀ j (h:j<ts.length),w.cell? ⟨b,o+j,none⟩=some (.string ts[j])
theorem MoR.below {w w':World} {v:Value} {S:Option Addr} {ts:List ByteArray} (h:MoR w v S ts) (hb:Below w.heap.size w w'):MoR w' v S ts :=
 ⟨fun hp=>by
  obtain ⟨b,o,e,h1,h2,h3⟩:=h.at_ hp
  exact ⟨b,o,e,Nat.lt_of_lt_of_le h1 hb.size,h2,fun j hj=>(hb.cell (p:=⟨b,o+j,none⟩) h1).trans (h3 j hj)⟩⟩
set_option maxHeartbeats 1600000 in
theorem with_any (B:Nat) (v:Value) (old:List ByteArray) (S:Option Addr) (n c:Nat) (ts:List ByteArray) (w:World) (hN:w.ownsRow B 9 1 v old.length (bsv old)) (hB:B≤w.heap.size) (hM:MoR w v S ts) (hn:ts.length=n) (hbig:old.length+n≤4194304) :
  Calls Tryz.prog 132 #[v,.slice S n c] w fun e w'=>∃ v',e=.returned v'∧w'.ownsRow B 9 1 v' (addL old ts).length (bsv (addL old ts))∧Below B w w':=by
 obtain ⟨i0,hi0,hz0,hz1,hz2⟩:=info_parts str_info
 have HN:=zh hN
 have HM:=zh hM
 have Hn:=zh hn
 clear hN hM hn
 go_enter Tryz.func132,Tryz.ntmps132
 go_wp2
 go_loopw [0,5] (fun u i wr=>∃ (k:Nat),k≤n∧i=.int .i64 k∧wr.ownsRow B 9 1 u (addL old (ts.take k)).length (bsv (addL old (ts.take k)))∧MoR wr u S ts∧Below B w wr) (fun _ i _=>n - (intOf i).toNat)
 case atStart=>exact ⟨0,Nat.zero_le _,rfl,HN.out,HM.out,Below.refl _ _⟩
 case round =>
  obtain ⟨k,hk,rfl,hN,hM,hb⟩:=hrel
  have HN:=zh hN
  have HM:=zh hM
  have Hb:=zh hb
  have hbz:=hb.size
  by_cases hlt:k<n
  ·have hkl:k<ts.length:=by rw [Hn.out]; exact hlt
   have hki:(k:Int)<(n:Int):=by omega
   have hki0:(0:Int)≤(k:Int):=by omega
   obtain ⟨b,o,rfl,hbl,hub,hc⟩:=hM.at_ (by omega)
   have hck:=hc k hkl
   have hts:=addL_take old ts k hkl
   have hll:(addL old (ts.take k)).length≤4194304 - 1:=by
    have h1:=addL_len (ts.take k) old
    rw [List.length_take] at h1
    omega
   have Hts:=zh hts
   have Hc:=zh hc
   clear hts hc hM hb
   generalize addL old (ts.take k)=l at *
   generalize ts[k]=x at *
   obtain ⟨A2,q2,rfl,hR2⟩:=own_shape hN
   have cc:=has_any A2 l.length q2 l x wr hR2 rfl (by omega)
   by_cases hin:Lib.containsS l x=true
   ·rw [hin] at cc
    have hl1:add1 l x=l:=by unfold add1; rw [if_pos hin]
    rw [hl1] at Hts
    clear hN hin hl1 hR2
    go_wp2_with (go_at_call 165; refine cc.mono ?_; rintro e wx ⟨rfl,hbx⟩)
    have Fin:=zh (HN.out.kept (grow_of_below hbx none) (by cases hv:(Value.slice A2 l.length q2).ownBlock <;> simp))
    have Fin2:=zh (HM.out.below hbx)
    have Fin3:=zh (Hb.out.trans (hbx.mono (by omega)))
    clear hbx cc
    go_roundw
    case rel=>exact ⟨k+1,by omega,by go_num,by rw [Hts.out]; exact Fin.out,Fin2.out,Fin3.out⟩
    case measure=>simp [intOf]; omega
   ·have hin':Lib.containsS l x=false:=by simpa using hin
    rw [hin'] at cc
    have hl1:add1 l x=l ++ [x]:=by unfold add1; rw [if_neg hin]
    rw [hl1] at Hts
    have HNx:=zh (fun wx (hbx:Below wr.heap.size wr wx)=>(HN.out.kept (grow_of_below hbx none) (by cases hv:(Value.slice A2 l.length q2).ownBlock <;> simp):wx.ownsRow B 9 1 (.slice A2 l.length q2) l.length (bsv l)))
    clear hN hin hl1 hin' hR2
    go_wp2_with (first
     | (go_at_call 165; refine cc.mono ?_; rintro e wx ⟨rfl,hbx⟩; have hckx:=(hbx.cell (p:=⟨b,o+k,none⟩) hbl).trans hck; have hown:=HNx.out wx hbx; have hzx:=hbx.size; have hMx:=zh (HM.out.below hbx); have hbw:=zh (Hb.out.trans (hbx.mono (by omega))); clear hbx cc)
     | (at_builtin; go_loud (refine wpList_append_own_at _ rfl _ _ 49 rfl B 9 i0 _ 1 16 Tryz.underlying49 hi0 hz0 hz1 hz2 rfl (by decide) _ _ _ rfl (hown.alloc _) ⟨wx.heap.size,0,none⟩ 1 1 [.string x] rfl rfl ?d1 ?d2 ?d3 ?d4 ?d5 ?_)))
    case d1=>exact World.news_of_block (cs:=#[.string x]) (t:=9) (fr:=(0,0)) (heap_alloc_new wx _)
    case d2=>intro y hy; simp at hy; subst hy; rfl
    case d3=>unfold maxLen; omega
    case d4=>omega
    case d5=>simp; omega
    intro v' w5 hown5 hg5 _ hat
    obtain ⟨g5,q5,rfl⟩:=own_succ hown5
    have Fin:Hid (w5.ownsRow B 9 1 (.slice (some ⟨g5,0,none⟩) (l.length+1) q5) (l ++ [x]).length (bsv (l ++ [x]))):=zh (by rw [List.length_append,bsv_snoc]; exact hown5)
    have hblx:b<wx.heap.size:=by omega
    have hz5:=hg5.size
    simp at hz5
    have Fin2:Hid (MoR w5 (.slice (some ⟨g5,0,none⟩) (l.length+1) q5) (some ⟨b,o,none⟩) ts):=zh ⟨fun hp=>by
     obtain ⟨b',o',e,h1,h2,h3⟩:=hMx.out.at_ hp
     injection e with e
     injection e with e1 e2
     subst e1
     subst e2
     refine ⟨b,o,rfl,by omega,?_,fun j hj=>hg5.cell ((World.cell?_alloc_lt wx _ ⟨b,o+j,none⟩ h1).trans (h3 j hj)) (fun e=>h2 e.symm)⟩
     rcases hat with h | h
     ·rw [h]; exact h2
     ·rw [h]; simp; omega⟩
    have Fin3:Hid (Below B w w5):=zh ((hbw.out.alloc (by omega) (.cells #[.string x] 9)).grown hg5 (by simp; omega) (fun e he=>(hown.lt _ he).1))
    clear hown5 hg5 hown hat hz5
    go_wp2
    go_roundw
    case rel=>exact ⟨k+1,by omega,by go_num,by rw [Hts.out]; exact Fin.out,Fin2.out,Fin3.out⟩
    case measure=>simp [intOf]; omega
  ·obtain rfl:k=n:=by omega
   have htk:ts.take k=ts:=List.take_of_length_le (by rw [Hn.out]; exact zG _)
   rw [htk] at HN
   clear hN hM hb htk
   go_wp2
   go_ret
   exact ⟨_,rfl,HN.out,Hb.out⟩
end Go.Proofs.YtlfpfkallgkjdaaGreat.Qy
end

section
namespace Go.Proofs.YtlfpfkallgkjdaaGreat.Ev
open Go.RowKit Ut Tk Qy Qp Rg
def posB:List ByteArray→ByteArray→Nat
 | [],_=>0
 | x :: l,s=>if ltB x s=true then posB l s+1 else 0
theorem posB_le:∀ (l:List ByteArray) (s:ByteArray),posB l s≤l.length
 | [],_=>zG _
 | x :: l,s=>by
  unfold posB
  split
  ·have:=posB_le l s; simp; omega
  ·simp
theorem posB_lt:∀ {l:List ByteArray} {s:ByteArray} {i:Nat} (h:i<posB l s) (h2:i<l.length),ltB l[i] s=true
 | x :: l,s,i,h,h2=>by
  unfold posB at h
  by_cases c:ltB x s=true
  ·rw [if_pos c] at h
   cases i with
   | zero=>exact c
   | succ i=>exact posB_lt (l:=l) (by omega) (by simpa using h2)
  ·rw [if_neg c] at h; omega
theorem posB_at:∀ {l:List ByteArray} {s:ByteArray} (h:posB l s<l.length),ltB l[posB l s] s=false
 | x :: l,s,h=>by
  by_cases c:ltB x s=true
  ·have e:posB (x :: l) s=posB l s+1:=by rw [posB]; exact if_pos c
   have h2:posB l s<l.length:=by rw [e] at h; simpa using h
   have:=posB_at h2
   simp only [e,List.getElem_cons_succ]
   exact this
  ·have e:posB (x :: l) s=0:=by rw [posB]; exact if_neg c
   simp only [e,List.getElem_cons_zero]
   simpa using c
def keysT (l:List Tm):List ByteArray:=l.map (·.1)
theorem addT_hit:∀ (l:List Tm) (s:ByteArray) (p:Nat) (h:posB (keysT l) s<l.length),l[posB (keysT l) s].1=s→addT l s p=l.take (posB (keysT l) s) ++ [(s,l[posB (keysT l) s].2 ++ [p])] ++ l.drop (posB (keysT l) s+1)
 | x :: l,s,p,h,he=>by
  by_cases c:ltB x.1 s=true
  ·have e:posB (keysT (x :: l)) s=posB (keysT l) s+1:=by show posB (x.1 :: keysT l) s=_; rw [posB]; exact if_pos c
   have h2:posB (keysT l) s<l.length:=by rw [e] at h; simpa using h
   simp only [e,List.getElem_cons_succ] at he ⊢
   have ih:=addT_hit l s p h2 he
   unfold addT
   rw [if_pos c,ih]
   simp
  ·have e:posB (keysT (x :: l)) s=0:=by show posB (x.1 :: keysT l) s=_; rw [posB]; exact if_neg c
   simp only [e,List.getElem_cons_zero] at he ⊢
   unfold addT
   rw [if_neg c,if_pos he]
   simp
theorem addT_miss:∀ (l:List Tm) (s:ByteArray) (p:Nat),(∀ h:posB (keysT l) s<l.length,l[posB (keysT l) s].1≠s)→addT l s p=l.take (posB (keysT l) s) ++ [(s,[p])] ++ l.drop (posB (keysT l) s)
 | [],s,p,_=>rfl
 | x :: l,s,p,h=>by
  by_cases c:ltB x.1 s=true
  ·have e:posB (keysT (x :: l)) s=posB (keysT l) s+1:=by show posB (x.1 :: keysT l) s=_; rw [posB]; exact if_pos c
   have ih:=addT_miss l s p (fun h2=>by
    have:=h (by rw [e]; simpa using h2)
    simp only [e,List.getElem_cons_succ] at this
    exact this)
   simp only [e]
   unfold addT
   rw [if_pos c,ih]
   simp
  ·have e:posB (keysT (x :: l)) s=0:=by show posB (x.1 :: keysT l) s=_; rw [posB]; exact if_neg c
   have:=h (by rw [e]; simp)
   simp only [e,List.getElem_cons_zero] at this ⊢
   unfold addT
   rw [if_neg c,if_neg this]
   simp
set_option maxHeartbeats 1600000 in
theorem rless_any (a b:ByteArray) (w:World) (ha:a.size≤140737488351232) (hb6:b.size≤140737488351232) :
  Calls Tryz.prog 166 #[.string a,.string b] w fun e w'=>e=.returned (.bool (ltB a b))∧Below w.heap.size w w':=by
 have hst:Hid (ltB a b=Op.bytesLess (a.data.toList.drop 0) (b.data.toList.drop 0)):=zh (by unfold ltB; rw [tl,tl,List.drop_zero,List.drop_zero])
 generalize ltB a b=r at *
 go_enter Tryz.func166,Tryz.ntmps166
 go_wp2_with fail
 go_loopw [5] (fun i wr=>∃ k:Nat,k≤a.size∧k≤b.size∧i=.int .i64 (k:Nat)∧Hid (r=Op.bytesLess (a.data.toList.drop k) (b.data.toList.drop k))∧Below w.heap.size w wr) (fun i _=>a.size - (intOf i).toNat)
 case atStart=>exact ⟨0,Nat.zero_le _,Nat.zero_le _,rfl,hst,Below.refl _ _⟩
 case round =>
  obtain ⟨k,hka,hkb,rfl,hS,hb⟩:=hrel
  have Hb:=zh hb
  clear hb hst
  by_cases hlt:k<a.size∧k<b.size
  ·obtain ⟨h1,h2⟩:=hlt
   have hk0:(0:Int)≤(k:Int):=by omega
   have hk1:(k:Int)<(a.size:Int):=by omega
   have hk2:(k:Int)<(b.size:Int):=by omega
   have da:a.data.toList.drop k=a[k] :: a.data.toList.drop (k+1):=List.drop_eq_getElem_cons (by rw [bsize]; exact h1)
   have db:b.data.toList.drop k=b[k] :: b.data.toList.drop (k+1):=List.drop_eq_getElem_cons (by rw [bsize]; exact h2)
   have hS2:=hS.out
   rw [da,db] at hS2
   have hx:=(a[k]).toNat_lt
   have hy:=(b[k]).toNat_lt
   by_cases e:a[k]=b[k]
   ·have hS3:Hid (r=Op.bytesLess (a.data.toList.drop (k+1)) (b.data.toList.drop (k+1))):=zh (by rw [hS2,e,bl_same])
    have hne:(((a[k]).toNat:Int) != ((b[k]).toNat:Int))=false:=by rw [e]; simp
    clear hS hS2 da db
    go_wp2
    go_region
    go_wp2
    go_roundw
    case rel=>exact ⟨k+1,by omega,by omega,by go_num,hS3,Hb.out.drew⟩
    case measure=>simp [intOf]; omega
   ·have hS3:Hid (r=decide ((a[k]).toNat<(b[k]).toNat)):=zh (by rw [hS2,bl_cons _ _ _ _ e])
    have hne:(((a[k]).toNat:Int) != ((b[k]).toNat:Int))=true:=by
     rw [bne_iff_ne]
     intro h
     exact e (UInt8.toNat_inj.1 (by omega))
    clear hS hS2 da db e
    go_wp2
    go_region
    go_wp2
    go_region
    go_wp2
    go_ret
    exact ⟨by rw [hS3.out]; simp,Hb.out.drew.drew⟩
  ·have hS3:Hid (r=decide (a.size<b.size)):=zh (by
    rw [hS.out]
    by_cases h1:k<a.size
    ·have e:k=b.size:=by omega
     have eb:b.data.toList.drop k=[]:=List.drop_eq_nil_of_le (by rw [bsize]; omega)
     rw [eb,List.drop_eq_getElem_cons (by rw [bsize]; exact h1),decide_eq_false (by omega)]
     simp [Op.bytesLess]
    ·have ea:a.data.toList.drop k=[]:=List.drop_eq_nil_of_le (by rw [bsize]; omega)
     rw [ea]
     by_cases h2:k<b.size
     ·rw [List.drop_eq_getElem_cons (by rw [bsize]; exact h2),decide_eq_true (by omega)]
      simp [Op.bytesLess]
     ·have eb:b.data.toList.drop k=[]:=List.drop_eq_nil_of_le (by rw [bsize]; omega)
      rw [eb,decide_eq_false (by omega)]
      simp [Op.bytesLess])
   clear hS
   by_cases h1:k<a.size
   ·have hk1:(k:Int)<(a.size:Int):=by omega
    have hk2:(b.size:Int)≤(k:Int):=by omega
    go_wp2
    go_ret
    exact ⟨by rw [hS3.out]; simp,Hb.out⟩
   ·have hk1:(a.size:Int)≤(k:Int):=by omega
    go_wp2
    go_ret
    exact ⟨by rw [hS3.out]; simp,Hb.out⟩
structure PosR (w:World) (B:Nat) (x:Tr):Prop where
 ex:∃ P pc,x.2.1=.slice P x.2.2.length pc∧Reads w B 1 P x.2.2.length (nC x.2.2)∧x.2.2.length≤pc∧(P=none→pc=0)
 szs:x.1.size≤1048576
 szp:x.2.2.length≤65536
theorem PosR.grow {w w':World} {B B':Nat} {x:Tr} (h:PosR w B x) (hk:Below B w w') (hB:B≤B'):PosR w' B' x:=by
 obtain ⟨P,pc,h1,h2,h3⟩:=h.ex
 exact ⟨⟨P,pc,h1,(h2.below hk).more hB,h3⟩,h.szs,h.szp⟩
structure TmO (w:World) (B:Nat) (A:Option Addr) (n c:Nat) (O:List Tr):Prop where
 rd:Reads w B 2 A n (O.flatMap encO)
 ln:O.length=n
 cap:n≤c
 nl:A=none→c=0
 po:∀ x∈O,PosR w B x
theorem TmO.grow {w w':World} {B B' n c:Nat} {A:Option Addr} {O:List Tr} (h:TmO w B A n c O) (hk:Below B w w') (hB:B≤B'):TmO w' B' A n c O :=
 ⟨(h.rd.below hk).more hB,h.ln,h.cap,h.nl,fun x hx=>(h.po x hx).grow hk hB⟩
theorem TmO.at_ {w:World} {B n c:Nat} {A:Option Addr} {O:List Tr} (h:TmO w B A n c O) {k:Nat} (hk:k<O.length) :
  ∃ b o,A=some ⟨b,o,none⟩∧b<B∧w.cell? ⟨b,o+k * 2,none⟩=some (.string O[k].1)∧w.cell? ⟨b,o+k * 2+1,none⟩=some O[k].2.1:=by
 obtain ⟨b,o,e,hb,hc⟩:=h.rd.2 (by have:=h.ln; omega)
 have f0:=Ss.encs_get (enc:=encO) (k:=2) (fun _=>rfl) O k 0 hk (by omega)
 have f1:=Ss.encs_get (enc:=encO) (k:=2) (fun _=>rfl) O k 1 hk (by omega)
 have c0:=hc _ _ (f0.trans rfl)
 have c1:=hc _ _ (f1.trans rfl)
 rw [← Nat.add_assoc] at c1
 exact ⟨b,o,e,hb,c0,c1⟩
def prj (x:Tr):Tm:=(x.1,x.2.2)
theorem beq_dec (s t:ByteArray):(s.toList == t.toList)=decide (s=t):=by
 by_cases h:s=t
 ·subst h; simp
 ·rw [decide_eq_false h,beq_eq_false_iff_ne]; exact fun e=>h (toList_inj e)
theorem encO_take (O:List Tr) (k:Nat):(O.take k).flatMap encO=(O.flatMap encO).take (k * 2):=by
 induction O generalizing k with
 | nil=>simp
 | cons x O ih =>
  cases k with
  | zero=>simp
  | succ k =>
   rw [List.take_succ_cons,List.flatMap_cons,List.flatMap_cons,ih,show (k+1) * 2=k * 2+2 by omega,show encO x=[.string x.1,x.2.1] from rfl]
   rfl
theorem encO_drop (O:List Tr) (k:Nat):(O.drop k).flatMap encO=(O.flatMap encO).drop (k * 2):=by
 induction O generalizing k with
 | nil=>simp
 | cons x O ih =>
  cases k with
  | zero=>simp
  | succ k =>
   rw [List.drop_succ_cons,List.flatMap_cons,ih,show (k+1) * 2=k * 2+2 by omega,show encO x=[.string x.1,x.2.1] from rfl]
   rfl
theorem encO_one {w:World} {B:Nat} {O:List Tr} (h:∀ x∈O,PosR w B x):∀ u∈O.flatMap encO,u.oneCell'=true:=by
 intro u hu
 obtain ⟨x,hx,hux⟩:=List.mem_flatMap.1 hu
 obtain ⟨P,pc,e,_⟩:=(h x hx).ex
 simp only [encO,List.mem_cons,List.not_mem_nil,or_false] at hux
 rcases hux with rfl | rfl
 ·rfl
 ·rw [e]; rfl
theorem nC_one (l:List Nat):∀ u∈nC l,u.oneCell'=true:=by
 intro u hu
 obtain ⟨n,_,rfl⟩:=List.mem_map.1 hu
 rfl
theorem own_apart {w w':World} {B B' k k' n n':Nat} {T T':TypeId} {v v':Value} {X X':List Value} (h:w.ownsRow B T k v n X) (h':w.ownsRow B' T' k' v' n' X') (hT:T≠T') (hg:w.grownBy w' v'.ownBlock):w'.ownsRow B T k v n X :=
 h.kept hg (by
  cases hv:v.ownBlock with
  | none=>exact .inl rfl
  | some b=>exact .inr (fun e=>hT ((tg_own h hv).one (tg_own h' e.symm))))
theorem rterm_info:(Tryz.prog.info? 166).map (fun i=>(i.zero,i.size,i.bytes))=some (some (.agg #[.string ByteArray.empty,.slice none 0 0]),2,40):=by kernel_rfl
end Go.Proofs.YtlfpfkallgkjdaaGreat.Ev
end

section
namespace Go.Proofs.YtlfpfkallgkjdaaGreat.Ev
open Go.RowKit Ut Tk Qy Qp Rg
def AddPost (w:World) (l:List Tm) (e:Ending) (w':World):Prop:=∃ A n c O,e=.returned (.slice A n c)∧O.map prj=l∧TmO w' w'.heap.size A n c O∧Below w.heap.size w w'
theorem add_fin {w wz w':World} {B n c p q m:Nat} {A:Option Addr} {O:List Tr} {x:Tr} {v:Value} (hO:TmO wz B A n c O) (hBz:B≤wz.heap.size) (hwz:Below w.heap.size w wz) (hR:Row 166 2 wz.heap.size wz w' v m ((O.take p).flatMap encO ++ encO x ++ (O.drop q).flatMap encO)) (hx:PosR w' w'.heap.size x) (hm:m=p+1+(n - q)) (hp:p≤n) (hq:q≤n):AddPost w ((O.take p ++ [x] ++ O.drop q).map prj) (.returned v) w':=by
 obtain ⟨A',c',rfl,hRd,hc',hn',_⟩:=own_shape2 hR.own
 refine ⟨A',m,c',O.take p ++ [x] ++ O.drop q,rfl,rfl,⟨?_,?_,hc',hn',fun y hy=>?_⟩,hwz.trans (hR.bel.mono hwz.size)⟩
 ·rw [List.flatMap_append,List.flatMap_append]
  simpa using hRd
 ·have:=hO.ln
  simp only [List.length_append,List.length_take,List.length_drop,List.length_cons,List.length_nil]
  omega
 ·have old:∀ y∈O,PosR w' w'.heap.size y:=fun y hy=>(hO.po y hy).grow (hR.bel.mono hBz) (by have:=hR.bel.size; omega)
  rcases List.mem_append.1 hy with hy | hy
  ·rcases List.mem_append.1 hy with hy | hy
   ·exact old y (List.mem_of_mem_take hy)
   ·rw [List.mem_singleton] at hy; subst hy; exact hx
  ·exact old y (List.mem_of_mem_drop hy)
set_option maxHeartbeats 6400000 in
theorem add_any (A:Option Addr) (n c:Nat) (O:List Tr) (s:ByteArray) (p:Nat) (w:World) (h:TmO w w.heap.size A n c O) (hn:n≤65536) (hs:s.size≤1048576) (hpl:∀ x∈O,x.2.2.length≤65535) :
  Calls Tryz.prog 133 #[.slice A n c,.string s,.int .i64 (p:Nat)] w (AddPost w (addT (O.map prj) s p)):=by
 obtain ⟨i0,hi0,hz0,hz1,hz2⟩:=info_parts rterm_info
 obtain ⟨j0,hj0,hy0,hy1,hy2⟩:=info_parts int_info2
 have hlm:(O.map prj).length=n:=by rw [List.length_map]; exact h.ln
 have hkl:=posB_le (keysT (O.map prj)) s
 have hkm:(keysT (O.map prj)).length=n:=by unfold keysT; rw [List.length_map]; exact hlm
 have Hlt:Hid (∀ i (h:i<posB (keysT (O.map prj)) s) (h2:i<O.length),ltB O[i].1 s=true):=zh (fun i h h2=>by
  have:=posB_lt h (by rw [hkm]; have:=hkl; omega)
  simpa [keysT,prj] using this)
 have Hat:Hid (∀ h:posB (keysT (O.map prj)) s<O.length,ltB (O[posB (keysT (O.map prj)) s]).1 s=false):=zh (fun h2=>by
  have:=posB_at (l:=keysT (O.map prj)) (s:=s) (by rw [hkm]; have:=h.ln; omega)
  simpa [keysT,prj] using this)
 have Fh:Hid (∀ (h:posB (keysT (O.map prj)) s<O.length),O[posB (keysT (O.map prj)) s].1=s→∀ v,addT (O.map prj) s p=(O.take (posB (keysT (O.map prj)) s) ++ [(s,v,O[posB (keysT (O.map prj)) s].2.2 ++ [p])] ++ O.drop (posB (keysT (O.map prj)) s+1)).map prj):=zh (fun h2 he v=>by
  rw [addT_hit (O.map prj) s p (by rw [List.length_map]; exact h2) (by simpa [prj] using he)]
  simp [prj])
 have Fm:Hid ((∀ (h:posB (keysT (O.map prj)) s<O.length),O[posB (keysT (O.map prj)) s].1≠s)→∀ v,addT (O.map prj) s p=(O.take (posB (keysT (O.map prj)) s) ++ [(s,v,[p])] ++ O.drop (posB (keysT (O.map prj)) s)).map prj):=zh (fun hne v=>by
  rw [addT_miss (O.map prj) s p (fun h2=>by have:=hne (by simpa using h2); simpa [prj] using this)]
  simp [prj])
 have hln:=h.ln
 have hcap:=h.cap
 have Hnil:=zh h.nl
 have HO:=zh h
 have Hpl:=zh hpl
 rw [hkm] at hkl
 obtain ⟨r,hr⟩:∃ r,r=addT (O.map prj) s p:=⟨_,rfl⟩
 rw [← hr] at Fh Fm ⊢
 clear hr h hlm hkm hpl
 generalize posB (keysT (O.map prj)) s=k at *
 have hl1:O.length≤n:=by omega
 have hl2:n≤O.length:=by omega
 clear hln
 go_enter Tryz.func133,Tryz.ntmps133
 go_wp2_with fail
 go_loopw [7] (fun i wr=>∃ j:Nat,j≤k∧i=.int .i64 (j:Nat)∧Hid (Below w.heap.size w wr)) (fun i _=>n - (intOf i).toNat)
 case atStart=>exact ⟨0,Nat.zero_le _,rfl,zh (Below.refl _ _)⟩
 case round =>
  obtain ⟨j,hj,rfl,hbq⟩:=hrel
  by_cases hlt:j<k
  ·have hjl:j<O.length:=by omega
   have hji:(j:Int)<(n:Int):=by omega
   have hle:=Hlt.out j hlt hjl
   obtain ⟨tb,tq,rfl,htb,hd1,_⟩:=(HO.out.grow hbq.out (zG _)).at_ hjl
   have cl:=fun wx=>rless_any O[j].1 s wx (by have:=(HO.out.po _ (List.getElem_mem hjl)).szs; omega) (by omega)
   rw [hle] at cl
   generalize O[j].1=y at *
   clear hle
   go_wp2_with fail
   refine (cl _).mono ?_
   rintro e w2 ⟨rfl,hb2⟩
   have Hb2:=zh (hbq.out.trans (hb2.mono hbq.out.size))
   clear cl hb2 hbq hd1
   go_wp2
   go_roundw
   case rel=>exact ⟨j+1,by omega,by go_num,Hb2⟩
   case measure=>simp [intOf]; omega
  ·obtain rfl:j=k:=by omega
   by_cases hkn:j<O.length
   ·have hji:(j:Int)<(n:Int):=by omega
    have hle:=Hat.out hkn
    obtain ⟨tb,tq,rfl,htb,hd1,hd2⟩:=(HO.out.grow hbq.out (zG _)).at_ hkn
    have cl:=fun wx=>rless_any O[j].1 s wx (by have:=(HO.out.po _ (List.getElem_mem hkn)).szs; omega) (by omega)
    rw [hle] at cl
    have Fh2:=zh (Fh.out hkn)
    have Fm2:Hid (O[j].1≠s→∀ v,r=(O.take j ++ [(s,v,[p])] ++ O.drop j).map prj):=zh (fun hne=>Fm.out (fun _=>hne))
    have hPx:=HO.out.po _ (List.getElem_mem hkn)
    have hPl:=Hpl.out _ (List.getElem_mem hkn)
    clear Fh Fm hle
    generalize hxx:O[j]=xx at *
    clear hxx
    obtain ⟨y,pv,ps⟩:=xx
    simp only at hd1 hd2 cl Fh2 Fm2 hPl
    obtain ⟨P,pc,hpv,hPr,hPc,hPn⟩:=hPx.ex
    simp only at hpv hPr hPc hPn
    subst hpv
    have HPr:=zh hPr
    have HPn:=zh hPn
    clear hPx hPr hPn
    go_wp2_with fail
    refine (cl _).mono ?_
    rintro e wz ⟨rfl,hb2⟩
    have HBz:=zh (hbq.out.trans (hb2.mono hbq.out.size))
    have f1:=(hb2.cell (p:=⟨tb,tq+j * 2,none⟩) (by show tb < _; have:=hbq.out.size; omega)).trans hd1
    have f2:=(hb2.cell (p:=⟨tb,tq+j * 2+1,none⟩) (by show tb < _; have:=hbq.out.size; omega)).trans hd2
    have htz:tb<wz.heap.size:=by have:=HBz.out.size; omega
    have Hf:=zh (And.intro f1 f2)
    clear cl hb2 hbq hd1 hd2 f1 f2
    have hwz0:=HBz.out.size
    have HOz:=zh (HO.out.grow HBz.out (zG _))
    have HOg:=zh (fun (wx:World) (hb:Below wz.heap.size wz wx)=>HOz.out.grow (hb.mono hwz0) (Nat.le_trans hwz0 hb.size))
    have R0:=zh (Row.empty 166 2 (by decide) wz)
    have hA0:Below wz.heap.size wz (wz.alloc (.cells #[] 166)):=(Below.refl _ _).alloc (zG _) _
    have HA0:=zh hA0
    have XT:=zh (encO_take O j)
    have XD:=fun q=>zh (encO_drop O q)
    clear hA0
    go_wp2_with (at_builtin; (refine wpList_append_any rfl _ _ 164 rfl (wz.heap.size) 166 i0 _ 2 40 Tryz.underlying164 hi0 hz0 hz1 hz2 rfl (by decide) (_) (0) ([]) rfl (R0.out.own) _ _ _ ((O.take j).flatMap encO) rfl ?r2 ?l2 ?o2 ?m2 ?b2 ?s2 ?_))
    try (case r2=>(have q:=reads_take (p:=j) (HOg.out _ HA0.out).rd (by omega); rw [XT.out]; first | exact q | (rw [World.size_alloc] at q; exact q)))
    try (case l2=>exact Hnil.out)
    try (case o2=>first | exact encO_one (fun x hx=>HO.out.po x (List.mem_of_mem_take hx)) | (intro u y1 y2 y3 hy hu; exact encO_one (fun x hx=>HO.out.po x (List.mem_of_mem_take hx)) u (List.mem_flatMap.2 ⟨_,hy,hu⟩)))
    try (case m2=>unfold maxLen; omega)
    try (case b2=>omega)
    try (case s2=>simp)
    intro v1 w1 ho1 hg1 _
    have R1:Hid (Row 166 2 wz.heap.size wz w1 v1 j ((O.take j).flatMap encO)):=zh ⟨ho1,R0.out.bel.grown hg1 (by simp) (fun b hb=>(R0.out.own.lt b hb).1)⟩
    have hs1:=R1.out.bel.size
    clear ho1 hg1 R0 HA0
    have f1:=(R1.out.bel.cell (p:=⟨tb,tq+j * 2,none⟩) htz).trans Hf.out.1
    have f2:=(R1.out.bel.cell (p:=⟨tb,tq+j * 2+1,none⟩) htz).trans Hf.out.2
    have htz1:tb<w1.heap.size:=by omega
    have hbqe:(y.toList == s.toList)=decide (y=s):=beq_dec y s
    by_cases hys:y=s
    ·rw [decide_eq_true hys] at hbqe
     have F:=zh (Fh2.out hys)
     clear hys Fh2 Fm2
     have RJ0:=zh (Row.empty 3 1 (by decide) w1)
     have HPz:=zh (fun (wx:World) (hb:Below wz.heap.size wz wx)=>(HPr.out.below (HBz.out.trans (hb.mono hwz0))).more (Nat.le_trans hwz0 hb.size))
     have HJ0:Hid (Below w1.heap.size w1 (w1.alloc (.cells #[] 3))):=zh ((Below.refl _ _).alloc (zG _) _)
     go_wp2_with (at_builtin; (refine wpList_append_any rfl _ _ 38 rfl (w1.heap.size) 3 j0 _ 1 8 Tryz.underlying38 hj0 hy0 hy1 hy2 rfl (by decide) (_) (0) ([]) rfl (RJ0.out.own) _ _ _ (nC ps) rfl ?r3 ?l3 ?o3 ?m3 ?b3 ?s3 ?_))
     try (case r3=>exact HPz.out _ (R1.out.bel.trans (HJ0.out.mono hs1)))
     try (case l3=>exact HPn.out)
     try (case o3=>exact nC_one _)
     try (case m3=>unfold maxLen; omega)
     try (case b3=>omega)
     try (case s3=>simp)
     intro v2 w2 ho2 hg2 _
     have RJ:Hid (Row 3 1 w1.heap.size w1 w2 v2 ps.length (nC ps)):=zh ⟨ho2,RJ0.out.bel.grown hg2 (by simp) (fun b hb=>(RJ0.out.own.lt b hb).1)⟩
     have hs2:=RJ.out.bel.size
     clear ho2 hg2 RJ0 HJ0 f1 f2
     go_wp2_with (at_builtin; (refine wpList_append_any rfl _ _ 38 rfl (w1.heap.size) 3 j0 _ 1 8 Tryz.underlying38 hj0 hy0 hy1 hy2 rfl (by decide) (v2) (ps.length) (nC ps) rfl ((RJ.out.alloc hs2 _).own) _ _ _ ([.int .i64 (p:Nat)]) rfl ?r4 ?l4 ?o4 ?m4 ?b4 ?s4 ?_))
     try (case r4=>exact new_row (k:=1) w2 3 [.int .i64 (p:Nat)] 1 rfl (by decide))
     try (case l4=>intro e; cases e)
     try (case o4=>simp [Value.oneCell'])
     try (case m4=>unfold maxLen; omega)
     try (case b4=>omega)
     try (case s4=>first | omega | (simp; omega))
     intro v3 w3 ho3 hg3 _
     have RK:Hid (Row 3 1 w1.heap.size w1 w3 v3 (ps.length+1) (nC (ps ++ [p]))):=zh (by rw [nC_snoc]; exact (RJ.out.alloc hs2 _).app (by simp; omega) ho3 hg3)
     have hs3:=RK.out.bel.size
     have R3:Hid (Row 166 2 wz.heap.size wz w3 v1 j ((O.take j).flatMap encO)):=zh (R1.out.below hs1 RK.out.bel)
     obtain ⟨b3,q3,rfl⟩:=own_succ RK.out.own
     clear ho3 hg3 RJ
     go_wp2_with (at_builtin; (refine wpList_append_any rfl _ _ 164 rfl (wz.heap.size) 166 i0 _ 2 40 Tryz.underlying164 hi0 hz0 hz1 hz2 rfl (by decide) (v1) (j) ((O.take j).flatMap encO) rfl ((R3.out.alloc (by omega) _).own) _ _ _ ([.string s,.slice (some ⟨b3,0,none⟩) (ps.length+1) q3]) rfl ?r5 ?l5 ?o5 ?m5 ?b5 ?s5 ?_))
     try (case r5=>exact new_row (k:=2) w3 166 [.string s,.slice (some ⟨b3,0,none⟩) (ps.length+1) q3] 1 rfl (by decide))
     try (case l5=>intro e; cases e)
     try (case o5=>simp [Value.oneCell'])
     try (case m5=>unfold maxLen; omega)
     try (case b5=>omega)
     try (case s5=>first | omega | (simp; omega))
     intro v4 w4 ho4 hg4 _
     have R4:Hid (Row 166 2 wz.heap.size wz w4 v4 (j+1) ((O.take j).flatMap encO ++ encO (s,.slice (some ⟨b3,0,none⟩) (ps.length+1) q3,ps ++ [p]))):=zh ((R3.out.alloc (by omega) _).app (by simp; omega) ho4 hg4)
     have RK4:Hid (w4.ownsRow w1.heap.size 3 1 (.slice (some ⟨b3,0,none⟩) (ps.length+1) q3) (ps.length+1) (nC (ps ++ [p]))):=zh (own_apart (RK.out.alloc hs3 _).own (R3.out.alloc (by omega) _).own (by decide) hg4)
     have hs4:=R4.out.bel.size
     have hw43:w3.heap.size≤w4.heap.size:=by have:=hg4.size; simp at this; omega
     clear ho4 hg4 R3 RK
     have hjj:(0:Int)≤(j:Int)+1:=by omega
     have hjt:((j:Int)+1).toNat=j+1:=by omega
     have hjn:(j:Int)+1≤(n:Int):=by omega
     by_cases hcq:c=j+1
     ·go_wp2_with (at_builtin; (refine wpList_append_any rfl _ _ 164 rfl (wz.heap.size) 166 i0 _ 2 40 Tryz.underlying164 hi0 hz0 hz1 hz2 rfl (by decide) (v4) (j+1) (_) rfl (R4.out.own) _ _ _ ((O.drop (j+1)).flatMap encO) rfl ?r6 ?l6 ?o6 ?m6 ?b6 ?s6 ?_))
      try (case r6=>(rw [List.drop_eq_nil_of_le (by omega)]; exact ⟨(by have h0:n - (j+1)=0:=(by omega); simp [h0]),fun h=>absurd h (by omega)⟩))
      try (case l6=>intro e; first | exact Hnil.out e | (have:=Hnil.out e; omega) | (cases e; done))
      try (case o6=>first | exact encO_one (fun x hx=>HO.out.po x (List.mem_of_mem_drop hx)) | (intro u y1 y2 y3 hy hu; exact encO_one (fun x hx=>HO.out.po x (List.mem_of_mem_drop hx)) u (List.mem_flatMap.2 ⟨_,hy,hu⟩)))
      try (case m6=>unfold maxLen; omega)
      try (case b6=>omega)
      try (case s6=>first | omega | (simp; omega))
      intro v5 w5 ho5 hg5 _
      have hps:ps.length+1≤65536:=by omega
      have R5:Hid (Row 166 2 wz.heap.size wz w5 v5 (j+1+(n - (j+1))) ((O.take j).flatMap encO ++ encO (s,.slice (some ⟨b3,0,none⟩) (ps.length+1) q3,ps ++ [p]) ++ (O.drop (j+1)).flatMap encO)):=zh (R4.out.app hs4 (by first | exact ho5 | simpa using ho5) hg5)
      have RK5:=own_apart RK4.out R4.out.own (by decide) hg5
      obtain ⟨A6,c6,e6,hR6,hc6,hn6,_⟩:=own_shape2 RK5
      injection e6 with e6 e7 e8
      have hPX:Hid (PosR w5 w5.heap.size (s,.slice (some ⟨b3,0,none⟩) (ps.length+1) q3,ps ++ [p])):=zh ⟨⟨some ⟨b3,0,none⟩,q3,by simp,by rw [e6]; simpa using hR6,by simp; omega,fun e=>by cases e⟩,hs,by simp; omega⟩
      clear ho5 hg5 RK5 hR6
      go_wp2
      go_ret
      rw [F.out (.slice (some ⟨b3,0,none⟩) (ps.length+1) q3)]
      exact add_fin (HO.out.grow HBz.out (zG _)) hwz0 HBz.out R5.out hPX.out (by omega) (by omega) (by omega)
     ·go_wp2_with (at_builtin; (refine wpList_append_any rfl _ _ 164 rfl (wz.heap.size) 166 i0 _ 2 40 Tryz.underlying164 hi0 hz0 hz1 hz2 rfl (by decide) (v4) (j+1) (_) rfl (R4.out.own) _ _ _ ((O.drop (j+1)).flatMap encO) rfl ?r7 ?l7 ?o7 ?m7 ?b7 ?s7 ?_))
      try (case r7=>(have q:=reads_cut (p:=j+1) (HOg.out _ R4.out.bel).rd (by omega) hcap; rw [if_neg hcq] at q; rw [(XD (j+1)).out]; first | exact q | (simpa [add_lit] using q)))
      try (case l7=>intro e; first | (cases e; done) | (have:=Hnil.out e; omega) | (simp at e; done) | (simp at e; have:=Hnil.out e; omega))
      try (case o7=>first | exact encO_one (fun x hx=>HO.out.po x (List.mem_of_mem_drop hx)) | (intro u y1 y2 y3 hy hu; exact encO_one (fun x hx=>HO.out.po x (List.mem_of_mem_drop hx)) u (List.mem_flatMap.2 ⟨_,hy,hu⟩)))
      try (case m7=>unfold maxLen; omega)
      try (case b7=>omega)
      try (case s7=>first | omega | (simp; omega))
      intro v5 w5 ho5 hg5 _
      have hps:ps.length+1≤65536:=by omega
      have R5:Hid (Row 166 2 wz.heap.size wz w5 v5 (j+1+(n - (j+1))) ((O.take j).flatMap encO ++ encO (s,.slice (some ⟨b3,0,none⟩) (ps.length+1) q3,ps ++ [p]) ++ (O.drop (j+1)).flatMap encO)):=zh (R4.out.app hs4 (by first | exact ho5 | simpa using ho5) hg5)
      have RK5:=own_apart RK4.out R4.out.own (by decide) hg5
      obtain ⟨A6,c6,e6,hR6,hc6,hn6,_⟩:=own_shape2 RK5
      injection e6 with e6 e7 e8
      have hPX:Hid (PosR w5 w5.heap.size (s,.slice (some ⟨b3,0,none⟩) (ps.length+1) q3,ps ++ [p])):=zh ⟨⟨some ⟨b3,0,none⟩,q3,by simp,by rw [e6]; simpa using hR6,by simp; omega,fun e=>by cases e⟩,hs,by simp; omega⟩
      clear ho5 hg5 RK5 hR6
      go_wp2
      go_ret
      rw [F.out (.slice (some ⟨b3,0,none⟩) (ps.length+1) q3)]
      exact add_fin (HO.out.grow HBz.out (zG _)) hwz0 HBz.out R5.out hPX.out (by omega) (by omega) (by omega)
    ·rw [decide_eq_false hys] at hbqe
     have F:=zh (Fm2.out hys)
     clear hys Fh2 Fm2
     have RK0:Hid ((w1.alloc (.cells #[.int .i64 (p:Nat)] 3)).ownsRow w1.heap.size 3 1 (.slice (some ⟨w1.heap.size,0,none⟩) 1 1) 1 (nC [p])):=zh ⟨rfl,.inr ⟨w1.heap.size,1,_,rfl,zG _,World.alloc_heap_new w1 _,zG _,by unfold maxLen; omega,rfl,rfl⟩⟩
     go_wp2_with (at_builtin; (refine wpList_append_any rfl _ _ 164 rfl (wz.heap.size) 166 i0 _ 2 40 Tryz.underlying164 hi0 hz0 hz1 hz2 rfl (by decide) (v1) (j) ((O.take j).flatMap encO) rfl (((R1.out.alloc hs1 _).alloc (by simp; omega) _).own) _ _ _ ([.string s,.slice (some ⟨w1.heap.size,0,none⟩) 1 1]) rfl ?r8 ?l8 ?o8 ?m8 ?b8 ?s8 ?_))
     try (case r8=>(have q:=new_row (k:=2) (w1.alloc (.cells #[.int .i64 (p:Nat)] 3)) 166 [.string s,.slice (some ⟨w1.heap.size,0,none⟩) 1 1] 1 rfl (by decide); first | exact q | (simpa using q)))
     try (case l8=>intro e; cases e)
     try (case o8=>simp [Value.oneCell'])
     try (case m8=>unfold maxLen; omega)
     try (case b8=>omega)
     try (case s8=>first | omega | (simp; omega))
     intro v4 w4 ho4 hg4 _
     have R4:Hid (Row 166 2 wz.heap.size wz w4 v4 (j+1) ((O.take j).flatMap encO ++ encO (s,.slice (some ⟨w1.heap.size,0,none⟩) 1 1,[p]))):=zh (((R1.out.alloc hs1 _).alloc (by simp; omega) _).app (by simp; omega) ho4 hg4)
     have RK4:Hid (w4.ownsRow w1.heap.size 3 1 (.slice (some ⟨w1.heap.size,0,none⟩) 1 1) 1 (nC [p])):=zh (own_apart (RK0.out.alloc _) ((R1.out.alloc hs1 _).alloc (by simp; omega) _).own (by decide) hg4)
     have hs4:=R4.out.bel.size
     clear ho4 hg4 RK0
     have hjj:(0:Int)≤(j:Int):=by omega
     have hjt:((j:Int)).toNat=j:=by omega
     have hjn:(j:Int)≤(n:Int):=by omega
     by_cases hcq:c=j
     ·go_wp2_with (at_builtin; (refine wpList_append_any rfl _ _ 164 rfl (wz.heap.size) 166 i0 _ 2 40 Tryz.underlying164 hi0 hz0 hz1 hz2 rfl (by decide) (v4) (j+1) (_) rfl (R4.out.own) _ _ _ ((O.drop (j)).flatMap encO) rfl ?r9 ?l9 ?o9 ?m9 ?b9 ?s9 ?_))
      try (case r9=>(rw [List.drop_eq_nil_of_le (by omega)]; exact ⟨(by have h0:n - (j)=0:=(by omega); simp [h0]),fun h=>absurd h (by omega)⟩))
      try (case l9=>intro e; first | exact Hnil.out e | (have:=Hnil.out e; omega) | (cases e; done))
      try (case o9=>first | exact encO_one (fun x hx=>HO.out.po x (List.mem_of_mem_drop hx)) | (intro u y1 y2 y3 hy hu; exact encO_one (fun x hx=>HO.out.po x (List.mem_of_mem_drop hx)) u (List.mem_flatMap.2 ⟨_,hy,hu⟩)))
      try (case m9=>unfold maxLen; omega)
      try (case b9=>omega)
      try (case s9=>first | omega | (simp; omega))
      intro v5 w5 ho5 hg5 _
      have R5:Hid (Row 166 2 wz.heap.size wz w5 v5 (j+1+(n - j)) ((O.take j).flatMap encO ++ encO (s,.slice (some ⟨w1.heap.size,0,none⟩) 1 1,[p]) ++ (O.drop j).flatMap encO)):=zh (R4.out.app hs4 (by first | exact ho5 | simpa using ho5 | (rw [show n - j=0 from (by omega)]; simpa using ho5)) hg5)
      have RK5:=own_apart RK4.out R4.out.own (by decide) hg5
      obtain ⟨A6,c6,e6,hR6,hc6,hn6,_⟩:=own_shape2 RK5
      injection e6 with e6 e7 e8
      have hPX:Hid (PosR w5 w5.heap.size (s,.slice (some ⟨w1.heap.size,0,none⟩) 1 1,[p])):=zh ⟨⟨some ⟨w1.heap.size,0,none⟩,1,rfl,by rw [e6]; simpa using hR6,zG _,fun e=>by cases e⟩,hs,by simp⟩
      clear ho5 hg5 RK5 hR6
      go_wp2
      go_ret
      rw [F.out (.slice (some ⟨w1.heap.size,0,none⟩) 1 1)]
      exact add_fin (HO.out.grow HBz.out (zG _)) hwz0 HBz.out R5.out hPX.out (by omega) (by omega) (by omega)
     ·go_wp2_with (at_builtin; (refine wpList_append_any rfl _ _ 164 rfl (wz.heap.size) 166 i0 _ 2 40 Tryz.underlying164 hi0 hz0 hz1 hz2 rfl (by decide) (v4) (j+1) (_) rfl (R4.out.own) _ _ _ ((O.drop (j)).flatMap encO) rfl ?r10 ?l10 ?o10 ?m10 ?b10 ?s10 ?_))
      try (case r10=>(have q:=reads_cut (p:=j) (HOg.out _ R4.out.bel).rd (by omega) hcap; rw [if_neg hcq] at q; rw [(XD (j)).out]; first | exact q | (simpa [add_lit] using q)))
      try (case l10=>intro e; first | (cases e; done) | (have:=Hnil.out e; omega) | (simp at e; done) | (simp at e; have:=Hnil.out e; omega))
      try (case o10=>first | exact encO_one (fun x hx=>HO.out.po x (List.mem_of_mem_drop hx)) | (intro u y1 y2 y3 hy hu; exact encO_one (fun x hx=>HO.out.po x (List.mem_of_mem_drop hx)) u (List.mem_flatMap.2 ⟨_,hy,hu⟩)))
      try (case m10=>unfold maxLen; omega)
      try (case b10=>omega)
      try (case s10=>first | omega | (simp; omega))
      intro v5 w5 ho5 hg5 _
      have R5:Hid (Row 166 2 wz.heap.size wz w5 v5 (j+1+(n - j)) ((O.take j).flatMap encO ++ encO (s,.slice (some ⟨w1.heap.size,0,none⟩) 1 1,[p]) ++ (O.drop j).flatMap encO)):=zh (R4.out.app hs4 (by first | exact ho5 | simpa using ho5 | (rw [show n - j=0 from (by omega)]; simpa using ho5)) hg5)
      have RK5:=own_apart RK4.out R4.out.own (by decide) hg5
      obtain ⟨A6,c6,e6,hR6,hc6,hn6,_⟩:=own_shape2 RK5
      injection e6 with e6 e7 e8
      have hPX:Hid (PosR w5 w5.heap.size (s,.slice (some ⟨w1.heap.size,0,none⟩) 1 1,[p])):=zh ⟨⟨some ⟨w1.heap.size,0,none⟩,1,rfl,by rw [e6]; simpa using hR6,zG _,fun e=>by cases e⟩,hs,by simp⟩
      clear ho5 hg5 RK5 hR6
      go_wp2
      go_ret
      rw [F.out (.slice (some ⟨w1.heap.size,0,none⟩) 1 1)]
      exact add_fin (HO.out.grow HBz.out (zG _)) hwz0 HBz.out R5.out hPX.out (by omega) (by omega) (by omega)
   ·have hji:¬ (j:Int)<(n:Int):=by omega
    have F:=zh (Fm.out (fun h=>absurd h hkn))
    have HBz:=zh hbq.out
    obtain ⟨wz,hwz⟩:∃ wz,wz=wr:=⟨_,rfl⟩
    subst hwz
    have hb3:(0:Int)≤(j:Int):=by omega
    have hb4:(j:Int)≤(n:Int):=by omega
    have hb5:(j:Int)≤(c:Int):=by omega
    have hdj:decide ((j:Int)<(n:Int))=false:=decide_eq_false hji
    clear Fh Fm hbq
    have hwz0:=HBz.out.size
    have HOz:=zh (HO.out.grow HBz.out (zG _))
    have HOg:=zh (fun (wx:World) (hb:Below wz.heap.size wz wx)=>HOz.out.grow (hb.mono hwz0) (Nat.le_trans hwz0 hb.size))
    have R0:=zh (Row.empty 166 2 (by decide) wz)
    have hA0:Below wz.heap.size wz (wz.alloc (.cells #[] 166)):=(Below.refl _ _).alloc (zG _) _
    have HA0:=zh hA0
    have XT:=zh (encO_take O j)
    have XD:=fun q=>zh (encO_drop O q)
    clear hA0
    go_wp2_with (at_builtin; (refine wpList_append_any rfl _ _ 164 rfl (wz.heap.size) 166 i0 _ 2 40 Tryz.underlying164 hi0 hz0 hz1 hz2 rfl (by decide) (_) (0) ([]) rfl (R0.out.own) _ _ _ ((O.take j).flatMap encO) rfl ?r11 ?l11 ?o11 ?m11 ?b11 ?s11 ?_))
    try (case r11=>(have q:=reads_take (p:=j) (HOg.out _ HA0.out).rd (by omega); rw [XT.out]; first | exact q | (rw [World.size_alloc] at q; exact q)))
    try (case l11=>exact Hnil.out)
    try (case o11=>first | exact encO_one (fun x hx=>HO.out.po x (List.mem_of_mem_take hx)) | (intro u y1 y2 y3 hy hu; exact encO_one (fun x hx=>HO.out.po x (List.mem_of_mem_take hx)) u (List.mem_flatMap.2 ⟨_,hy,hu⟩)))
    try (case m11=>unfold maxLen; omega)
    try (case b11=>omega)
    try (case s11=>simp)
    intro v1 w1 ho1 hg1 _
    have R1:Hid (Row 166 2 wz.heap.size wz w1 v1 j ((O.take j).flatMap encO)):=zh ⟨ho1,R0.out.bel.grown hg1 (by simp) (fun b hb=>(R0.out.own.lt b hb).1)⟩
    have hs1:=R1.out.bel.size
    clear ho1 hg1 R0 HA0
    have RK0:Hid ((w1.alloc (.cells #[.int .i64 (p:Nat)] 3)).ownsRow w1.heap.size 3 1 (.slice (some ⟨w1.heap.size,0,none⟩) 1 1) 1 (nC [p])):=zh ⟨rfl,.inr ⟨w1.heap.size,1,_,rfl,zG _,World.alloc_heap_new w1 _,zG _,by unfold maxLen; omega,rfl,rfl⟩⟩
    go_wp2_with (at_builtin; (refine wpList_append_any rfl _ _ 164 rfl (wz.heap.size) 166 i0 _ 2 40 Tryz.underlying164 hi0 hz0 hz1 hz2 rfl (by decide) (v1) (j) ((O.take j).flatMap encO) rfl (((R1.out.alloc hs1 _).alloc (by simp; omega) _).own) _ _ _ ([.string s,.slice (some ⟨w1.heap.size,0,none⟩) 1 1]) rfl ?r12 ?l12 ?o12 ?m12 ?b12 ?s12 ?_))
    try (case r12=>(have q:=new_row (k:=2) (w1.alloc (.cells #[.int .i64 (p:Nat)] 3)) 166 [.string s,.slice (some ⟨w1.heap.size,0,none⟩) 1 1] 1 rfl (by decide); first | exact q | (simpa using q)))
    try (case l12=>intro e; cases e)
    try (case o12=>simp [Value.oneCell'])
    try (case m12=>unfold maxLen; omega)
    try (case b12=>omega)
    try (case s12=>first | omega | (simp; omega))
    intro v4 w4 ho4 hg4 _
    have R4:Hid (Row 166 2 wz.heap.size wz w4 v4 (j+1) ((O.take j).flatMap encO ++ encO (s,.slice (some ⟨w1.heap.size,0,none⟩) 1 1,[p]))):=zh (((R1.out.alloc hs1 _).alloc (by simp; omega) _).app (by simp; omega) ho4 hg4)
    have RK4:Hid (w4.ownsRow w1.heap.size 3 1 (.slice (some ⟨w1.heap.size,0,none⟩) 1 1) 1 (nC [p])):=zh (own_apart (RK0.out.alloc _) ((R1.out.alloc hs1 _).alloc (by simp; omega) _).own (by decide) hg4)
    have hs4:=R4.out.bel.size
    clear ho4 hg4 RK0
    have hjj:(0:Int)≤(j:Int):=by omega
    have hjt:((j:Int)).toNat=j:=by omega
    have hjn:(j:Int)≤(n:Int):=by omega
    by_cases hcq:c=j
    ·go_wp2_with (at_builtin; (refine wpList_append_any rfl _ _ 164 rfl (wz.heap.size) 166 i0 _ 2 40 Tryz.underlying164 hi0 hz0 hz1 hz2 rfl (by decide) (v4) (j+1) (_) rfl (R4.out.own) _ _ _ ((O.drop (j)).flatMap encO) rfl ?r13 ?l13 ?o13 ?m13 ?b13 ?s13 ?_))
     try (case r13=>(rw [List.drop_eq_nil_of_le (by omega)]; exact ⟨(by have h0:n - (j)=0:=(by omega); simp [h0]),fun h=>absurd h (by omega)⟩))
     try (case l13=>intro e; first | exact Hnil.out e | (have:=Hnil.out e; omega) | (cases e; done))
     try (case o13=>first | exact encO_one (fun x hx=>HO.out.po x (List.mem_of_mem_drop hx)) | (intro u y1 y2 y3 hy hu; exact encO_one (fun x hx=>HO.out.po x (List.mem_of_mem_drop hx)) u (List.mem_flatMap.2 ⟨_,hy,hu⟩)))
     try (case m13=>unfold maxLen; omega)
     try (case b13=>omega)
     try (case s13=>first | omega | (simp; omega))
     intro v5 w5 ho5 hg5 _
     have R5:Hid (Row 166 2 wz.heap.size wz w5 v5 (j+1+(n - j)) ((O.take j).flatMap encO ++ encO (s,.slice (some ⟨w1.heap.size,0,none⟩) 1 1,[p]) ++ (O.drop j).flatMap encO)):=zh (R4.out.app hs4 (by first | exact ho5 | simpa using ho5 | (rw [show n - j=0 from (by omega)]; simpa using ho5)) hg5)
     have RK5:=own_apart RK4.out R4.out.own (by decide) hg5
     obtain ⟨A6,c6,e6,hR6,hc6,hn6,_⟩:=own_shape2 RK5
     injection e6 with e6 e7 e8
     have hPX:Hid (PosR w5 w5.heap.size (s,.slice (some ⟨w1.heap.size,0,none⟩) 1 1,[p])):=zh ⟨⟨some ⟨w1.heap.size,0,none⟩,1,rfl,by rw [e6]; simpa using hR6,zG _,fun e=>by cases e⟩,hs,by simp⟩
     clear ho5 hg5 RK5 hR6
     go_wp2
     go_ret
     rw [F.out (.slice (some ⟨w1.heap.size,0,none⟩) 1 1)]
     exact add_fin (HO.out.grow HBz.out (zG _)) hwz0 HBz.out R5.out hPX.out (by omega) (by omega) (by omega)
    ·go_wp2_with (at_builtin; (refine wpList_append_any rfl _ _ 164 rfl (wz.heap.size) 166 i0 _ 2 40 Tryz.underlying164 hi0 hz0 hz1 hz2 rfl (by decide) (v4) (j+1) (_) rfl (R4.out.own) _ _ _ ((O.drop (j)).flatMap encO) rfl ?r14 ?l14 ?o14 ?m14 ?b14 ?s14 ?_))
     try (case r14=>(have q:=reads_cut (p:=j) (HOg.out _ R4.out.bel).rd (by omega) hcap; rw [if_neg hcq] at q; rw [(XD (j)).out]; first | exact q | (simpa [add_lit] using q)))
     try (case l14=>intro e; first | (cases e; done) | (have:=Hnil.out e; omega) | (simp at e; done) | (simp at e; have:=Hnil.out e; omega))
     try (case o14=>first | exact encO_one (fun x hx=>HO.out.po x (List.mem_of_mem_drop hx)) | (intro u y1 y2 y3 hy hu; exact encO_one (fun x hx=>HO.out.po x (List.mem_of_mem_drop hx)) u (List.mem_flatMap.2 ⟨_,hy,hu⟩)))
     try (case m14=>unfold maxLen; omega)
     try (case b14=>omega)
     try (case s14=>first | omega | (simp; omega))
     intro v5 w5 ho5 hg5 _
     have R5:Hid (Row 166 2 wz.heap.size wz w5 v5 (j+1+(n - j)) ((O.take j).flatMap encO ++ encO (s,.slice (some ⟨w1.heap.size,0,none⟩) 1 1,[p]) ++ (O.drop j).flatMap encO)):=zh (R4.out.app hs4 (by first | exact ho5 | simpa using ho5 | (rw [show n - j=0 from (by omega)]; simpa using ho5)) hg5)
     have RK5:=own_apart RK4.out R4.out.own (by decide) hg5
     obtain ⟨A6,c6,e6,hR6,hc6,hn6,_⟩:=own_shape2 RK5
     injection e6 with e6 e7 e8
     have hPX:Hid (PosR w5 w5.heap.size (s,.slice (some ⟨w1.heap.size,0,none⟩) 1 1,[p])):=zh ⟨⟨some ⟨w1.heap.size,0,none⟩,1,rfl,by rw [e6]; simpa using hR6,zG _,fun e=>by cases e⟩,hs,by simp⟩
     clear ho5 hg5 RK5 hR6
     go_wp2
     go_ret
     rw [F.out (.slice (some ⟨w1.heap.size,0,none⟩) 1 1)]
     exact add_fin (HO.out.grow HBz.out (zG _)) hwz0 HBz.out R5.out hPX.out (by omega) (by omega) (by omega)
end Go.Proofs.YtlfpfkallgkjdaaGreat.Ev
end

section
namespace Go.Proofs.YtlfpfkallgkjdaaGreat.Ev
open Go.RowKit Ut Tk Qy Qp Rg
def RTermsPost (w:World) (l:List Tm) (e:Ending) (w':World):Prop:=AddPost w l e w'
structure RT (w wr:World) (v:Value) (L:List T1):Prop where
 ex:∃ A n c O,v=.slice A n c∧O.map prj=addAll L∧TmO wr wr.heap.size A n c O
 bel:Below w.heap.size w wr
theorem RT.below {w wr w2:World} {v:Value} {L:List T1} (h:RT w wr v L) (hb:Below wr.heap.size wr w2):RT w w2 v L:=by
 obtain ⟨A,n,c,O,e,h1,h2⟩:=h.ex
 exact ⟨⟨A,n,c,O,e,h1,h2.grow hb hb.size⟩,h.bel.trans (hb.mono h.bel.size)⟩
theorem RT.start {w wr:World} (hb:Below w.heap.size w wr):RT w wr (.slice none 0 0) []:=⟨⟨none,0,0,[],rfl,rfl,⟨⟨rfl,fun h=>absurd h (by omega)⟩,rfl,zG _,fun _=>rfl,fun x hx=>(nomatch hx)⟩⟩,hb⟩
set_option maxHeartbeats 6400000 in
theorem rterms_any (t:Int) (F:Option Addr) (fn fc:Nat) (fs:List Fl) (w:World) (h:FlAt w w.heap.size F fn fc fs) (hok:chkE fs=0) :
  Calls Tryz.prog 86 #[.agg #[.int .i64 t,.slice F fn fc]] w (RTermsPost w (addAll (raw fs))):=by
 have hB1:Below w.heap.size w (w.alloc (.cells #[.int .i64 t,.slice F fn fc] 33)):=(Below.refl _ _).alloc (zG _) _
 have hX:=Blk.new w 33 #[.int .i64 t,.slice F fn fc]
 have c1:=rcheck_any t F fn fc fs _ (h.grow hB1)
 rw [hok] at c1
 have C1:=zh c1
 have H:=zh (And.intro hX hB1)
 have hk:=chkE_ok hok
 have HFL:=zh h
 have HOK:=zh hk
 have hl1:fs.length≤fn:=by have:=h.len; omega
 have hl2:fn≤fs.length:=by have:=h.len; omega
 have hl3:fn≤16:=by omega
 have hcap:=h.cap
 have HS:Hid (∀ f∈fs,f.2.size≤4096):=zh (fun f hf=>(hk.2 f hf).2.2)
 clear hX hB1 c1 h hk hok
 go_enter Tryz.func86,Tryz.ntmps86
 go_wp2_with fail
 refine C1.out.mono ?_
 rintro e W0 ⟨rfl,hb0⟩
 have HX:Hid (∀ wr,Below W0.heap.size W0 wr→Blk wr w.heap.size 33 #[.int .i64 t,.slice F fn fc]∧FlAt wr w.heap.size F fn fc fs):=zh (fun wr hb=>⟨(H.out.1.below hb0 H.out.1.lt).below hb (by have:=H.out.1.lt; have:=hb0.size; omega),HFL.out.keep (fun b o hp=>((H.out.2.trans (hb0.mono H.out.2.size)).trans (hb.mono (by have:=H.out.2.size; have:=hb0.size; omega))).cell (p:=⟨b,o,none⟩) hp)⟩)
 have hw0:Hid (Below w.heap.size w W0):=zh (H.out.2.trans (hb0.mono H.out.2.size))
 clear hb0 H C1
 go_wp2_with fail
 go_loopw [3,4,5] (fun v b i wr=>∃ k:Nat,k≤fs.length∧i=.int .i64 (k:Nat)∧b=.int .i64 (baseAt fs k:Nat)∧Hid (RT W0 wr v (rawN fs k))) (fun _ _ i _=>fs.length - (intOf i).toNat)
 case atStart=>exact ⟨0,Nat.zero_le _,rfl,by cases fs <;> rfl,zh (RT.start (Below.refl _ _))⟩
 case round =>
  obtain ⟨k,hk,rfl,rfl,hR⟩:=hrel
  have hX1:=HX.out wr hR.out.bel
  have d1:=hX1.1.cell 1
  simp only [zA,zB,zC] at d1
  have hwr:W0.heap.size≤wr.heap.size:=hR.out.bel.size
  have hbx:=hX1.1.lt
  by_cases hlt:k<fs.length
  ·have hkz:(k:Int)<(fn:Int):=by omega
   have hk0:(0:Int)≤(k:Int):=by omega
   obtain ⟨fb,fo,rfl,hfb,cn,ct⟩:=hX1.2.at_ hlt
   have hok:=HOK.out.2 _ (List.getElem_mem hlt)
   have hbs:=baseAt_succ fs k hlt
   have hble:=baseAt_le fs k HS.out
   have hrs:=rawN_succ fs k hlt
   have hrl:=rawN_len fs HS.out k (by omega)
   have HBS:=zh hbs
   have HRS:=zh hrs
   clear hX1 hbs hrs
   generalize hf:fs[k]=f at *
   have HF:=zh hf
   clear hf
   obtain ⟨nm,tx⟩:=f
   simp only at hok cn ct HBS HRS
   obtain ⟨_,hn1,hn2⟩:=hok
   have hwl:=words_len tx
   have c2:=tokens_ref tx wr (by omega)
   have C2:=zh c2
   have hbz:baseAt fs k≤100000:=by omega
   clear c2 hble
   generalize baseAt fs k=base at *
   have HWW:=zh (words_word tx.data.toList)
   go_wp2_with fail
   refine C2.out.mono ?_
   rintro e W1 ⟨v1,rfl,hown1,hb1⟩
   obtain ⟨A1,q1,rfl,hR1,hq1,hn1',_⟩:=own_shape2 hown1
   have HR1:Hid (∀ wx,Below W1.heap.size W1 wx→Reads wx W1.heap.size 2 A1 (words tx.data.toList).length (tokC (placed (words tx.data.toList)))):=zh (fun wx hb=>hR1.below hb)
   have HRT1:Hid (RT W0 W1 _ (rawN fs k ++ (rawO (base,(nm,tx))).take 0)):=zh (by have:=hR.out.below hb1; rw [List.take_zero,List.append_nil]; exact this)
   have hW1:wr.heap.size≤W1.heap.size:=hb1.size
   have HW0:Hid (∀ wx,Below W1.heap.size W1 wx→Below W0.heap.size W0 wx):=zh (fun wx hb=>(hR.out.bel.trans (hb1.mono hwr)).trans (hb.mono (by omega)))
   clear hown1 hR1 hn1' hb1 hR d1 cn ct C2
   go_wp2_with fail
   go_loopw [3,7] (fun v j wr=>∃ m:Nat,m≤(words tx.data.toList).length∧j=.int .i64 (m:Nat)∧Hid (RT W0 wr v (rawN fs k ++ (rawO (base,(nm,tx))).take m))∧Hid (Below W1.heap.size W1 wr)) (fun _ j _=>(words tx.data.toList).length - (intOf j).toNat)
   case atStart=>exact ⟨0,Nat.zero_le _,rfl,HRT1,zh (Below.refl _ _)⟩
   case round =>
    clear HRT1
    obtain ⟨m,hm,rfl,hR,hB⟩:=hrel
    by_cases hlm:m<(words tx.data.toList).length
    ·have hmz:(m:Int)<((words tx.data.toList).length:Int):=by omega
     have hm0:(0:Int)≤(m:Int):=by omega
     obtain ⟨tb,tq,rfl,htb,t0,t1'⟩:=toks_at (HR1.out wr hB.out) rfl hlm
     have htk:=rawO_take (base,(nm,tx)) m hlm
     have hwk:=(HWW.out _ (List.getElem_mem hlm)).2
     have hcat:=term_cat nm (words tx.data.toList)[m]
     have hsw:(str (words tx.data.toList)[m]).size≤32:=by unfold str; simpa [ByteArray.size] using hwk
     have hts:=termT_size nm (words tx.data.toList)[m]
     have hX2:=HX.out wr (HW0.out wr hB.out)
     have x1:=hX2.1.cell 1
     simp only [zA,zB,zC] at x1
     obtain ⟨fb2,fo2,eF,hfb2,cn2,_⟩:=hX2.2.at_ hlt
     injection eF with eF
     injection eF with eF1 eF2
     subst eF1 eF2
     obtain ⟨A,n,c,O,rfl,hO1,hO2⟩:=hR.out.ex
     have hfk:Hid (fs[k].1=nm):=zh (by rw [HF.out])
     rw [hfk.out] at cn2
     have hbwr:w.heap.size<wr.heap.size:=hX2.1.lt
     have hwB:W1.heap.size≤wr.heap.size:=hB.out.size
     have hcells:∀ wx,Below wr.heap.size wr wx→wx.cell? ⟨w.heap.size,1,none⟩=some (.slice (some ⟨fb,fo,none⟩) fn fc)∧wx.cell? ⟨fb,fo+k * 2,none⟩=some (.string nm)∧wx.cell? ⟨tb,tq+m * 2,none⟩=some (.string (str (words tx.data.toList)[m]))∧wx.cell? ⟨tb,tq+m * 2+1,none⟩=some (.int .i64 (m:Int)):=fun wx hC =>
      ⟨(hC.cell (p:=⟨w.heap.size,1,none⟩) hbwr).trans x1,(hC.cell (p:=⟨fb,fo+k * 2,none⟩) (by show fb < _; omega)).trans cn2,(hC.cell (p:=⟨tb,tq+m * 2,none⟩) (by show tb < _; omega)).trans t0,(hC.cell (p:=⟨tb,tq+m * 2+1,none⟩) (by show tb < _; omega)).trans t1'⟩
     have hnn:n≤65535:=by
      have h1:=addAll_len (rawN fs k ++ (rawO (base,(nm,tx))).take m)
      have h2:=congrArg List.length hO1
      have h3:=hO2.ln
      rw [List.length_append,List.length_take] at h1
      rw [List.length_map] at h2
      omega
     have hpp:∀ x∈O,x.2.2.length≤65535:=fun x hx=>by
      have h1:=addAll_pos (rawN fs k ++ (rawO (base,(nm,tx))).take m) (prj x) (by rw [← hO1]; exact List.mem_map_of_mem hx)
      rw [List.length_append,List.length_take] at h1
      have h2:(prj x).2.length=x.2.2.length:=rfl
      omega
     have Htk:Hid (∀ l,O.map prj=l→addT l (termT nm (words tx.data.toList)[m]) (base+m)=addAll (rawN fs k ++ (rawO (base,(nm,tx))).take (m+1))):=zh (fun l e=>by
      rw [htk,← List.append_assoc,addAll_snoc,← hO1,e])
     have Hcells:=zh hcells
     have HPP:=zh hpp
     have HO2:=zh hO2
     have HB:=hR.out.bel
     have HRB:=zh HB
     have HBB:=zh hB.out
     have hTS:(termT nm (words tx.data.toList)[m]).size≤1048576:=by omega
     generalize (words tx.data.toList)[m]=wk at *
     clear t0 t1' htk hwk hX2 hO1 hO2 hcells hpp hR HB cn2 hts
     have p1:(nm ++ { data:=#[58] }:ByteArray) ++ str wk=termT nm wk:=hcat
     have p2:IntKind.i64.wrap ((base:Int)+(m:Int))=(base:Int)+(m:Int):=by rw [IntKind.wrap_i64]; omega
     have p3:¬ 9223372036854775807<nm.size+1:=by omega
     have p4:¬ 9223372036854775807<nm.size+1+(str wk).size:=by omega
     clear hcat
     go_upto_region 12 with (fail)
     clear x1
     refine wp_region_grow_tail 21 (specOf []) (fun wx=>Below wr.heap.size wr wx) (fun w1 w2=>Below w1.heap.size w1 w2) (by kernel_rfl) (by kernel_rfl) (stab_nil) ((Below.refl _ _).drew) ?_
     simp only [List.take_succ_cons,List.take_zero,List.drop_succ_cons,List.drop_zero]
     iterate 21
      refine grow_fix _ ?_ rfl (by rfl) (by rfl) (fun wx hC hD=>?_) ?_
      rotate_left
      ·have hSw:=Hcells.out wx hC
       go_simp
       all_goals with_reducible rfl
      try simp only [Act.put,zD,zE,zF]
     refine grow_nil (fun w6 hC hF=>?_)
     clear p1 p2 p3 p4
     have HC:=zh hC
     have hC6:=hC.size
     clear hC hF
     go_wp2_with fail
     rw [← Int.natCast_add base m]
     refine (add_any A n c O _ (base+m) w6 (HO2.out.grow HC.out HC.out.size) (by omega) hTS HPP.out).mono ?_
     rintro e w7 ⟨A',n',c',O',rfl,hO',hT',hb7⟩
     have Nx:Hid (RT W0 w7 (.slice A' n' c') (rawN fs k ++ (rawO (base,(nm,tx))).take (m+1))∧Below W1.heap.size W1 w7):=zh ⟨⟨⟨A',n',c',O',rfl,by rw [hO']; exact Htk.out _ rfl,hT'⟩,(HRB.out.trans (HC.out.mono HRB.out.size)).trans (hb7.mono (by have:=HRB.out.size; omega))⟩,(HBB.out.trans (HC.out.mono hwB)).trans (hb7.mono (by omega))⟩
     clear hO' hT' hb7 HC HRB HO2 HPP Htk Hcells HBB
     go_wp2
     go_roundw
     case rel=>exact ⟨m+1,by omega,by go_num,zh Nx.out.1,zh Nx.out.2⟩
     case measure=>simp [intOf]; omega
    ·obtain rfl:m=(words tx.data.toList).length:=by omega
     have Nx:Hid (RT W0 wr _ (rawN fs (k+1))):=zh (by
      have:=hR.out
      rw [List.take_of_length_le (by rw [rawO_len]; exact zG _),← HRS.out] at this
      exact this)
     clear hR hB
     go_wp2
     go_roundw
     case rel=>exact ⟨k+1,by omega,by go_num,by rw [HBS.out]; go_num,Nx⟩
     case measure=>simp [intOf]; omega
  ·obtain rfl:k=fs.length:=by omega
   have hkz:¬ (fs.length:Int)<(fn:Int):=by omega
   rw [rawN_all] at hR
   obtain ⟨A,n,c,O,rfl,h1,h2⟩:=hR.out.ex
   have Fin:Hid (RTermsPost w (addAll (raw fs)) (.returned (.slice A n c)) wr):=zh ⟨A,n,c,O,rfl,h1,h2,hw0.out.trans (hR.out.bel.mono hw0.out.size)⟩
   clear h1 h2
   clear hR hX1
   go_wp2
   go_ret
   exact Fin.out
end Go.Proofs.YtlfpfkallgkjdaaGreat.Ev
end
