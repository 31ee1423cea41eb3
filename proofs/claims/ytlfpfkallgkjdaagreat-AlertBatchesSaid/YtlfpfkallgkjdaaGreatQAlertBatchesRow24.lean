/- The document's Phrase, Begins, Prefixed; token.Prefixed: the walks. -/
import Derived.Test.YtlfpfkallgkjdaaGreatQAlertBatchesRow10
import Derived.Test.YtlfpfkallgkjdaaGreatQAlertBatchesRow1
import Derived.Test.YtlfpfkallgkjdaaGreatQAlertBatchesRow0
set_option linter.unusedSectionVars false
set_option linter.unusedSimpArgs false
set_option linter.unusedVariables false
set_option maxRecDepth 20000
section
namespace Go.Proofs.YtlfpfkallgkjdaaGreat.Qy
open Go.RowKit Ut Tk
set_option maxHeartbeats 1600000 in
theorem phrase_ref (TA:Option Addr) (n tc:Nat) (T:List (List UInt8)) (WA:Option Addr) (m wc:Nat) (ws:List ByteArray) (w:World) (hT:Reads w w.heap.size 2 TA n (tokC (placed T))) (hn:T.length=n) (hn2:n≤1048576)
  (hW:Reads w w.heap.size 1 WA m (ws.map Value.string)) (hm:ws.length=m) (hm2:m≤8796093021952) :
  Calls Tryz.prog 93 #[.slice TA n tc,.slice WA m wc] w (IntPost w (phr T ws)):=by
 obtain ⟨i0,hi0,hz0,hz1,hz2⟩:=info_parts int_info2
 have HT:=zh hT
 have HW:=zh hW
 clear hT hW
 by_cases h0:m=0
 ·have hws:ws=[]:=List.length_eq_zero_iff.1 (by omega)
  have Fin:Hid (phr T ws=[]):=zh (by unfold phr; rw [if_pos hws])
  have h0':¬ (0:Int)<(m:Int):=by omega
  have h0'':¬ 0<m:=by omega
  clear h0 hws hm
  go_enter Tryz.func93,Tryz.ntmps93
  go_wp2
  go_loopw [5,6] (fun v i wr=>v=.slice none 0 0∧i=.int .i64 0∧wr=w) (fun _ i _=>n - (intOf i).toNat)
  case atStart=>exact ⟨rfl,rfl,rfl⟩
  case round =>
   obtain ⟨rfl,rfl,rfl⟩:=hrel
   by_cases hn0:(0:Int)<(n:Int)
   all_goals
    go_wp2
    go_ret
    exact ⟨_,rfl,by rw [Fin.out]; exact Ints.start _⟩
 ·have hws:ws≠[]:=fun e=>h0 (by rw [← hm,e]; rfl)
  have Fin:Hid (phr T ws=phrTo T ws n):=zh (by unfold phr; rw [if_neg hws,hn])
  have h0':(0:Int)<(m:Int):=by omega
  have h0'' : 0<m:=by omega
  have Hn:=zh hn
  have Hm:=zh hm
  clear h0 hws hm hn
  go_enter Tryz.func93,Tryz.ntmps93
  go_wp2
  go_loopw [5,6] (fun v i wr=>∃ k:Nat,k≤n∧i=.int .i64 k∧Ints w wr v (phrTo T ws k)) (fun _ i _=>n - (intOf i).toNat)
  case atStart=>exact ⟨0,Nat.zero_le _,rfl,Ints.start w⟩
  case round =>
   obtain ⟨k,hk,rfl,hI⟩:=hrel
   by_cases hlt:k<n
   ·obtain ⟨tb,tq,rfl,htb,hc1,hc2⟩:=toks_at HT.out Hn.out (k:=k) (by rw [Hn.out]; exact hlt)
    have c1:=stand_ref (some ⟨tb,tq,none⟩) n tc T WA m wc ws k wr ((HT.out.below hI.bel).more hI.bel.size) Hn.out hn2 ((HW.out.below hI.bel).more hI.bel.size) Hm.out hm2 hlt
    have hd2:=(hI.bel.cell (p:=⟨tb,tq+k * 2+1,none⟩) htb).trans hc2
    have htb2:tb<wr.heap.size:=by have:=hI.bel.size; omega
    have HI:=zh hI
    have hpl:=phrTo_len T ws k
    have Hph:=zh (phrTo_succ T ws k)
    clear hI hc1 hc2
    by_cases hs:stands T ws k=true
    ·rw [hs] at c1
     have Hph2:Hid (phrTo T ws (k+1)=phrTo T ws k ++ [k]):=zh (by rw [Hph.out,hs]; rfl)
     clear hs
     generalize phrTo T ws k=P at *
     go_wp2_with fail
     refine c1.mono ?_
     rintro e w2 ⟨rfl,hb2⟩
     have hI2:=HI.out.below hb2
     have hown:=hI2.own
     have hbsz:=hI2.bel.size
     have hd3:=(hb2.cell (p:=⟨tb,tq+k * 2+1,none⟩) htb2).trans hd2
     have HI2:=zh hI2
     clear hI2 c1 hb2
     go_wp2_with (at_builtin; refine wpList_append_own _ rfl _ _ 38 rfl w.heap.size 3 i0 _ 1 8 Tryz.underlying38 hi0 hz0 hz1 hz2 rfl (by decide) _ _ _ rfl (hown.alloc _) ⟨w2.heap.size,0,none⟩ 1 1 [.int .i64 (k:Int)] rfl rfl ?d1 ?d2 ?d3 ?d4 ?d5 ?_)
     case d1=>exact World.news_of_block (cs:=#[.int .i64 (k:Int)]) (t:=3) (fr:=(0,0)) (heap_alloc_new w2 _)
     case d2=>first | rfl | (intro u hu; simp at hu; subst hu; rfl)
     case d3=>unfold maxLen; omega
     case d4=>omega
     case d5=>first | omega | (simp; omega)
     intro v' w5 hown5 hg5 _
     have HI5:=zh ((HI2.out.below ((Below.refl _ _).alloc (zG _) _)).put hown5 hg5)
     clear hown5 hg5 hown
     go_wp2
     go_roundw
     case rel=>exact ⟨k+1,by omega,by go_num,by rw [Hph2.out]; exact HI5.out⟩
     case measure=>simp [intOf]; omega
    ·have hs':stands T ws k=false:=Bool.eq_false_iff.2 hs
     rw [hs'] at c1
     have Hph2:Hid (phrTo T ws (k+1)=phrTo T ws k):=zh (by rw [Hph.out,hs']; simp)
     clear hs hs'
     go_wp2_with fail
     refine c1.mono ?_
     rintro e w2 ⟨rfl,hb2⟩
     have HI2:=zh (HI.out.below hb2)
     clear c1 hb2
     go_wp2
     go_roundw
     case rel=>exact ⟨k+1,by omega,by go_num,by rw [Hph2.out]; exact HI2.out⟩
     case measure=>simp [intOf]; omega
   ·obtain rfl:k=n:=by omega
    have HI:=zh hI
    clear hI
    go_wp2
    go_ret
    exact ⟨_,rfl,by rw [Fin.out]; exact HI.out⟩
theorem isPrefix_take (p t:List UInt8):p.isPrefixOf t=(decide (p.length≤t.length) && (t.take p.length == p)):=by
 rw [Bool.eq_iff_iff]
 simp only [List.isPrefixOf_iff_prefix,Bool.and_eq_true,decide_eq_true_eq,beq_iff_eq]
 constructor
 ·rintro ⟨r,rfl⟩
  simp
 ·rintro ⟨_,h⟩
  exact ⟨t.drop p.length,by have:=List.take_append_drop p.length t; rw [h] at this; exact this⟩
set_option maxHeartbeats 400000 in
theorem begins_ref (x:List UInt8) (p:ByteArray) (w:World) (hx:x.length≤1048576) :
  Calls Tryz.prog 139 #[.string (str x),.string p] w fun e w'=>e=.returned (.bool (begins x p))∧w=w':=by
 have hb:begins x p=(decide (p.size≤(str x).size) && ((str x).extract 0 p.size).toList == p.toList):=by
  unfold begins
  rw [isPrefix_take,tl,tl,Lib.extract_data,bsize,str_size,str_data]
  simp
 have HB:=zh hb
 have hsz:(str x).size≤1048576:=by rw [str_size]; exact hx
 clear hb
 generalize str x=s at *
 generalize begins x p=r at *
 by_cases hl:p.size≤s.size
 ·have hl':(p.size:Int)≤(s.size:Int):=by omega
  have HB2:Hid (r=((s.extract 0 p.size).toList == p.toList)):=zh (by rw [HB.out,decide_eq_true hl,Bool.true_and])
  go_enter Tryz.func139,Tryz.ntmps139
  go_wp2
  go_ret
  exact ⟨by rw [HB2.out]; rfl,rfl⟩
 ·have hl':¬ (p.size:Int)≤(s.size:Int):=by omega
  have HB2:Hid (r=false):=zh (by rw [HB.out,decide_eq_false hl,Bool.false_and])
  go_enter Tryz.func139,Tryz.ntmps139
  go_wp2
  go_ret
  exact ⟨by rw [HB2.out]; rfl,rfl⟩
set_option maxHeartbeats 400000 in
theorem prefixed_ref (TA:Option Addr) (n tc:Nat) (T:List (List UInt8)) (p:ByteArray) (w:World) (hT:Reads w w.heap.size 2 TA n (tokC (placed T))) (hn:T.length=n) (hn2:n≤1048576) (h32:∀ x∈T,x.length≤1048576) :
  Calls Tryz.prog 94 #[.slice TA n tc,.string p] w fun e w'=>e=.returned (.bool (T.any (begins · p)))∧w=w':=by
 have HT:=zh hT
 have Hn:=zh hn
 clear hT hn
 go_enter Tryz.func94,Tryz.ntmps94
 go_wp2
 go_loop [5] (fun i=>∃ k:Nat,k≤n∧i=.int .i64 k∧(T.take k).any (begins · p)=false) (fun i=>n - (intOf i).toNat)
 case atStart=>exact ⟨0,Nat.zero_le _,rfl,rfl⟩
 case round =>
  obtain ⟨k,hk,rfl,hal⟩:=hrel
  have Hal:=zh hal
  clear hal
  by_cases hlt:k<n
  ·obtain ⟨tb,tq,rfl,htb,hc1,hc2⟩:=toks_at HT.out Hn.out (k:=k) (by rw [Hn.out]; exact hlt)
   have hkl:k<T.length:=by rw [Hn.out]; exact hlt
   have hts:T.take (k+1)=T.take k ++ [T[k]]:=by rw [List.take_succ_eq_append_getElem hkl]
   have c1:=begins_ref T[k] p w (h32 _ (List.getElem_mem hkl))
   have hmem:T[k]∈T:=List.getElem_mem hkl
   clear hc2
   by_cases hb:begins T[k] p=true
   ·have Fin:Hid (T.any (begins · p)=true):=zh (List.any_eq_true.2 ⟨_,hmem,hb⟩)
    rw [hb] at c1
    clear hb hts hmem
    generalize str T[k]=x at *
    go_wp2_with fail
    refine c1.mono ?_
    rintro e w2 ⟨rfl,rfl⟩
    go_wp2
    go_ret
    exact ⟨by rw [Fin.out]; rfl,rfl⟩
   ·have hb':begins T[k] p=false:=Bool.eq_false_iff.2 hb
    have Hnx:Hid ((T.take (k+1)).any (begins · p)=false):=zh (by rw [hts,List.any_append,Hal.out]; simp [hb'])
    rw [hb'] at c1
    clear hb hb' hts hmem
    generalize str T[k]=x at *
    go_wp2_with fail
    refine c1.mono ?_
    rintro e w2 ⟨rfl,rfl⟩
    go_wp2
    go_round
    case rel=>exact ⟨k+1,by omega,by go_num,Hnx.out⟩
    case measure=>simp [intOf]; omega
  ·obtain rfl:k=n:=by omega
   have Fin:Hid (T.any (begins · p)=false):=zh (by have:=Hal.out; rwa [List.take_of_length_le (by rw [Hn.out]; exact zG _)] at this)
   go_wp2
   go_ret
   exact ⟨by rw [Fin.out]; rfl,rfl⟩
def idxF (p:Nat→Bool) (n:Nat):Int:=match (List.range n).find? p with | some i=>(i:Int) | none=>-1
theorem idxF_hit (p:Nat→Bool) (n k:Nat) (hk:k<n) (h:∀ j,j<k→p j=false) (hp:p k=true):idxF p n=(k:Int):=by
 unfold idxF
 have:(List.range n).find? p=some k:=by
  rw [List.find?_range_eq_some]
  exact ⟨hp,by simpa using hk,fun j hj=>by simp [h j hj]⟩
 rw [this]
theorem idxF_no (p:Nat→Bool) (n:Nat) (h:∀ j,j<n→p j=false):idxF p n=-1:=by
 unfold idxF
 have:(List.range n).find? p=none:=by
  rw [List.find?_eq_none]
  intro j hj
  rw [h j (by simpa using hj)]
  decide
 rw [this]
theorem idxF_any (p:Nat→Bool) (n:Nat):decide (0≤idxF p n)=(List.range n).any p:=by
 unfold idxF
 cases h:(List.range n).find? p with
 | none =>
  rw [List.find?_eq_none] at h
  symm
  simp only [Int.reduceNeg,Int.reduceLE,decide_false]
  rw [List.any_eq_false]
  exact h
 | some i =>
  have h1:=List.find?_some h
  have h2:=List.mem_of_find?_eq_some h
  have e:(List.range n).any p=true:=List.any_eq_true.2 ⟨i,h2,h1⟩
  rw [e]
  simp
set_option maxHeartbeats 800000 in
theorem indexTok (TA:Option Addr) (n tc:Nat) (T:List (List UInt8)) (f:Nat) (lb:Array Value) (p:Nat→Bool) (w:World) (hcf:∀ args wx,(callFunc f args).run Tryz.prog wx=.ok (.enter f args) wx) (hT:Reads w w.heap.size 2 TA n (tokC (placed T))) (hn:T.length=n) (hn2:n≤1048576)
  (hf:∀ i (h:i<T.length) wx,Below w.heap.size w wx→Calls Tryz.prog f (#[.agg #[.string (str T[i]),.int .i64 (i:Int)]] ++ lb) wx fun e w'=>e=.returned (.bool (p i))∧Below wx.heap.size wx w') :
  Calls Tryz.prog 179 #[.slice TA n tc,.func (.func f) #[] lb] w fun e w'=>e=.returned (.int .i64 (idxF p n))∧Below w.heap.size w w':=by
 have HT:=zh hT
 have Hn:=zh hn
 have Hf:=zh hf
 clear hT hn hf
 go_enter Tryz.func179,Tryz.ntmps179
 go_wp2
 go_loopw [8] (fun i wr=>∃ k:Nat,k≤n∧i=.int .i64 k∧(∀ j,j<k→p j=false)∧Below w.heap.size w wr) (fun i _=>n - (intOf i).toNat)
 case atStart=>exact ⟨0,Nat.zero_le _,rfl,fun j hj=>by omega,Below.refl _ _⟩
 case round =>
  obtain ⟨k,hk,rfl,hal,hb⟩:=hrel
  have Hal:=zh hal
  have Hb:=zh hb
  clear hal hb
  by_cases hlt:k<n
  ·obtain ⟨tb,tq,rfl,htb,hc1,hc2⟩:=toks_at HT.out Hn.out (k:=k) (by rw [Hn.out]; exact hlt)
   have hd1:=(Hb.out.cell (p:=⟨tb,tq+k * 2,none⟩) htb).trans hc1
   have hd2:=(Hb.out.cell (p:=⟨tb,tq+k * 2+1,none⟩) htb).trans hc2
   have c1:=Hf.out k (by rw [Hn.out]; exact hlt) wr Hb.out
   have Hs:Hid (∀ b,p k=b→(b=true→idxF p n=(k:Int))∧(b=false→∀ j,j<k+1→p j=false)):=zh (fun b hb=>⟨fun e=>idxF_hit p n k hlt Hal.out (by rw [hb,e]),fun e j hj=>by
    by_cases hjk:j=k
    ·rw [hjk,hb,e]
    ·exact Hal.out j (by omega)⟩)
   clear hc1 hc2
   generalize (str (T[k]'(by rw [Hn.out]; exact hlt)))=x at *
   cases hp:p k with
   | true =>
    have Fin:=zh ((Hs.out _ hp).1 rfl)
    rw [hp] at c1
    clear hp Hs
    go_wp2_with fail
    refine c1.mono ?_
    rintro e w2 ⟨rfl,hb2⟩
    have Hb2:=zh (Hb.out.trans (hb2.mono Hb.out.size))
    clear hb2 c1
    go_wp2
    go_ret
    exact ⟨by rw [Fin.out]; rfl,Hb2.out⟩
   | false =>
    have Hn2:=zh ((Hs.out _ hp).2 rfl)
    rw [hp] at c1
    clear hp Hs
    go_wp2_with fail
    refine c1.mono ?_
    rintro e w2 ⟨rfl,hb2⟩
    have Hb2:=zh (Hb.out.trans (hb2.mono Hb.out.size))
    clear hb2 c1
    go_wp2
    go_roundw
    case rel=>exact ⟨k+1,by omega,by go_num,Hn2.out,Hb2.out⟩
    case measure=>simp [intOf]; omega
  ·obtain rfl:k=n:=by omega
   have Fin:=zh (idxF_no p k Hal.out)
   go_wp2
   go_ret
   exact ⟨by rw [Fin.out]; rfl,Hb.out⟩
end Go.Proofs.YtlfpfkallgkjdaaGreat.Qy
end

section
namespace Go.Proofs.YtlfpfkallgkjdaaGreat.Ss
open Go.Shelf Go.RowKit Go.Lib Go.Sort
variable {α:Type} [Inhabited α] {enc : α→List Value} {cf : α→α→Int} {tag : α→Nat}
def MPost (enc : α→List Value) (cf : α→α→Int) (tag : α→Nat) (k:Nat) (w0:World) (blk off:Nat) (d:Array α) (a b:Nat) (e:Ending) (w':World):Prop :=
 e=.returned (.tuple #[])∧∃ d',SWK enc k w0 blk off d' w'∧d'.size=d.size∧PermIn a b d d'∧Srt cf tag d' a b
set_option maxHeartbeats 2000000 in
set_option maxRecDepth 1000000 in
theorem symL_any (hW:SWO (ltOf cf)) (k:Nat) (hk2:k=2) (g:Nat) (cb:Array Value) (blk off cap a m b:Nat) (hm:m=a+1) (d0 d:Array α) (w0 w:World) (eg:∀ args w,(callFunc g args).run Tryz.prog w=.ok (.enter g args) w) (hC:CmpLays Tryz.prog g cb enc k cf blk off d0.size w0)
  (R:RowK enc k w0 blk off d0) (hs:d.size=d0.size) (S:SWK enc k w0 blk off d w) (hb:b≤d.size) (hab:a+1<b) (hsz:d.size<1099511627776) (hS2:Srt cf tag d (a+1) b) (hT:∀ y,a+1≤y→y<b→tag d[a]!<tag d[y]!) :
  Calls Tryz.prog 151 #[.slice (some ⟨blk,off,none⟩) d.size cap,.int .i64 a,.int .i64 m,.int .i64 b,.func (.func g) #[] cb] w (MPost enc cf tag k w0 blk off d a b):=by
 have zE:∀ w,(Go.sizeOf 105).run Tryz.prog w=.ok k w:=by rw [hk2]; exact Tryz.sizeOf105
 have mixed:Tryz.prog.follows Departure.mixedOrders=true:=by kernel_rfl
 have S0:Aside (SWK enc k w0 blk off d w):=S
 have HC:Aside _:=hC
 have HS:=zh hs
 have HS2:=zh hS2
 have HT:=zh hT
 have e1:(m:Int) - (a:Int)=1:=by omega
 have e2:((m:Int) - (a:Int)=1)=True:=eq_true e1
 have hm1:a+1≤m:=by omega
 have hm2:m≤a+1:=by omega
 clear S hk2 hs hC hS2 hT hm
 go_enter Tryz.func151,Tryz.ntmps151
 go_wp2
 go_loopw [10,11] (fun vi vj wr=>∃ (i j:Nat),m≤i∧i≤j∧j≤b∧vi=.int .i64 (i:Nat)∧vj=.int .i64 (j:Nat)∧Aside (SWK enc k w0 blk off d wr)∧Hid (∀ h,a+1≤h→h<i→bef cf tag d[h]! d[a]!)∧Hid (∀ h,j≤h→h<b→bef cf tag d[a]! d[h]!)) (fun vi vj _=>(intOf vj).toNat - (intOf vi).toNat)
 case atStart=>exact ⟨m,b,zG _,by omega,zG _,rfl,rfl,S0,zh (fun h _ _=>by omega),zh (fun h _ _=>by omega)⟩
 case round =>
  clear S0
  obtain ⟨i,j,hi,hij,hjb,rfl,rfl,S1,H1,H2⟩:=hrel
  by_cases hlt:i<j
  ·have hji:(i:Int)<(j:Int):=by omega
   have n1:(0:Int)≤((i:Int)+(j:Int)) / 2:=by omega
   have n2:((i:Int)+(j:Int)) / 2<(d.size:Int):=by omega
   have n3:(((i:Int)+(j:Int)) / 2).toNat=(i+j) / 2:=by omega
   have n4:(a:Int)<(d.size:Int):=by omega
   have SG:Aside (∀ n os,SWK enc k w0 blk off d (grow (wr.drewN n) os)):=fun n os=>S1.out.grown n os
   have l1:=fun n' os'=>S1.out.ld R HS.out Tryz.prog ((i+j) / 2) (by omega) n' os'
   have l2:=fun n' os'=>S1.out.ld R HS.out Tryz.prog (a) (by omega) n' os'
   have hcg:=fun n' os'=>S1.out.cmp HC.out HS.out d[(i+j) / 2]! d[a]! n' os'
   have F1:Hid (cf d[(i+j) / 2]! d[a]!<0→∀ h,a+1≤h→h<(i+j) / 2+1→bef cf tag d[h]! d[a]!):=zh (fun hc h p1 p2=>HS2.out.step_l hW (y:=(i+j) / 2) p1 (by omega) (by omega) (bef_lt hc))
   have F2:Hid (¬ cf d[(i+j) / 2]! d[a]!<0→∀ h,(i+j) / 2≤h→h<b→bef cf tag d[a]! d[h]!):=zh (fun hc h p1 p2=>HS2.out.step_r hW (x:=(i+j) / 2) (by omega) p1 p2 (bef_ge (HT.out _ (by omega) (by omega)) hc))
   obtain ⟨xp,hxp⟩:∃ x,d[(i+j) / 2]! = x:=⟨_,rfl⟩
   obtain ⟨xq,hxq⟩:∃ x,d[a]! = x:=⟨_,rfl⟩
   rw [hxp] at l1
   rw [hxq] at l2
   rw [hxp,hxq] at hcg
   rw [hxp,hxq] at F1 F2
   have HX:Hid (d[(i+j) / 2]! = xp∧d[a]! = xq):=zh ⟨hxp,hxq⟩
   clear hxp hxq
   clear S1
   by_cases hlv:cf xp xq<0
   ·have N1:Hid (∀ h,a+1≤h→h<(i+j) / 2+1→bef cf tag d[h]! d[a]!):=zh (by rw [HX.out.2]; exact F1.out hlv)
    clear F1 F2
    go_wp2_with fail
    go_quiet_grown (first | (go_at_fn g; refine Calls.grown_of (hcg _ _)))
    have S3:Aside (SWK enc k w0 blk off d (grow (wr.drewN nq) osq)):=SG.out nq osq
    generalize grow (wr.drewN nq) osq=w3 at S3 ⊢
    clear l1 l2 hcg SG
    go_wp2
    go_roundw
    case rel=>exact ⟨(i+j) / 2+1,j,by omega,by omega,by omega,by go_num,rfl,S3,N1,H2⟩
    case measure=>simp [intOf]; omega
   ·have N2:Hid (∀ h,(i+j) / 2≤h→h<b→bef cf tag d[a]! d[h]!):=zh (by rw [HX.out.2]; exact F2.out hlv)
    clear F1 F2
    go_wp2_with fail
    go_quiet_grown (first | (go_at_fn g; refine Calls.grown_of (hcg _ _)))
    have S3:Aside (SWK enc k w0 blk off d (grow (wr.drewN nq) osq)):=SG.out nq osq
    generalize grow (wr.drewN nq) osq=w3 at S3 ⊢
    clear l1 l2 hcg SG
    go_wp2
    go_roundw
    case rel=>exact ⟨i,(i+j) / 2,by omega,by omega,by omega,rfl,by go_num,S3,H1,N2⟩
    case measure=>simp [intOf]; omega
  ·obtain rfl:i=j:=by omega
   have HF:Hid (∀ d1:Array α,(∀ x,d1[x]! = shL d a (i - 1) x)→Srt cf tag d1 a b):=zh (fun d1 hd=>shL_srt hW (by omega) hjb HS2.out H1.out H2.out hd)
   clear H1 H2
   go_wp2_with fail
   go_loopw [13] (fun vk wr=>∃ (x:Nat) (dk:Array α),a≤x∧x+1≤i∧vk=.int .i64 (x:Nat)∧Aside (SWK enc k w0 blk off dk wr)∧dk.size=d.size∧Hid (PermIn a b d dk)∧Hid (∀ y,dk[y]! = shL d a x y)) (fun vk _=>i - (intOf vk).toNat)
   case atStart=>exact ⟨a,d,zG _,by omega,rfl,S1,rfl,zh (permIn_refl _ _ _),zh (fun y=>shL_zero d a y)⟩
   case round =>
    clear S1
    obtain ⟨x,dk,hax,hxi,rfl,S1,hds,HP,HX⟩:=hrel
    by_cases hxl:x+1<i
    ·have hxz:(x:Int)<(i:Int) - 1:=by omega
     have n0:(0:Int)≤(x:Int):=by omega
     have n1:(0:Int)≤(x:Int)+1:=by omega
     have n2:(x:Int)+1<(d.size:Int):=by omega
     have n3:(x:Int)<(d.size:Int):=by omega
     have n5:((x:Int)+1).toNat=x+1:=by omega
     have S2:Aside (SWK enc k w0 blk off (swp dk (x) (x+1)) ((wr.drew.setCells blk (off+(x) * k) (enc dk[x+1]!)).setCells blk (off+(x+1) * k) (enc dk[x]!))):=S1.out.swapped R (x) (x+1) (by omega) (by omega)
     have l44a:=S1.out.ld1 R (hds.trans HS.out) Tryz.prog (x) (by omega)
     have l44b:=S1.out.ld1 R (hds.trans HS.out) Tryz.prog (x+1) (by omega)
     have s44a:=S1.out.st1 R (hds.trans HS.out) Tryz.prog (x) (by omega) dk[x+1]!
     have s44b:=S1.out.st2 R (hds.trans HS.out) Tryz.prog (x) (x+1) (by omega) (by omega) dk[x+1]! dk[x]!
     have n44a:(enc dk[x]!).length=k:=R.hk _
     have n44b:(enc dk[x+1]!).length=k:=R.hk _
     have HP2:Hid (PermIn a b d (swp dk x (x+1))):=zh (permIn_trans _ _ _ _ _ HP.out (swp_permIn dk a b x (x+1) (by omega) (by omega) (by omega) (by omega) (by omega)))
     have HX2:Hid (∀ y,(swp dk x (x+1))[y]! = shL d a (x+1) y):=zh (shL_step hax hds (by omega) HX.out)
     generalize enc dk[x]! = cI44 at S2 l44a s44b n44a
     generalize enc dk[x+1]! = cJ44 at S2 l44b s44a s44b n44b
     clear S1 HP HX
     go_wp2_with fail
     go_big_region_o
     clear l44a l44b s44a s44b
     generalize (wr.drew.setCells blk (off+(x) * k) cJ44).setCells blk (off+(x+1) * k) cI44=w2 at S2 ⊢
     go_wp2
     go_roundw
     case rel=>exact ⟨x+1,swp dk x (x+1),by omega,by omega,by go_num,S2,by rw [size_swp]; exact hds,HP2,HX2⟩
     case measure=>simp [intOf]; omega
    ·have hxz:¬ (x:Int)<(i:Int) - 1:=by omega
     have Fin:=zh (HF.out dk (by rw [show i - 1=x by omega]; exact HX.out))
     go_wp2
     go_end0
     exact ⟨rfl,dk,S1.out,hds,HP.out,Fin.out⟩
set_option maxHeartbeats 2000000 in
set_option maxRecDepth 1000000 in
theorem symR_any (hW:SWO (ltOf cf)) (k:Nat) (hk2:k=2) (g:Nat) (cb:Array Value) (blk off cap a m b:Nat) (hm:b=m+1) (d0 d:Array α) (w0 w:World) (eg:∀ args w,(callFunc g args).run Tryz.prog w=.ok (.enter g args) w) (hC:CmpLays Tryz.prog g cb enc k cf blk off d0.size w0)
  (R:RowK enc k w0 blk off d0) (hs:d.size=d0.size) (S:SWK enc k w0 blk off d w) (hb:b≤d.size) (hab:a+1<m) (hsz:d.size<1099511627776) (hS2:Srt cf tag d a m) (hT:∀ y,a≤y→y<m→tag d[y]!<tag d[m]!) :
  Calls Tryz.prog 151 #[.slice (some ⟨blk,off,none⟩) d.size cap,.int .i64 a,.int .i64 m,.int .i64 b,.func (.func g) #[] cb] w (MPost enc cf tag k w0 blk off d a b):=by
 have zE:∀ w,(Go.sizeOf 105).run Tryz.prog w=.ok k w:=by rw [hk2]; exact Tryz.sizeOf105
 have mixed:Tryz.prog.follows Departure.mixedOrders=true:=by kernel_rfl
 have S0:Aside (SWK enc k w0 blk off d w):=S
 have HC:Aside _:=hC
 have HS:=zh hs
 have HS2:=zh hS2
 have HT:=zh hT
 have e1:((m:Int) - (a:Int)=1)=False:=eq_false (by omega)
 have e1':((m:Int) - (a:Int) == 1)=false:=by simp; omega
 have e2:(b:Int) - (m:Int)=1:=by omega
 have hm1:m+1≤b:=by omega
 have hm2:b≤m+1:=by omega
 clear S hk2 hs hC hS2 hT hm
 go_enter Tryz.func151,Tryz.ntmps151
 go_wp2
 go_loopw [14,15] (fun vi vj wr=>∃ (i j:Nat),a≤i∧i≤j∧j≤m∧vi=.int .i64 (i:Nat)∧vj=.int .i64 (j:Nat)∧Aside (SWK enc k w0 blk off d wr)∧Hid (∀ h,a≤h→h<i→bef cf tag d[h]! d[m]!)∧Hid (∀ h,j≤h→h<m→bef cf tag d[m]! d[h]!)) (fun vi vj _=>(intOf vj).toNat - (intOf vi).toNat)
 case atStart=>exact ⟨a,m,zG _,by omega,zG _,rfl,rfl,S0,zh (fun h _ _=>by omega),zh (fun h _ _=>by omega)⟩
 case round =>
  clear S0
  obtain ⟨i,j,hi,hij,hjb,rfl,rfl,S1,H1,H2⟩:=hrel
  by_cases hlt:i<j
  ·have hji:(i:Int)<(j:Int):=by omega
   have n1:(0:Int)≤((i:Int)+(j:Int)) / 2:=by omega
   have n2:((i:Int)+(j:Int)) / 2<(d.size:Int):=by omega
   have n3:(((i:Int)+(j:Int)) / 2).toNat=(i+j) / 2:=by omega
   have n4:(m:Int)<(d.size:Int):=by omega
   have SG:Aside (∀ n os,SWK enc k w0 blk off d (grow (wr.drewN n) os)):=fun n os=>S1.out.grown n os
   have l1:=fun n' os'=>S1.out.ld R HS.out Tryz.prog (m) (by omega) n' os'
   have l2:=fun n' os'=>S1.out.ld R HS.out Tryz.prog ((i+j) / 2) (by omega) n' os'
   have hcg:=fun n' os'=>S1.out.cmp HC.out HS.out d[m]! d[(i+j) / 2]! n' os'
   have F1:Hid (cf d[m]! d[(i+j) / 2]!<0→∀ h,(i+j) / 2≤h→h<m→bef cf tag d[m]! d[h]!):=zh (fun hc h p1 p2=>HS2.out.step_r hW (x:=(i+j) / 2) (by omega) p1 p2 (bef_lt hc))
   have F2:Hid (¬ cf d[m]! d[(i+j) / 2]!<0→∀ h,a≤h→h<(i+j) / 2+1→bef cf tag d[h]! d[m]!):=zh (fun hc h p1 p2=>HS2.out.step_l hW (y:=(i+j) / 2) p1 (by omega) (by omega) (bef_ge (HT.out _ (by omega) (by omega)) hc))
   obtain ⟨xp,hxp⟩:∃ x,d[m]! = x:=⟨_,rfl⟩
   obtain ⟨xq,hxq⟩:∃ x,d[(i+j) / 2]! = x:=⟨_,rfl⟩
   rw [hxp] at l1
   rw [hxq] at l2
   rw [hxp,hxq] at hcg
   rw [hxp,hxq] at F1 F2
   have HX:Hid (d[(i+j) / 2]! = xq∧d[m]! = xp):=zh ⟨hxq,hxp⟩
   clear hxp hxq
   clear S1
   by_cases hlv:cf xp xq<0
   ·have N2:Hid (∀ h,(i+j) / 2≤h→h<m→bef cf tag d[m]! d[h]!):=zh (by rw [HX.out.2]; exact F1.out hlv)
    clear F1 F2
    go_wp2_with fail
    go_quiet_grown (first | (go_at_fn g; refine Calls.grown_of (hcg _ _)))
    have S3:Aside (SWK enc k w0 blk off d (grow (wr.drewN nq) osq)):=SG.out nq osq
    generalize grow (wr.drewN nq) osq=w3 at S3 ⊢
    clear l1 l2 hcg SG
    go_wp2
    go_roundw
    case rel=>exact ⟨i,(i+j) / 2,by omega,by omega,by omega,rfl,by go_num,S3,H1,N2⟩
    case measure=>simp [intOf]; omega
   ·have hdec:decide (cf xp xq<0)=false:=decide_eq_false hlv
    have N1:Hid (∀ h,a≤h→h<(i+j) / 2+1→bef cf tag d[h]! d[m]!):=zh (by rw [HX.out.2]; exact F2.out hlv)
    clear F1 F2
    go_wp2_with fail
    go_quiet_grown (first | (go_at_fn g; refine Calls.grown_of (hcg _ _)))
    have S3:Aside (SWK enc k w0 blk off d (grow (wr.drewN nq) osq)):=SG.out nq osq
    generalize grow (wr.drewN nq) osq=w3 at S3 ⊢
    clear l1 l2 hcg SG
    go_wp2
    go_roundw
    case rel=>exact ⟨(i+j) / 2+1,j,by omega,by omega,by omega,by go_num,rfl,S3,N1,H2⟩
    case measure=>simp [intOf]; omega
  ·obtain rfl:i=j:=by omega
   have HF:Hid (∀ d1:Array α,(∀ x,d1[x]! = shR d m i x)→Srt cf tag d1 a b):=zh (fun d1 hd=>by rw [show b=m+1 by omega]; exact shR_srt hW hi hjb HS2.out H1.out H2.out hd)
   clear H1 H2
   go_wp2_with fail
   go_loopw [17] (fun vk wr=>∃ (x:Nat) (dk:Array α),i≤x∧x≤m∧vk=.int .i64 (x:Nat)∧Aside (SWK enc k w0 blk off dk wr)∧dk.size=d.size∧Hid (PermIn a b d dk)∧Hid (∀ y,dk[y]! = shR d m x y)) (fun vk _=>(intOf vk).toNat)
   case atStart=>exact ⟨m,d,hjb,zG _,rfl,S1,rfl,zh (permIn_refl _ _ _),zh (fun y=>shR_zero d m y)⟩
   case round =>
    clear S1
    obtain ⟨x',dk,hix,hxm,rfl,S1,hds,HP,HX⟩:=hrel
    by_cases hxl:i<x'
    ·obtain ⟨x,rfl⟩:∃ x,x'=x+1:=⟨x' - 1,by omega⟩
     have hxz:(i:Int)<(x:Int)+1:=by omega
     have n0:(0:Int)≤(x:Int):=by omega
     have n1:(0:Int)≤(x:Int)+1:=by omega
     have n2:(x:Int)+1<(d.size:Int):=by omega
     have n3:(x:Int)<(d.size:Int):=by omega
     have n5:((x:Int)+1).toNat=x+1:=by omega
     have S2:Aside (SWK enc k w0 blk off (swp dk (x+1) (x)) ((wr.drew.setCells blk (off+(x+1) * k) (enc dk[x]!)).setCells blk (off+(x) * k) (enc dk[x+1]!))):=S1.out.swapped R (x+1) (x) (by omega) (by omega)
     have l44a:=S1.out.ld1 R (hds.trans HS.out) Tryz.prog (x+1) (by omega)
     have l44b:=S1.out.ld1 R (hds.trans HS.out) Tryz.prog (x) (by omega)
     have s44a:=S1.out.st1 R (hds.trans HS.out) Tryz.prog (x+1) (by omega) dk[x]!
     have s44b:=S1.out.st2 R (hds.trans HS.out) Tryz.prog (x+1) (x) (by omega) (by omega) dk[x]! dk[x+1]!
     have n44a:(enc dk[x+1]!).length=k:=R.hk _
     have n44b:(enc dk[x]!).length=k:=R.hk _
     have HP2:Hid (PermIn a b d (swp dk (x+1) x)):=zh (permIn_trans _ _ _ _ _ HP.out (swp_permIn dk a b (x+1) x (by omega) (by omega) (by omega) (by omega) (by omega)))
     have HX2:Hid (∀ y,(swp dk (x+1) x)[y]! = shR d m x y):=zh (shR_step hxm hds (by omega) HX.out)
     generalize enc dk[x+1]! = cI44 at S2 l44a s44b n44a
     generalize enc dk[x]! = cJ44 at S2 l44b s44a s44b n44b
     clear S1 HP HX
     go_wp2_with fail
     go_big_region_o
     clear l44a l44b s44a s44b
     generalize (wr.drew.setCells blk (off+(x+1) * k) cJ44).setCells blk (off+(x) * k) cI44=w2 at S2 ⊢
     go_wp2
     go_roundw
     case rel=>exact ⟨x,swp dk (x+1) x,by omega,by omega,by first | rfl | go_num | (congr 1; omega),S2,by rw [size_swp]; exact hds,HP2,HX2⟩
     case measure=>first | (simp [intOf]; done) | (simp [intOf]; omega)
    ·have hxz:¬ (i:Int)<(x':Int):=by omega
     have Fin:=zh (HF.out dk (by rw [show i=x' by omega]; exact HX.out))
     go_wp2
     go_end0
     exact ⟨rfl,dk,S1.out,hds,HP.out,Fin.out⟩
end Go.Proofs.YtlfpfkallgkjdaaGreat.Ss
end
