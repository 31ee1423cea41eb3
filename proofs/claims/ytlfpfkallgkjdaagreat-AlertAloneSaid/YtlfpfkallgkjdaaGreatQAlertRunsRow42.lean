/- alert.Fork: the walk (printed by gen_all.py). -/
import Derived.Lib.SliceRun
import Derived.Test.YtlfpfkallgkjdaaGreatQAlertRunsRow32
import Derived.Test.YtlfpfkallgkjdaaGreatQAlertRunsRow0
set_option linter.unusedSimpArgs false
set_option linter.unusedVariables false
set_option maxRecDepth 20000
section
namespace Go.Proofs.YtlfpfkallgkjdaaGreat.Al
open Go.RowKit Go.Maps Ut Tk Qy Qp Ev Mv
theorem ranges_same {H:Type} {P:Program} {k:TypeId} {R:Value→Option (DataW H × List MemPlace)} {w w':World} {b r n:Nat} {D:DataW H} {left:Lit→Bool} {cnt:Nat} (h:w.ranges P k R b r n D left cnt) (e1:w'.heap[b]?=w.heap[b]?) (e2:w'.heap[r]?=w.heap[r]?):w'.ranges P k R b r n D left cnt:=by
 obtain ⟨es,clock,since,seen,c0,hb,F,hs,hD,hr,rest⟩:=h
 exact ⟨es,clock,since,seen,c0,e1.trans hb,F,hs,hD,e2.trans hr,rest⟩
theorem ranges_it {H:Type} {P:Program} {k:TypeId} {R:Value→Option (DataW H × List MemPlace)} {w:World} {b r n:Nat} {D:DataW H} {left:Lit→Bool} {cnt:Nat} (h:w.ranges P k R b r n D left cnt):¬ Mo w r:=fun ⟨es,ck,h2⟩=>by
 obtain ⟨_,_,_,_,_,_,_,_,_,hr,_⟩:=h
 rw [hr] at h2
 injection h2 with h2
 cases h2
def ofN (l:List (Int × Kp)) (js:List Int):List (Int × Kp):=l.filter (fun x=>decide (x.1∈js))
theorem ofN_nil (l:List (Int × Kp)):ofN l []=[]:=by simp [ofN]
theorem ofN_up {l:List (Int × Kp)} (h:UpI l) (js:List Int):UpI (ofN l js):=h.sublist List.filter_sublist
theorem get_filter {l:List (Int × Kp)} (hu:UpI l) (p:Int→Bool) (i:Int):get (l.filter (fun x=>p x.1)) i=if p i then get l i else none:=by
 have hf:UpI (l.filter (fun x=>p x.1)):=hu.sublist List.filter_sublist
 cases hp:p i with
 | true =>
  rw [if_pos rfl]
  cases hg:get l i with
  | none =>
   cases e:get (l.filter (fun x=>p x.1)) i with
   | none=>rfl
   | some k =>
    have:=mem_get hu (List.mem_filter.1 (get_mem e)).1
    simp only at this
    rw [hg] at this
    cases this
  | some k=>exact mem_get hf (x:=(i,k)) (List.mem_filter.2 ⟨get_mem hg,hp⟩)
 | false =>
  rw [if_neg (by decide)]
  cases e:get (l.filter (fun x=>p x.1)) i with
  | none=>rfl
  | some k =>
   have:=(List.mem_filter.1 (get_mem e)).2
   simp only [hp] at this
   cases this
theorem ofN_get {l:List (Int × Kp)} (hu:UpI l) (js:List Int) (i:Int):get (ofN l js) i=if i∈js then get l i else none:=by
 unfold ofN
 rw [get_filter hu (fun i=>decide (i∈js))]
 by_cases h:i∈js <;> simp [h]
theorem ofN_put {l:List (Int × Kp)} (hu:UpI l) {js:List Int} {i:Int} {k:Kp} (hk:get l i=some k):put (ofN l js) i k=ofN l (js ++ [i]):=by
 refine get_one (put_up (ofN_up hu js) i k) (ofN_up hu _) (fun j=>?_)
 rw [get_put (ofN_up hu js),ofN_get hu,ofN_get hu]
 by_cases e:j=i
 ·rw [if_pos e,if_pos (by simp [e]),e,hk]
 ·rw [if_neg e]
  by_cases h:j∈js
  ·rw [if_pos h,if_pos (by simp [h])]
  ·rw [if_neg h,if_neg (by simp [h,e])]
theorem ofN_all {l:List (Int × Kp)} (hu:UpI l) {js:List Int} (h:∀ i,(get l i).isSome=true→i∈js):ofN l js=l:=by
 refine get_one (ofN_up hu js) hu (fun j=>?_)
 rw [ofN_get hu]
 split
 ·rfl
 ·rename_i hn
  cases e:get l j with
  | none=>rfl
  | some k=>exact absurd (h j (by rw [e]; rfl)) hn
theorem ofN_le (l:List (Int × Kp)) (js:List Int):(ofN l js).length≤l.length:=List.length_filter_le _ _
def ForkN (w:World) (l:List (Int × Kp)) (e:Ending) (w':World):Prop:=∃ Y,e=.returned (.pointer (some ⟨Y,0,none⟩))∧AlN w.heap.size w' Y l.length l∧Below w.heap.size w w'∧w.heap.size≤Y
set_option maxHeartbeats 3200000 in
theorem fork_any {w:World} {X cn M1 M2:Nat} {F1:Int→Option Value} {F2:ByteArray→Option Nat} {l:List (Int × Kp)} (h:AlX w X cn M1 M2 F1 F2 l) (hll:l.length≤1000) :
  Calls Tryz.prog 32 #[.pointer (some ⟨X,0,none⟩)] w (ForkN w l):=by
 have c1:=zh (none_no h.c0)
 obtain ⟨D,hown,hT,hsz⟩:=h.al.m1.ex
 have hbl:=hown.lt
 have HT:=zh hT
 have H:=zh h
 have HOWN:=zh hown
 have Hsz:=zh hsz
 clear h hT hown hsz
 go_enter Tryz.func32,Tryz.ntmps32
 go_wp2_with fail
 refine c1.out.mono ?_
 rintro e w' ⟨rfl,rfl⟩
 clear c1
 go_wp2_with fail
 refine (new_n _).mono ?_
 rintro e w1 ⟨Y,rfl,hY,hb1,hYn⟩
 have HY:=zh hY
 have HB1:=zh hb1
 have hown1:=HOWN.out.kept (grow_of_below hb1 none) (by simp)
 have q0:=(H.out.below hb1).c0
 have hs1:=hb1.size
 clear hY hb1
 go_wp2_with (first
  | (at_range; refine wpList_range_own _ rfl _ 83 rfl 3 92 lawI Tryz.underlying83 rawR M1 l.length D rfl hown1 ?_; intro w0 hrg0 hg0 hs0)
  | go_in)
 try go_frame
 have hb0:Below w1.heap.size w1 w0:=(Below.refl _ _).grown hg0 (zG _) (fun j hj=>by cases hj)
 have Hb0:=zh (HB1.out.trans (hb0.mono hs1))
 have HY0:=zh (HY.out.new_below hb0)
 clear hg0 hown1 q0 hb0 HY
 generalize hRR:w1.heap.size=R1 at *
 go_loopw [4] (fun _ wr=>∃ (left:Lit→Bool) (cnt:Nat) (js:List Int),wr.ranges Tryz.prog 3 rawR M1 R1 l.length D left cnt∧js.length+cnt≤l.length∧Hid (WayK litI D F1 left js)∧Hid (AlN w.heap.size wr Y js.length (ofN l js))∧Hid (Below w.heap.size w wr)∧R1<wr.heap.size)
  (fun _ wr=>wr.rangeLeft M1 R1)
 case atStart=>exact ⟨_,_,[],hrg0,by have:=Hsz.out; simp only [List.length_nil]; omega,zh (WayK.start HT.out),zh (by rw [ofN_nil]; exact HY0.out),Hb0,by omega⟩
 case round =>
  obtain ⟨left,cnt,js,hrg,hcs,hW,hYr,hB,hzr⟩:=hrel
  go_wp2_with (first
   | (at_next; refine wpList_next_ranges _ rfl _ rfl 3 lawI rawR (Value.int .i64) (fun v:Value=>v) (fun key kl hkey=>by obtain ⟨x,rfl,_⟩:=keyI_inv hkey; exact ⟨x,rfl⟩) (fun v y hv=>⟨v,rfl⟩) M1 R1 _ _ _ _ rfl hrg ?_ ?_)
   | go_in)
  ·intro hc0 hl0
   have hfin:=hW.out.fin hl0
   have hall:ofN l js=l:=ofN_all H.out.al.up (fun i hi=>(hfin i).2 (by rw [H.out.al.iff i]; exact hi))
   have FIN:Hid (ForkN w l (.returned (.pointer (some ⟨Y,0,none⟩))) wr):=zh (by
    have hy:=hYr.out
    rw [hall] at hy
    obtain ⟨cn',N1,N2,G1,G2,g1,g2,g3⟩:=hy.ex
    exact ⟨Y,rfl,⟨cn',N1,N2,G1,G2,by omega,g2,g3⟩,hB.out,hYn⟩)
   clear hrg hl0 hW hfin hall hYr
   go_wp2
   go_ret
   exact FIN.out
  ·intro i ci kli yai ybi w3 cnt1 hkey hlx hv hat hrg1 hlt1 hg1 hs1' hen
   obtain ⟨i',ex,rfl,hxi⟩:=keyI_inv hkey
   injection ex with _ ex
   subst ex
   obtain ⟨hiF,hin,hW1⟩:=hW.out.step HT.out hlx
   have hB1:=hB.out.grown hg1 hB.out.size (fun j hj=>by injection hj with hj; omega)
   have hH3:=H.out.below hB1
   obtain ⟨k,hk⟩:∃ k,get l i=some k:=by
    cases e:get l i with
    | some k=>exact ⟨k,rfl⟩
    | none=>have:=H.out.al.iff i; rw [e] at this; rw [hiF] at this; cases this
   obtain ⟨kv,hkv1,hkv2⟩:=hH3.al.kv i k hk
   obtain ⟨A1,n1,c1,A2,n2,c2,A,c,rfl,_,_⟩:=hkv2.parts
   have hci:ci=.agg #[.string k.text,.int .i64 k.q.kind,.string k.q.name,.slice A1 n1 c1,.slice A2 n2 c2,.slice A k.needs.length c]:=by
    have e1:=rawR_inv hv
    have e2:=HT.out.val i _ hkv1 (.held undef)
    have e3:=hat (.held undef)
    rw [e2] at e3
    have e4:yai=_:=e3.symm
    rw [e4] at e1
    injection e1 with e1
    exact e1.symm
   subst hci
   have hr:=H.out.al.rng _ (get_mem hk)
   have hko:=H.out.al.ok _ (get_mem hk)
   have hY3:AlN w.heap.size w3 Y js.length (ofN l js):=by
    obtain ⟨cn',N1,N2,G1,G2,g1,g2,g3⟩:=hYr.out.ex
    have hnR:∀ b,Own N1 N2 G2 b→b≠R1:=fun b hb e=>ranges_it hrg (e ▸ g2.al.mo b hb)
    have hcg:Chg (fun b=>b=R1) wr w3:=Chg.of_grown hg1 (fun b hb=>by injection hb with hb; exact hb.symm)
    have hnS:∀ b,b=R1→¬ Sc wr b:=fun b hb hsc=>by
     subst hb
     obtain ⟨_,_,_,_,_,_,_,_,_,hit,_⟩:=hrg
     obtain ⟨cs,T,fr,h2⟩:=hsc
     rw [hit] at h2
     injection h2 with h2
     cases h2
    exact ⟨cn',N1,N2,G1,G2,g1,⟨blk_chg g2.blk hcg hnS,g2.al.chg hcg hnS (fun b hb ho=>hnR b ho hb)⟩,g3⟩
   have hmk:=ofN_put (js:=js) H.out.al.up hk
   have HPUT:=zh hmk
   have HKV:=zh hkv2
   have HW1:=zh hW1
   have HB1':=zh hB1
   have HY3:=zh hY3
   have HKO:=zh hko
   have HLT:Hid (cnt1<wr.rangeLeft M1 R1):=zh (by rw [hrg.left_eq]; exact hlt1)
   have HRG:=zh hrg1
   have hle:=ofN_le l js
   have hcs2:js.length+1+cnt1≤l.length:=by omega
   have hs3:=hB1.size
   have hM1w:M1<w.heap.size:=hbl
   have hxs:=hg1.size
   clear hW hW1 hB hB1 hat hkey hv hlx hg1 hs1' hiF hkv1 hkv2 hmk hYr hY3 hko hH3 hrg hrg1 hlt1
   generalize hnn:k.needs.length=nn at *
   generalize htx:k.text=tx at *
   generalize hqk:k.q.kind=qk at *
   generalize hqn:k.q.name=qn at *
   clear hnn htx hqk hqn
   have hb4:Below w3.heap.size w3 (w3.alloc (.cells #[.string tx,.int .i64 qk,.string qn,.slice A1 n1 c1,.slice A2 n2 c2,.slice A nn c] 92)):=(Below.refl _ _).alloc (zG _) _
   have HB4:=zh (HB1'.out.trans (hb4.mono hs3))
   have HY4:=zh (HY3.out.new_below hb4)
   have HKV4:=zh (HKV.out.chg (O:=fun _=>False) (Chg.of_new hb4) (fun _ h=>h.elim))
   have HRG4:=zh (HRG.out.kept (grow_of_below hb4 none) (by simp) (by simp))
   have hz4:w3.heap.size<(w3.alloc (.cells #[.string tx,.int .i64 qk,.string qn,.slice A1 n1 c1,.slice A2 n2 c2,.slice A nn c] 92)).heap.size:=by simp
   have hbx:=Blk.new w3 92 #[.string tx,.int .i64 qk,.string qn,.slice A1 n1 c1,.slice A2 n2 c2,.slice A nn c]
   have r0:=hbx.cell 0
   have r1:=hbx.cell 1
   have r2:=hbx.cell 2
   have r3:=hbx.cell 3
   have r4:=hbx.cell 4
   have r5:=hbx.cell 5
   simp only [zA,zB,zC] at r0 r1 r2 r3 r4 r5
   clear hb4 hbx HY3 HKV HRG
   go_upto_region 7 with (fail)
   generalize w3.alloc (.cells #[.string tx,.int .i64 qk,.string qn,.slice A1 n1 c1,.slice A2 n2 c2,.slice A nn c] 92)=w4 at *
   obtain ⟨cn',N1,N2,G1,G2,g1,g2,g3⟩:=HY4.out.ex
   have CP:=zh (put_any i k (.agg #[.string tx,.int .i64 qk,.string qn,.slice A1 n1 c1,.slice A2 n2 c2,.slice A nn c]) hr HKO.out HKV4.out g2 (by omega) (by omega))
   go_wp2_with fail
   refine CP.out.mono ?_
   rintro e w5 ⟨rfl,G1',G2',hX5,hc5,ho5⟩
   rw [HPUT.out] at hX5
   have hs45:=hc5.size
   have hs04:=HB4.out.size
   have HY5:Hid (AlN w.heap.size w5 Y (js ++ [i]).length (ofN l (js ++ [i]))):=zh ⟨cn'+1,N1,N2,G1',G2',by rw [List.length_append,List.length_singleton]; omega,hX5,fun b hb=>by
    rcases ho5 b hb with h | h
    ·exact g3 b h
    ·have:=HB4.out.size; omega⟩
   have hRlt:R1<w4.heap.size:=by omega
   have HRG5:=zh (ranges_same HRG4.out (hc5.block M1 (by omega) (fun ho=>by have:=g3 M1 ho; omega)) (hc5.block R1 hRlt (fun ho=>ranges_it HRG4.out (g2.al.mo R1 ho))))
   have HB5:=zh (HB4.out.trans (hc5.below HB4.out.size (fun b hb=>g3 b hb)))
   have hle5:=HRG5.out.left_eq
   clear hX5 hc5 ho5 CP g1 g2 g3 HY4 HB4 HKV4 HRG4
   go_wp2
   go_roundw
   case rel=>exact ⟨_,cnt1,js ++ [i],HRG5.out,by rw [List.length_append,List.length_singleton]; omega,HW1,HY5,HB5,by omega⟩
   case measure=>rw [hle5]; exact HLT.out
end Go.Proofs.YtlfpfkallgkjdaaGreat.Al
end

section
namespace Go.Proofs.YtlfpfkallgkjdaaGreat.Al
open Go.RowKit Go.Maps Ut Tk Qy Qp Ev Mv
theorem blk_setCells {T:TypeId} {g:Nat}:∀ (vs:List Value) (o:Nat) (w:World) (cs:Array Value),Blk w g T cs→∃ cs',Blk (w.setCells g o vs) g T cs'∧cs'.size=cs.size∧(∀ k,k<o→cs'[k]?=cs[k]?)∧w.grownBy (w.setCells g o vs) (some g)
 | [],o,w,cs,h=>⟨cs,h,rfl,fun _ _=>rfl,grownBy_refl _ _⟩
 | v :: vs,o,w,cs,h=>by
  obtain ⟨cs',h1,h2,h3,h4⟩:=blk_setCells vs (o+1) (w.setCell ⟨g,o,none⟩ v) _ (h.set_ o v)
  refine ⟨cs',h1,by rw [h2]; simp,fun k hk=>?_,grownBy_trans (grownBy_set w g o v) h4⟩
  rw [h3 k (by omega),Array.getElem?_setIfInBounds]
  rw [if_neg (by omega)]
structure Stg (w wr:World) (g cap:Nat) (L K:List Int) (j:Nat):Prop where
 ex:∃ cs,Blk wr g 3 cs∧cs.size=cap∧(∀ k (h:k<K.length),cs[k]?=some (.int .i64 K[k]))∧∀ k (h:k<L.length),j≤k→cs[k]?=some (.int .i64 L[k])
 gr:w.grownBy wr (some g)
theorem Stg.below {w wr w2:World} {g cap j:Nat} {L K:List Int} (h:Stg w wr g cap L K j) (hb:Below wr.heap.size wr w2):Stg w w2 g cap L K j:=by
 obtain ⟨cs,h1,h2⟩:=h.ex
 exact ⟨⟨cs,h1.below hb h1.lt,h2⟩,grownBy_below h.gr hb⟩
theorem Stg.next {w wr:World} {g cap j:Nat} {L K:List Int} (h:Stg w wr g cap L K j):Stg w wr g cap L K (j+1):=by
 obtain ⟨cs,h1,h2,h3,h4⟩:=h.ex
 exact ⟨⟨cs,h1,h2,h3,fun k hk hj=>h4 k hk (by omega)⟩,h.gr⟩
theorem Stg.put {w wr:World} {g cap j:Nat} {L K:List Int} (h:Stg w wr g cap L K j) (hK:K.length≤j) (hj:j<L.length) (hcap:L.length≤cap) (x:Int):Stg w (wr.setCell ⟨g,K.length,none⟩ (.int .i64 x)) g cap L (K ++ [x]) (j+1):=by
 obtain ⟨cs,h1,h2,h3,h4⟩:=h.ex
 refine ⟨⟨_,h1.set_ K.length _,by simpa using h2,fun k hk=>?_,fun k hk hj2=>?_⟩,grownBy_trans h.gr (grownBy_set wr g _ _)⟩
 ·rw [Array.getElem?_setIfInBounds]
  by_cases e:K.length=k
  ·subst e
   rw [if_pos rfl,if_pos (by omega)]
   simp
  ·rw [if_neg e]
   have hk2:k<K.length:=by simp at hk; omega
   rw [h3 k hk2,List.getElem_append_left hk2]
 ·rw [Array.getElem?_setIfInBounds,if_neg (by omega)]
  exact h4 k hk (by omega)
theorem Stg.own {w wr:World} {base g cap j:Nat} {L K:List Int} (h:Stg w wr g cap L K j) (hbase:base≤g) (hK:K.length≤cap) (hm:cap≤maxLen):wr.ownsRow base 3 1 (.slice (some ⟨g,0,none⟩) K.length cap) K.length (itv K):=by
 obtain ⟨cs,h1,h2,h3,h4⟩:=h.ex
 refine ⟨by rw [itv_len,Nat.mul_one],.inr ⟨g,cap,cs,rfl,hbase,h1,hK,hm,by rw [h2,Nat.mul_one],?_⟩⟩
 apply List.ext_getElem?
 intro k
 rw [Nat.mul_one]
 by_cases hk:k<K.length
 ·rw [List.getElem?_take_of_lt hk,Array.getElem?_toList,h3 k hk,itv_get K k hk]
 ·rw [List.getElem?_take_eq_none (by omega),List.getElem?_eq_none (by rw [itv_len]; omega)]
def keepL (d:Int→Bool) (L:List Int):List Int:=L.filter (fun x=>!d x)
theorem keepL_snoc (d:Int→Bool) (L:List Int) (x:Int):keepL d (L ++ [x])=keepL d L ++ (if d x then [] else [x]):=by
 unfold keepL
 rw [List.filter_append]
 cases h:d x <;> simp [h]
theorem keepL_le (d:Int→Bool) (L:List Int):(keepL d L).length≤L.length:=List.length_filter_le _ _
theorem keepL_all {d:Int→Bool} {L:List Int} (h:∀ x∈L,d x=false):keepL d L=L:=List.filter_eq_self.2 (fun x hx=>by rw [h x hx]; rfl)
def DelP (w:World) (base:Nat) (v:Value) (K:List Int) (e:Ending) (w':World):Prop:=∃ v',e=.returned v'∧w'.ownsRow base 3 1 v' K.length (itv K)∧w.grownBy w' v.ownBlock∧v'.ownBlock=v.ownBlock
theorem idxF_is (p:Nat→Bool) (n:Nat):(idxF p n=-1∧∀ j,j<n→p j=false)∨∃ k,k<n∧idxF p n=(k:Int)∧p k=true∧∀ j,j<k→p j=false:=by
 by_cases h:∃ k,k<n∧p k=true
 ·right
  have h2:∃ k,k<n∧p k=true∧∀ j,j<k→p j=false:=by
   obtain ⟨k,hk⟩:=h
   induction k using Nat.strongRecOn with
   | ind k ih =>
    by_cases c:∃ j,j<k∧p j=true
    ·obtain ⟨j,hj,hp⟩:=c
     exact ih j hj ⟨by omega,hp⟩
    ·refine ⟨k,hk.1,hk.2,fun j hj=>?_⟩
     cases e:p j with
     | false=>rfl
     | true=>exact absurd ⟨j,hj,e⟩ c
  obtain ⟨k,h1,h2,h3⟩:=h2
  exact ⟨k,h1,idxF_hit p n k h1 h3 h2,h2,h3⟩
 ·left
  have h2:∀ j,j<n→p j=false:=fun j hj=>by
   cases e:p j with
   | false=>rfl
   | true=>exact absurd ⟨j,hj,e⟩ h
  exact ⟨idxF_no p n h2,h2⟩
set_option maxHeartbeats 3200000 in
theorem del_any {w:World} {base:Nat} {v:Value} {L:List Int} (hown:w.ownsRow base 3 1 v L.length (itv L)) (hll:L.length≤4294967296) (f:Nat) (lb:Array Value) (d:Int→Bool) (hcf:∀ args wx,(callFunc f args).run Tryz.prog wx=.ok (.enter f args) wx)
  (hf:∀ x∈L,∀ wx,w.grownBy wx v.ownBlock→Calls Tryz.prog f (#[.int .i64 x] ++ lb) wx fun e w'=>e=.returned (.bool (d x))∧Below wx.heap.size wx w') :
  Calls Tryz.prog 44 #[v,.func (.func f) #[] lb] w (DelP w base v (keepL d L)):=by
 obtain ⟨A0,c0,rfl,hrd,_⟩:=Ev.own_shape2 hown
 have c1:=indexInt A0 L.length c0 L f lb (fun i=>d (L.getD i 0)) w hcf hrd rfl (by omega) (fun i hi wx hb=>by
  rw [List.getD_eq_getElem?_getD,List.getElem?_eq_getElem hi]
  exact hf _ (List.getElem_mem hi) wx (grow_of_below hb _))
 rcases idxF_is (fun i=>d (L.getD i 0)) L.length with ⟨hz,hno⟩ | ⟨k,hk,hz,hyes,hno⟩
 ·rw [hz] at c1
  have hkp:keepL d L=L:=keepL_all (fun x hx=>by
   obtain ⟨i,hi,rfl⟩:=List.mem_iff_getElem.1 hx
   have:=hno i hi
   rw [List.getD_eq_getElem?_getD,List.getElem?_eq_getElem hi] at this
   exact this)
  rw [hkp]
  have FIN:Hid (∀ w2,Below w.heap.size w w2→DelP w base (.slice A0 L.length c0) L (.returned (.slice A0 L.length c0)) w2):=zh (fun w2 hb=>⟨_,rfl,hown.kept (grow_of_below hb none) (by cases Value.ownBlock _ <;> simp),grow_of_below hb _,rfl⟩)
  clear hown hrd hno hkp hf hz
  go_enter Tryz.func44,Tryz.ntmps44
  go_wp2_with fail
  refine c1.mono ?_
  rintro e w2 ⟨rfl,hb2⟩
  go_wp2
  go_ret
  exact FIN.out _ hb2
 ·rw [hz] at c1
  obtain ⟨m0,hm0⟩:∃ m0,L.length=m0+1:=⟨L.length - 1,by omega⟩
  rcases hown.2 with ⟨hnil,h0⟩ | ⟨g,cap,cur,hv,hbase,hb,h1,h2,h3,h4⟩
  ·omega
  injection hv with hA hn hc
  subst hA hc
  have hstart:Stg w w g c0 L (L.take k) k:=by
   refine ⟨⟨cur,hb,by rw [h3,Nat.mul_one],fun q hq=>?_,fun q hq hj=>?_⟩,grownBy_refl _ _⟩
   ·have hq2:q<L.length:=by rw [List.length_take] at hq; omega
    have e:=congrArg (fun (l:List Value)=>l[q]?) h4
    simp only [Nat.mul_one] at e
    rw [List.getElem?_take_of_lt hq2,Array.getElem?_toList,itv_get L q hq2] at e
    rw [e,List.getElem_take]
   ·have e:=congrArg (fun (l:List Value)=>l[q]?) h4
    simp only [Nat.mul_one] at e
    rw [List.getElem?_take_of_lt hq,Array.getElem?_toList,itv_get L q hq] at e
    exact e
  have hkk:keepL d (L.take (k+1))=L.take k:=by
   rw [List.take_succ_eq_append_getElem hk,keepL_snoc]
   have h5:d L[k]=true:=by
    rw [List.getD_eq_getElem?_getD,List.getElem?_eq_getElem hk] at hyes
    exact hyes
   rw [h5,if_pos rfl,List.append_nil]
   exact keepL_all (fun x hx=>by
    obtain ⟨i,hi,rfl⟩:=List.mem_iff_getElem.1 hx
    rw [List.length_take] at hi
    rw [List.getElem_take]
    have:=hno i (by omega)
    rw [List.getD_eq_getElem?_getD,List.getElem?_eq_getElem (by omega)] at this
    exact this)
  have HST:=zh hstart.next
  have HKK:=zh hkk
  have HF:=zh hf
  have hob:(Value.slice (some ⟨g,0,none⟩) L.length c0).ownBlock=some g:=rfl
  have HOB:=zh hob
  have h2':=h2
  clear hown hrd hno hyes hz hf hstart hkk h4 hb h3 hn hob hm0 h2
  go_enter Tryz.func44,Tryz.ntmps44
  go_wp2_with fail
  refine c1.mono ?_
  rintro e w2 ⟨rfl,hb2⟩
  have HST2:=zh (HST.out.below hb2)
  clear c1 hb2 HST
  go_wp2_with fail
  go_loopw [5,6] (fun a b wr=>∃ j:Nat,k+1≤j∧j≤L.length∧a=.int .i64 ((keepL d (L.take j)).length:Nat)∧b=.int .i64 j∧Hid (Stg w wr g c0 L (keepL d (L.take j)) j)) (fun _ b _=>L.length - (intOf b).toNat)
  case atStart =>
   refine ⟨k+1,zG _,by omega,?_,by go_num,?_⟩
   ·rw [HKK.out,List.length_take,Nat.min_eq_left (by omega)]
   ·rw [HKK.out]; exact HST2
  case round =>
   obtain ⟨j,hkj,hjl,rfl,rfl,hS⟩:=hrel
   have hkle:(keepL d (L.take j)).length≤j:=Nat.le_trans (keepL_le d _) (by rw [List.length_take]; omega)
   by_cases hlt:j<L.length
   ·obtain ⟨cs,q1,q2,q3,q4⟩:=hS.out.ex
    have hcj:=q1.cell j
    rw [q4 j hlt (zG _)] at hcj
    have hts:L.take (j+1)=L.take j ++ [L[j]]:=List.take_succ_eq_append_getElem hlt
    have hsn:=keepL_snoc d (L.take j) L[j]
    rw [← hts] at hsn
    have HSN:=zh hsn
    have CF:=zh (HF.out L[j] (List.getElem_mem hlt) _ (by rw [HOB.out]; exact hS.out.gr))
    have HSP:=zh (hS.out.next)
    have HPUT:Hid (∀ wz,Below wr.heap.size wr wz→Stg w (wz.setCell ⟨g,(keepL d (L.take j)).length,none⟩ (.int .i64 L[j])) g c0 L (keepL d (L.take j) ++ [L[j]]) (j+1)):=zh (fun wz hb=>(hS.out.below hb).put hkle hlt h1 L[j])
    have HBK:Hid (∀ wz,Below wr.heap.size wr wz→(wz.cell? ⟨g,(keepL d (L.take j)).length,none⟩).isSome=true∧wz.frozen? ⟨g,(keepL d (L.take j)).length,none⟩=false):=zh (fun wz hb=>by
     have r:=q1.below hb q1.lt
     refine ⟨?_,r.frozen _⟩
     rw [r.cell,Array.getElem?_eq_getElem (by omega)]; rfl)
    have hlt':(j:Int)<(L.length:Int):=by omega
    clear q1 q2 q3 q4 hts hsn
    generalize hkl:keepL d (L.take j)=K at *
    clear hkl
    generalize L[j]=x at *
    cases hd:d x with
    | true =>
     rw [hd] at CF
     have e1:keepL d (L.take (j+1))=K:=by rw [HSN.out,hd]; simp
     have HE:=zh e1
     clear hd e1 HSN
     go_wp2_with fail
     refine CF.out.mono ?_
     rintro e w5 ⟨rfl,hb5⟩
     have HS5:=zh (HSP.out.below hb5)
     clear hb5 CF HPUT HBK hcj
     go_wp2
     refine ⟨?_,?measure⟩
     (repeat apply Exists.intro)
     refine ⟨?rel,rfl⟩
     case rel=>exact ⟨j+1,by omega,by omega,by rw [HE.out],by go_num,by rw [HE.out]; exact HS5⟩
     case measure=>simp [intOf]; omega
    | false =>
     rw [hd] at CF
     have e1:keepL d (L.take (j+1))=K ++ [x]:=by rw [HSN.out,hd]; simp
     have HE:=zh e1
     clear hd e1 HSN
     go_wp2_with fail
     refine CF.out.mono ?_
     rintro e w5 ⟨rfl,hb5⟩
     have HS5:=zh (HPUT.out w5 hb5)
     obtain ⟨hk1,hk2⟩:=HBK.out w5 hb5
     obtain ⟨u9,hk1⟩:=Option.isSome_iff_exists.1 hk1
     have hKlt:(K.length:Int)<(L.length:Int):=by omega
     clear hb5 CF HPUT HBK hcj
     go_wp2
     refine ⟨?_,?measure⟩
     (repeat apply Exists.intro)
     refine ⟨?rel,rfl⟩
     case rel=>exact ⟨j+1,by omega,by omega,by rw [HE.out,List.length_append]; go_num,by go_num,by rw [HE.out]; exact HS5⟩
     case measure=>simp [intOf]; omega
   ·obtain rfl:j=L.length:=by omega
    rw [List.take_length] at hS hkle
    simp only [List.take_length]
    obtain ⟨cs,q1,q2,q3,q4⟩:=hS.out.ex
    have hKle:(keepL d L).length≤c0:=by omega
    have hlast:(keepL d L).length<L.length:=by
     have e1:keepL d L=keepL d (L.take (k+1)) ++ keepL d (L.drop (k+1)):=by
      unfold keepL
      rw [← List.filter_append,List.take_append_drop]
     have e2:=keepL_le d (L.drop (k+1))
     rw [e1,HKK.out,List.length_append,List.length_take]
     rw [List.length_drop] at e2
     omega
    ·have hcl:=fun ty=>Lib.run_clear_slice (P:=Tryz.prog) wr 38 3 ty (.int .i64 0) Tryz.underlying38 Tryz.zeroValue3 rfl rfl g (keepL d L).length (L.length - (keepL d L).length) (c0 - (keepL d L).length) (by omega)
      (fun t ht=>by rw [q1.cell,Array.getElem?_eq_getElem (by omega)]; rfl) (fun t ht=>q1.frozen _)
     obtain ⟨cs',r1,r2,r3,r4⟩:=blk_setCells (List.replicate (L.length - (keepL d L).length) (.int .i64 0)) (keepL d L).length wr cs q1
     have hSF:Stg w (wr.setCells g (keepL d L).length (List.replicate (L.length - (keepL d L).length) (.int .i64 0))) g c0 L (keepL d L) L.length:=⟨⟨cs',r1,by omega,fun q hq=>by rw [r3 q hq]; exact q3 q hq,fun q hq hj=>by omega⟩,grownBy_trans hS.out.gr r4⟩
     have FIN:Hid (DelP w base (.slice (some ⟨g,0,none⟩) L.length c0) (keepL d L) (.returned (.slice (some ⟨g,0,none⟩) (keepL d L).length c0)) (wr.setCells g (keepL d L).length (List.replicate (L.length - (keepL d L).length) (.int .i64 0)))):=zh ⟨_,rfl,hSF.own hbase hKle h2',hSF.gr,rfl⟩
     have hlast':((keepL d L).length:Int)<(L.length:Int):=by omega
     clear q1 q2 q3 q4 r1 r2 r3 r4 hSF hS
     generalize (keepL d L).length=kn at *
     go_wp2
     go_ret
     exact FIN.out
end Go.Proofs.YtlfpfkallgkjdaaGreat.Al
end
