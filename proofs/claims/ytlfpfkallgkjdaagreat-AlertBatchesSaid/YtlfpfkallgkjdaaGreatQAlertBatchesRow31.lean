/- Kept queries whose maps lie above a base: Put, Drop. (No walk.) -/
import Derived.Deep.QuietTactic
import Derived.Test.YtlfpfkallgkjdaaGreatQAlertBatchesRow30
import Derived.Test.YtlfpfkallgkjdaaGreatQAlertBatchesRow35
import Derived.Test.YtlfpfkallgkjdaaGreatQAlertBatchesRow46
import Derived.Test.YtlfpfkallgkjdaaGreatQAlertBatchesRow27
import Derived.Test.YtlfpfkallgkjdaaGreatQAlertBatchesRow48
import Derived.Test.YtlfpfkallgkjdaaGreatQAlertBatchesRow4
import Derived.Test.YtlfpfkallgkjdaaGreatQAlertBatchesRow1
import Derived.Test.YtlfpfkallgkjdaaGreatQAlertBatchesRow3
import Derived.Test.YtlfpfkallgkjdaaGreatQAlertBatchesRow20
import Derived.Test.YtlfpfkallgkjdaaGreatQAlertBatchesRow0
set_option linter.unusedSimpArgs false
set_option linter.unusedVariables false
set_option maxRecDepth 40000
section
namespace Go.Proofs.YtlfpfkallgkjdaaGreat.Al
open Go.RowKit Go.Maps Ut Tk Qy Qp Ev Mv
def Frm (n0:Nat) (w w':World):Prop:=Chg (fun b=>n0≤b∧Mo w b) w w'
theorem Frm.refl (n0:Nat) (w:World):Frm n0 w w:=Chg.refl _ _
theorem Frm.new {n0:Nat} {w w':World} (h:Below w.heap.size w w'):Frm n0 w w':=Chg.of_new h
theorem Frm.mo {n0:Nat} {w w':World} (h:Frm n0 w w') {b:Nat} (hb:b<w.heap.size) (hm:Mo w' b):Mo w b:=by
 refine Classical.byContradiction fun hn=>hn (hm.same (h.block b hb (fun e=>hn e.2)).symm)
theorem Frm.trans {n0:Nat} {w w1 w2:World} (h:Frm n0 w w1) (k:Frm n0 w1 w2):Frm n0 w w2:=Chg.trans h k (fun b hb=>by
 by_cases hl:b<w.heap.size
 ·exact .inl ⟨hb.1,h.mo hl hb.2⟩
 ·exact .inr (by omega))
theorem Frm.size {n0:Nat} {w w':World} (h:Frm n0 w w'):w.heap.size≤w'.heap.size:=Chg.size h
theorem Frm.noSc {n0:Nat} {w:World}:∀ b,(n0≤b∧Mo w b)→¬ Sc w b:=fun b hb=>hb.2.not
theorem Frm.blk {n0:Nat} {w w':World} {b:Nat} {T:TypeId} {cs:Array Value} (h:Frm n0 w w') (k:Blk w b T cs):Blk w' b T cs:=blk_chg k h Frm.noSc
theorem Frm.reads {n0:Nat} {w w':World} {k n:Nat} {A:Option Addr} {xs:List Value} (h:Frm n0 w w') (r:ReadsS w (Sc w) k A n xs):ReadsS w' (Sc w') k A n xs:=reads_chg r h Frm.noSc
theorem Frm.below {n0:Nat} {w w':World} (h:Frm n0 w w') (hn:n0≤w.heap.size):Below n0 w w':=Chg.below h hn (fun b hb=>hb.1)
theorem Frm.more {n0 n1:Nat} {w w':World} (h:Frm n1 w w') (hn:n0≤n1):Frm n0 w w':=Chg.mono h (fun b _ hb=>⟨by omega,hb.2⟩)
theorem frm_own {n0:Nat} {w w':World} {X cn M1 M2:Nat} {F1:Int→Option Value} {F2:ByteArray→Option Nat} {l:List (Int × Kp)} (h:AlX w X cn M1 M2 F1 F2 l) (ho:∀ b,Own M1 M2 F2 b→n0≤b) (hc:Chg (Own M1 M2 F2) w w'):Frm n0 w w' :=
 hc.mono (fun b _ hb=>⟨ho b hb,h.al.mo b hb⟩)
structure AlN (n0:Nat) (w:World) (X K:Nat) (l:List (Int × Kp)):Prop where
 ex:∃ cn M1 M2 F1 F2,cn≤K∧AlX w X cn M1 M2 F1 F2 l∧∀ b,Own M1 M2 F2 b→n0≤b
section
variable {n0:Nat} {w w':World} {X K:Nat} {l:List (Int × Kp)}
theorem AlN.new_below (h:AlN n0 w X K l) (hb:Below w.heap.size w w'):AlN n0 w' X K l:=by
 obtain ⟨cn,M1,M2,F1,F2,h1,h2,h3⟩:=h.ex
 exact ⟨cn,M1,M2,F1,F2,h1,h2.below hb,h3⟩
theorem AlN.base {n1:Nat} (h:AlN n0 w X K l) (hn:n1≤n0):AlN n1 w X K l:=by
 obtain ⟨cn,M1,M2,F1,F2,h1,h2,h3⟩:=h.ex
 exact ⟨cn,M1,M2,F1,F2,h1,h2,fun b hb=>by have:=h3 b hb; omega⟩
theorem AlN.up (h:AlN n0 w X K l):UpI l:=by
 obtain ⟨cn,M1,M2,F1,F2,h1,h2,h3⟩:=h.ex
 exact h2.al.up
theorem AlN.ok (h:AlN n0 w X K l):∀ x∈l,KOk x.2:=by
 obtain ⟨cn,M1,M2,F1,F2,h1,h2,h3⟩:=h.ex
 exact h2.al.ok
theorem AlN.rng (h:AlN n0 w X K l):∀ x∈l,0≤x.1∧x.1≤999999:=by
 obtain ⟨cn,M1,M2,F1,F2,h1,h2,h3⟩:=h.ex
 exact h2.al.rng
def PutN (n0:Nat) (w:World) (X K:Nat) (l:List (Int × Kp)) (i:Int) (s:ByteArray) (e:Ending) (w':World):Prop:=∃ E l',PutR l i s E l'∧e=.returned (.int .i64 E)∧AlN n0 w' X (K+1) l'∧Frm n0 w w'
theorem put_n (h:AlN n0 w X K l) (hn:n0≤w.heap.size) (i:Int) (hi:I64 i) (s:ByteArray) (hll:l.length≤1000) (hK:K≤4294967296) :
  Calls Tryz.prog 10 #[.pointer (some ⟨X,0,none⟩),.int .i64 i,.string s] w (PutN n0 w X K l i s):=by
 obtain ⟨cn,M1,M2,F1,F2,h1,h2,h3⟩:=h.ex
 refine (puts_any i hi s h2 hll (by omega)).mono ?_
 rintro e w' ⟨E,l',F1',F2',hp,rfl,hX,hc,ho⟩
 exact ⟨E,l',hp,rfl,⟨cn+1,M1,M2,F1',F2',by omega,hX,fun b hb=>by
  rcases ho b hb with h | h
  ·exact h3 b h
  ·omega⟩,frm_own h2 h3 hc⟩
def DropN (n0:Nat) (w:World) (X K:Nat) (l:List (Int × Kp)) (ids:List Int) (e:Ending) (w':World):Prop:=e=.returned (.int .i64 (cntD l ids:Nat))∧AlN n0 w' X K (dropsL l ids)∧Frm n0 w w'
theorem drop_n (h:AlN n0 w X K l) (A:Option Addr) (n c:Nat) (ids:List Int) (hR:ReadsS w (Sc w) 1 A n (itv ids)) (hn:ids.length=n) (hn2:n≤4294967296) (hw:∀ i∈ids,I64 i) :
  Calls Tryz.prog 12 #[.pointer (some ⟨X,0,none⟩),.slice A n c] w (DropN n0 w X K l ids):=by
 obtain ⟨cn,M1,M2,F1,F2,h1,h2,h3⟩:=h.ex
 refine (drops_any A n c ids hR hn hn2 hw h2).mono ?_
 rintro e w' ⟨F1',rfl,hX,hc⟩
 exact ⟨rfl,⟨cn,M1,M2,F1',F2,h1,hX,h3⟩,frm_own h2 h3 hc⟩
end
def NewN (w:World) (e:Ending) (w':World):Prop:=∃ X,e=.returned (.pointer (some ⟨X,0,none⟩))∧AlN w.heap.size w' X 0 []∧Below w.heap.size w w'∧w.heap.size≤X
theorem new_n (w:World):Calls Tryz.prog 9 #[] w (NewN w):=by
 refine (new_any w).mono ?_
 rintro e w' ⟨X,M1,M2,rfl,hX,hb,h1,h2,h3⟩
 exact ⟨X,rfl,⟨0,M1,M2,_,_,zG _,hX,fun b hb=>by
  rcases hb with rfl | rfl | ⟨s,hs⟩
  ·exact h1
  ·exact h2
  ·cases hs⟩,hb,h3⟩
end Go.Proofs.YtlfpfkallgkjdaaGreat.Al
end

section
namespace Go.Proofs.YtlfpfkallgkjdaaGreat.Al
open Go.RowKit Go.Maps Ut Tk Qy Qp Ev Mv
theorem ranges_same {H:Type} {P:Program} {k:TypeId} {R:Value→Option (DataW H × List MemPlace)} {w w':World} {b r n:Nat} {D:DataW H} {left:Lit→Bool} {cnt:Nat} (h:w.ranges P k R b r n D left cnt) (e1:w'.heap[b]?=w.heap[b]?) (e2:w'.heap[r]?=w.heap[r]?):w'.ranges P k R b r n D left cnt:=by
 obtain ⟨es,clock,since,seen,c0,hb,F,hs,hD,hr,rest⟩:=h
 exact ⟨es,clock,since,seen,c0,e1.trans hb,F,hs,hD,e2.trans hr,rest⟩
theorem ranges_it {H:Type} {P:Program} {k:TypeId} {R:Value→Option (DataW H × List MemPlace)} {w:World} {b r n:Nat} {D:DataW H} {left:Lit→Bool} {cnt:Nat} (h:w.ranges P k R b r n D left cnt):¬ Mo w r:=fun ⟨es,ck,h2⟩=>by
 obtain ⟨_,_,_,_,_,_,_,_,_,hr,_⟩:=h
 rw [hr] at h2
 injection h2 with h2
 cases h2
def ofN (l:List (Int × Kp)) (js:List Int):List (Int × Kp):=l.filter (fun x=>decide (x.1∈js))
theorem ofN_nil (l:List (Int × Kp)):ofN l []=[]:=by simp [ofN]
theorem ofN_up {l:List (Int × Kp)} (h:UpI l) (js:List Int):UpI (ofN l js):=h.sublist List.filter_sublist
theorem get_filter {l:List (Int × Kp)} (hu:UpI l) (p:Int→Bool) (i:Int):get (l.filter (fun x=>p x.1)) i=if p i then get l i else none:=by
 have hf:UpI (l.filter (fun x=>p x.1)):=hu.sublist List.filter_sublist
 cases hp:p i with
 | true =>
  rw [if_pos rfl]
  cases hg:get l i with
  | none =>
   cases e:get (l.filter (fun x=>p x.1)) i with
   | none=>rfl
   | some k =>
    have:=mem_get hu (List.mem_filter.1 (get_mem e)).1
    simp only at this
    rw [hg] at this
    cases this
  | some k=>exact mem_get hf (x:=(i,k)) (List.mem_filter.2 ⟨get_mem hg,hp⟩)
 | false =>
  rw [if_neg (by decide)]
  cases e:get (l.filter (fun x=>p x.1)) i with
  | none=>rfl
  | some k =>
   have:=(List.mem_filter.1 (get_mem e)).2
   simp only [hp] at this
   cases this
theorem ofN_get {l:List (Int × Kp)} (hu:UpI l) (js:List Int) (i:Int):get (ofN l js) i=if i∈js then get l i else none:=by
 unfold ofN
 rw [get_filter hu (fun i=>decide (i∈js))]
 by_cases h:i∈js <;> simp [h]
theorem ofN_put {l:List (Int × Kp)} (hu:UpI l) {js:List Int} {i:Int} {k:Kp} (hk:get l i=some k):put (ofN l js) i k=ofN l (js ++ [i]):=by
 refine get_one (put_up (ofN_up hu js) i k) (ofN_up hu _) (fun j=>?_)
 rw [get_put (ofN_up hu js),ofN_get hu,ofN_get hu]
 by_cases e:j=i
 ·rw [if_pos e,if_pos (by simp [e]),e,hk]
 ·rw [if_neg e]
  by_cases h:j∈js
  ·rw [if_pos h,if_pos (by simp [h])]
  ·rw [if_neg h,if_neg (by simp [h,e])]
theorem ofN_all {l:List (Int × Kp)} (hu:UpI l) {js:List Int} (h:∀ i,(get l i).isSome=true→i∈js):ofN l js=l:=by
 refine get_one (ofN_up hu js) hu (fun j=>?_)
 rw [ofN_get hu]
 split
 ·rfl
 ·rename_i hn
  cases e:get l j with
  | none=>rfl
  | some k=>exact absurd (h j (by rw [e]; rfl)) hn
theorem ofN_le (l:List (Int × Kp)) (js:List Int):(ofN l js).length≤l.length:=List.length_filter_le _ _
def ForkN (w:World) (l:List (Int × Kp)) (e:Ending) (w':World):Prop:=∃ Y,e=.returned (.pointer (some ⟨Y,0,none⟩))∧AlN w.heap.size w' Y l.length l∧Below w.heap.size w w'∧w.heap.size≤Y
set_option maxHeartbeats 3200000 in
theorem fork_any {w:World} {X cn M1 M2:Nat} {F1:Int→Option Value} {F2:ByteArray→Option Nat} {l:List (Int × Kp)} (h:AlX w X cn M1 M2 F1 F2 l) (hll:l.length≤1000) :
  Calls Tryz.prog 32 #[.pointer (some ⟨X,0,none⟩)] w (ForkN w l):=by
 have c1:=zh (none_no h.c0)
 obtain ⟨D,hown,hT,hsz⟩:=h.al.m1.ex
 have hbl:=hown.lt
 have HT:=zh hT
 have H:=zh h
 have HOWN:=zh hown
 have Hsz:=zh hsz
 clear h hT hown hsz
 go_enter Tryz.func32,Tryz.ntmps32
 go_wp2_with fail
 refine c1.out.mono ?_
 rintro e w' ⟨rfl,rfl⟩
 clear c1
 go_wp2_with fail
 refine (new_n _).mono ?_
 rintro e w1 ⟨Y,rfl,hY,hb1,hYn⟩
 have HY:=zh hY
 have HB1:=zh hb1
 have hown1:=HOWN.out.kept (grow_of_below hb1 none) (by simp)
 have q0:=(H.out.below hb1).c0
 have hs1:=hb1.size
 clear hY hb1
 go_wp2_with (first
  | (at_range; refine wpList_range_own _ rfl _ 83 rfl 3 92 lawI Tryz.underlying83 rawR M1 l.length D rfl hown1 ?_; intro w0 hrg0 hg0 hs0)
  | go_in)
 try go_frame
 have hb0:Below w1.heap.size w1 w0:=(Below.refl _ _).grown hg0 (zG _) (fun j hj=>by cases hj)
 have Hb0:=zh (HB1.out.trans (hb0.mono hs1))
 have HY0:=zh (HY.out.new_below hb0)
 clear hg0 hown1 q0 hb0 HY
 generalize hRR:w1.heap.size=R1 at *
 go_loopw [4] (fun _ wr=>∃ (left:Lit→Bool) (cnt:Nat) (js:List Int),wr.ranges Tryz.prog 3 rawR M1 R1 l.length D left cnt∧js.length+cnt≤l.length∧Hid (WayK litI D F1 left js)∧Hid (AlN w.heap.size wr Y js.length (ofN l js))∧Hid (Below w.heap.size w wr)∧R1<wr.heap.size)
  (fun _ wr=>wr.rangeLeft M1 R1)
 case atStart=>exact ⟨_,_,[],hrg0,by have:=Hsz.out; simp only [List.length_nil]; omega,zh (WayK.start HT.out),zh (by rw [ofN_nil]; exact HY0.out),Hb0,by omega⟩
 case round =>
  obtain ⟨left,cnt,js,hrg,hcs,hW,hYr,hB,hzr⟩:=hrel
  go_wp2_with (first
   | (at_next; refine wpList_next_ranges _ rfl _ rfl 3 lawI rawR (Value.int .i64) (fun v:Value=>v) (fun key kl hkey=>by obtain ⟨x,rfl,_⟩:=keyI_inv hkey; exact ⟨x,rfl⟩) (fun v y hv=>⟨v,rfl⟩) M1 R1 _ _ _ _ rfl hrg ?_ ?_)
   | go_in)
  ·intro hc0 hl0
   have hfin:=hW.out.fin hl0
   have hall:ofN l js=l:=ofN_all H.out.al.up (fun i hi=>(hfin i).2 (by rw [H.out.al.iff i]; exact hi))
   have FIN:Hid (ForkN w l (.returned (.pointer (some ⟨Y,0,none⟩))) wr):=zh (by
    have hy:=hYr.out
    rw [hall] at hy
    obtain ⟨cn',N1,N2,G1,G2,g1,g2,g3⟩:=hy.ex
    exact ⟨Y,rfl,⟨cn',N1,N2,G1,G2,by omega,g2,g3⟩,hB.out,hYn⟩)
   clear hrg hl0 hW hfin hall hYr
   go_wp2
   go_ret
   exact FIN.out
  ·intro i ci kli yai ybi w3 cnt1 hkey hlx hv hat hrg1 hlt1 hg1 hs1' hen
   obtain ⟨i',ex,rfl,hxi⟩:=keyI_inv hkey
   injection ex with _ ex
   subst ex
   obtain ⟨hiF,hin,hW1⟩:=hW.out.step HT.out hlx
   have hB1:=hB.out.grown hg1 hB.out.size (fun j hj=>by injection hj with hj; omega)
   have hH3:=H.out.below hB1
   obtain ⟨k,hk⟩:∃ k,get l i=some k:=by
    cases e:get l i with
    | some k=>exact ⟨k,rfl⟩
    | none=>have:=H.out.al.iff i; rw [e] at this; rw [hiF] at this; cases this
   obtain ⟨kv,hkv1,hkv2⟩:=hH3.al.kv i k hk
   obtain ⟨A1,n1,c1,A2,n2,c2,A,c,rfl,_,_⟩:=hkv2.parts
   have hci:ci=.agg #[.string k.text,.int .i64 k.q.kind,.string k.q.name,.slice A1 n1 c1,.slice A2 n2 c2,.slice A k.needs.length c]:=by
    have e1:=rawR_inv hv
    have e2:=HT.out.val i _ hkv1 (.held undef)
    have e3:=hat (.held undef)
    rw [e2] at e3
    have e4:yai=_:=e3.symm
    rw [e4] at e1
    injection e1 with e1
    exact e1.symm
   subst hci
   have hr:=H.out.al.rng _ (get_mem hk)
   have hko:=H.out.al.ok _ (get_mem hk)
   have hY3:AlN w.heap.size w3 Y js.length (ofN l js):=by
    obtain ⟨cn',N1,N2,G1,G2,g1,g2,g3⟩:=hYr.out.ex
    have hnR:∀ b,Own N1 N2 G2 b→b≠R1:=fun b hb e=>ranges_it hrg (e ▸ g2.al.mo b hb)
    have hcg:Chg (fun b=>b=R1) wr w3:=Chg.of_grown hg1 (fun b hb=>by injection hb with hb; exact hb.symm)
    have hnS:∀ b,b=R1→¬ Sc wr b:=fun b hb hsc=>by
     subst hb
     obtain ⟨_,_,_,_,_,_,_,_,_,hit,_⟩:=hrg
     obtain ⟨cs,T,fr,h2⟩:=hsc
     rw [hit] at h2
     injection h2 with h2
     cases h2
    exact ⟨cn',N1,N2,G1,G2,g1,⟨blk_chg g2.blk hcg hnS,g2.al.chg hcg hnS (fun b hb ho=>hnR b ho hb)⟩,g3⟩
   have hmk:=ofN_put (js:=js) H.out.al.up hk
   have HPUT:=zh hmk
   have HKV:=zh hkv2
   have HW1:=zh hW1
   have HB1':=zh hB1
   have HY3:=zh hY3
   have HKO:=zh hko
   have HLT:Hid (cnt1<wr.rangeLeft M1 R1):=zh (by rw [hrg.left_eq]; exact hlt1)
   have HRG:=zh hrg1
   have hle:=ofN_le l js
   have hcs2:js.length+1+cnt1≤l.length:=by omega
   have hs3:=hB1.size
   have hM1w:M1<w.heap.size:=hbl
   have hxs:=hg1.size
   clear hW hW1 hB hB1 hat hkey hv hlx hg1 hs1' hiF hkv1 hkv2 hmk hYr hY3 hko hH3 hrg hrg1 hlt1
   generalize hnn:k.needs.length=nn at *
   generalize htx:k.text=tx at *
   generalize hqk:k.q.kind=qk at *
   generalize hqn:k.q.name=qn at *
   clear hnn htx hqk hqn
   have hb4:Below w3.heap.size w3 (w3.alloc (.cells #[.string tx,.int .i64 qk,.string qn,.slice A1 n1 c1,.slice A2 n2 c2,.slice A nn c] 92)):=(Below.refl _ _).alloc (zG _) _
   have HB4:=zh (HB1'.out.trans (hb4.mono hs3))
   have HY4:=zh (HY3.out.new_below hb4)
   have HKV4:=zh (HKV.out.chg (O:=fun _=>False) (Chg.of_new hb4) (fun _ h=>h.elim))
   have HRG4:=zh (HRG.out.kept (grow_of_below hb4 none) (by simp) (by simp))
   have hz4:w3.heap.size<(w3.alloc (.cells #[.string tx,.int .i64 qk,.string qn,.slice A1 n1 c1,.slice A2 n2 c2,.slice A nn c] 92)).heap.size:=by simp
   have hbx:=Blk.new w3 92 #[.string tx,.int .i64 qk,.string qn,.slice A1 n1 c1,.slice A2 n2 c2,.slice A nn c]
   have r0:=hbx.cell 0
   have r1:=hbx.cell 1
   have r2:=hbx.cell 2
   have r3:=hbx.cell 3
   have r4:=hbx.cell 4
   have r5:=hbx.cell 5
   simp only [zA,zB,zC] at r0 r1 r2 r3 r4 r5
   clear hb4 hbx HY3 HKV HRG
   go_upto_region 7 with (fail)
   generalize w3.alloc (.cells #[.string tx,.int .i64 qk,.string qn,.slice A1 n1 c1,.slice A2 n2 c2,.slice A nn c] 92)=w4 at *
   obtain ⟨cn',N1,N2,G1,G2,g1,g2,g3⟩:=HY4.out.ex
   have CP:=zh (put_any i k (.agg #[.string tx,.int .i64 qk,.string qn,.slice A1 n1 c1,.slice A2 n2 c2,.slice A nn c]) hr HKO.out HKV4.out g2 (by omega) (by omega))
   go_wp2_with fail
   refine CP.out.mono ?_
   rintro e w5 ⟨rfl,G1',G2',hX5,hc5,ho5⟩
   rw [HPUT.out] at hX5
   have hs45:=hc5.size
   have hs04:=HB4.out.size
   have HY5:Hid (AlN w.heap.size w5 Y (js ++ [i]).length (ofN l (js ++ [i]))):=zh ⟨cn'+1,N1,N2,G1',G2',by rw [List.length_append,List.length_singleton]; omega,hX5,fun b hb=>by
    rcases ho5 b hb with h | h
    ·exact g3 b h
    ·have:=HB4.out.size; omega⟩
   have hRlt:R1<w4.heap.size:=by omega
   have HRG5:=zh (ranges_same HRG4.out (hc5.block M1 (by omega) (fun ho=>by have:=g3 M1 ho; omega)) (hc5.block R1 hRlt (fun ho=>ranges_it HRG4.out (g2.al.mo R1 ho))))
   have HB5:=zh (HB4.out.trans (hc5.below HB4.out.size (fun b hb=>g3 b hb)))
   have hle5:=HRG5.out.left_eq
   clear hX5 hc5 ho5 CP g1 g2 g3 HY4 HB4 HKV4 HRG4
   go_wp2
   go_roundw
   case rel=>exact ⟨_,cnt1,js ++ [i],HRG5.out,by rw [List.length_append,List.length_singleton]; omega,HW1,HY5,HB5,by omega⟩
   case measure=>rw [hle5]; exact HLT.out
end Go.Proofs.YtlfpfkallgkjdaaGreat.Al
end

section
namespace Go.Proofs.YtlfpfkallgkjdaaGreat.Al
open Go.RowKit Go.Maps Ut Tk Qy Qp Ev Mv Rg
end Go.Proofs.YtlfpfkallgkjdaaGreat.Al
end

section
namespace Go.Proofs.YtlfpfkallgkjdaaGreat.Al
open Go.RowKit Go.Maps Ut Tk Qy Qp Ev Mv
def missB (fs:List Fl) (l:List (Int × Kp)) (i:Int):Bool:=match get l i with
 | some k=>!matchB fs k.q
 | none=>true
theorem flEvt {w:World} {F:Option Addr} {fn fc:Nat} {fs:List Fl} (h:FlAt w w.heap.size F fn fc fs) (hck:chkE fs=0):EvAt w F fn fs:=⟨h.rd,h.len,h.few,fun f hf=>by have:=((chkE_ok hck).2 f hf).2.2; omega⟩
theorem flgrow {w w':World} {F:Option Addr} {fn fc:Nat} {fs:List Fl} (h:FlAt w w.heap.size F fn fc fs) (hb:Below w.heap.size w w'):FlAt w' w'.heap.size F fn fc fs:=(h.keep (fun b o hl=>hb.cell (p:=⟨b,o,none⟩) hl)).more hb.size
section
variable {w:World} {X cn M1 M2:Nat} {F1:Int→Option Value} {F2:ByteArray→Option Nat} {l:List (Int × Kp)}
set_option maxHeartbeats 1600000 in
theorem ask1_any {B1 B2:Nat} (i:Int) (hi:I64 i) (k:Kp) (t:Int) (F:Option Addr) (fn fc:Nat) (fs:List Fl) (hk:get l i=some k) (h:AlX w X cn M1 M2 F1 F2 l) (hF:EvAt w F fn fs)
  (g1:w.cell? ⟨B1,0,none⟩=some (.pointer (some ⟨X,0,none⟩))) (g2:w.cell? ⟨B2,0,none⟩=some (.int .i64 t)) (g3:w.cell? ⟨B2,1,none⟩=some (.slice F fn fc)) (hB1:B1<w.heap.size) (hB2:B2<w.heap.size) :
  Calls Tryz.prog 45 #[.int .i64 i,.pointer (some ⟨B1,0,none⟩),.pointer (some ⟨B2,0,none⟩)] w fun e w'=>e=.returned (.bool (!matchB fs k.q))∧Below w.heap.size w w':=by
 obtain ⟨v,hv1,hv2⟩:=h.al.kv i k hk
 have hko:=h.al.ok _ (get_mem hk)
 obtain ⟨A1,n1,c1,A2,n2,c2,A,c,rfl,hq,_⟩:=hv2.parts
 have hqat:QAt w w.heap.size k.q [.int .i64 k.q.kind,.string k.q.name,.slice A1 n1 c1,.slice A2 n2 c2]:=hq.at_ (fun b hb=>hb.lt)
 have HMT:Hid (∀ wx,Below w.heap.size w wx→Calls Tryz.prog 46 #[.agg #[.int .i64 k.q.kind,.string k.q.name,.slice A1 n1 c1,.slice A2 n2 c2],.agg #[.int .i64 t,.slice F fn fc]] wx fun e w'=>e=.returned (.bool (matchB fs k.q))∧Below wx.heap.size wx w') :=
  zh (fun wx hb=>match_any fs k.q hko.q.sz wx _ _ _ _ t F fn fc (hqat.grow hb) (hF.grow hb))
 have HLK:=zh (looksI h.al.m1.v lawI Tryz.underlying83 Tryz.zeroValue92 i (keyI hi) (u:=.agg #[.string k.text,.int .i64 k.q.kind,.string k.q.name,.slice A1 n1 c1,.slice A2 n2 c2,.slice A k.needs.length c]) (by rw [hv1]; rfl))
 have hX:=h.blk
 have Hcells:Hid (∀ wx,Below w.heap.size w wx→wx.cell? ⟨X,0,none⟩=some (.map (some M1))∧wx.cell? ⟨B1,0,none⟩=some (.pointer (some ⟨X,0,none⟩))∧wx.cell? ⟨B2,0,none⟩=some (.int .i64 t)∧wx.cell? ⟨B2,1,none⟩=some (.slice F fn fc)):=zh (fun wx hb=>by
  have k1:=(hX.below hb hX.lt).cell 0
  simp only [zA,zB] at k1
  exact ⟨k1,(hb.cell (p:=⟨B1,0,none⟩) hB1).trans g1,(hb.cell (p:=⟨B2,0,none⟩) hB2).trans g2,(hb.cell (p:=⟨B2,1,none⟩) hB2).trans g3⟩)
 have hfq:=field_q
 clear hv1 hv2 hko hq hqat hX h hF hk
 generalize k.needs.length=nn at *
 generalize k.text=tx at *
 generalize k.q.kind=qk at *
 generalize k.q.name=qn at *
 generalize matchB fs k.q=mb at *
 go_enter Tryz.func45,Tryz.ntmps45
 go_upto_region 1 with (fail)
 refine wp_region_grow (specOf [(8,⟨Unit,fun _=>.bool mb,fun _ _=>True⟩)]) (fun wx=>Below (World.heap w).size w wx) (fun w1 w2=>Below w1.heap.size w1 w2) (by kernel_rfl) (by kernel_rfl) (stab_cons (fun x wa wb hg h=>trivial) (stab_nil)) (Below.refl _ _).drew ?_
 iterate 5
  refine grow_fix _ ?_ rfl (by rfl) (by rfl) (fun wx hC hD=>?_) ?_
  rotate_left
  ·have hSw:=Hcells.out wx hC
   go_simp
   all_goals with_reducible rfl
  try simp only [Act.put,zD,zE,zF]
 refine grow_fix 6 ?_ rfl (by rfl) (by rfl) (fun wx hC hD=>?_) ?_
 rotate_left
 ·have hlk:=HLK.out wx hC
  have hSw:=Hcells.out wx hC
  go_simp
  all_goals with_reducible rfl
 try simp only [Act.put,zD,zE,zF]
 refine grow_fix 7 ?_ rfl (by rfl) (by rfl) (fun wx hC hD=>?_) ?_
 rotate_left
 ·have hfq2:=field_q tx qn qk A1 A2 A n1 c1 n2 c2 nn c wx
  have hSw:=Hcells.out wx hC
  go_simp
  all_goals with_reducible rfl
 try simp only [Act.put,zD,zE,zF]
 refine grow_fix 8 ?_ rfl (by rfl) (by rfl) (fun wx hC hD=>?_) ?_
 rotate_left
 ·have hSw:=Hcells.out wx hC
  go_simp
  all_goals with_reducible rfl
 try simp only [Act.put,zD,zE,zF]
 refine grow_give 9 _ rfl (by rfl) (by rfl) (fun wx hC hD=>?_) (fun x=>?_)
 ·refine give_enter (f:=?_) (args:=?_) ?_ ?_
  rotate_left 2
  ·have hSw:=Hcells.out wx hC
   go_simp
   all_goals first | with_reducible rfl | (refine ⟨?_,?_⟩ <;> with_reducible rfl)
  refine (HMT.out wx hC).mono ?_
  rintro e w9 ⟨rfl,hb9⟩
  exact ⟨_,rfl,hb9,hC.trans (hb9.mono hC.size),(),rfl,trivial⟩
 obtain ⟨⟩:=x
 try simp only [Act.put,zD,zE,zF]
 iterate 2
  refine grow_fix _ ?_ rfl (by rfl) (by rfl) (fun wx hC hD=>?_) ?_
  rotate_left
  ·have hSw:=Hcells.out wx hC
   go_simp
   all_goals with_reducible rfl
  try simp only [Act.put,zD,zE,zF]
 refine grow_nil (fun w5 hC hF=>?_)
 have FIN:=zh hC
 clear hF hC
 go_wp2
 go_ret
 exact ⟨rfl,FIN.out⟩
set_option maxHeartbeats 1600000 in
theorem ask_any (t:Int) (F:Option Addr) (fn fc:Nat) (fs:List Fl) (hF:FlAt w w.heap.size F fn fc fs) (h:AlX w X cn M1 M2 F1 F2 l) (hll:l.length≤1000) :
  Calls Tryz.prog 17 #[.pointer (some ⟨X,0,none⟩),.agg #[.int .i64 t,.slice F fn fc]] w (NumsP w (if chkE fs=0 then (l.filter (fun x=>matchB fs x.2.q)).map (·.1) else [])):=by
 have hb1:Below w.heap.size w (w.alloc (.cells #[.pointer (some ⟨X,0,none⟩)] 22)):=(Below.refl _ _).alloc (zG _) _
 have hb2:Below (w.alloc (.cells #[.pointer (some ⟨X,0,none⟩)] 22)).heap.size (w.alloc (.cells #[.pointer (some ⟨X,0,none⟩)] 22)) ((w.alloc (.cells #[.pointer (some ⟨X,0,none⟩)] 22)).alloc (.cells #[.int .i64 t,.slice F fn fc] 33)):=(Below.refl _ _).alloc (zG _) _
 have hx1:=(Blk.new w 22 #[.pointer (some ⟨X,0,none⟩)]).below hb2 (by simp)
 have hx2:=Blk.new (w.alloc (.cells #[.pointer (some ⟨X,0,none⟩)] 22)) 33 #[.int .i64 t,.slice F fn fc]
 have hsz:(w.alloc (.cells #[.pointer (some ⟨X,0,none⟩)] 22)).heap.size=w.heap.size+1:=by simp
 rw [hsz] at hx2
 have hb:=hb1.trans (hb2.mono (by omega))
 have HX1:=zh hx1
 have HX2:=zh hx2
 have HB:=zh hb
 have H:=zh h
 have HF:=zh hF
 clear hb1 hb2 hx1 hx2 hb h hF hsz
 obtain ⟨RR,hRR⟩:∃ RR,(if chkE fs=0 then (l.filter (fun x=>matchB fs x.2.q)).map (·.1) else [])=RR:=⟨_,rfl⟩
 rw [hRR]
 have HRR:=zh hRR
 clear hRR
 go_enter Tryz.func17,Tryz.ntmps17
 go_upto_region 1 with (fail)
 generalize ((w.alloc (.cells #[.pointer (some ⟨X,0,none⟩)] 22)).alloc (.cells #[.int .i64 t,.slice F fn fc] 33))=w1 at *
 have g1:=HX1.out.cell 0
 have g2:=HX2.out.cell 0
 have g3:=HX2.out.cell 1
 simp only [zA,zB,zC] at g1 g2 g3
 have c1:=near_any t F fn fc fs (flgrow HF.out HB.out) (H.out.below HB.out) hll
 go_wp2_with fail
 refine c1.mono ?_
 rintro e w2 ⟨v,rfl,hown,hbw⟩
 have hXl:=HX1.out.lt
 have hXl2:=HX2.out.lt
 have hsz:=HB.out.size
 clear c1 g1 g2 g3
 obtain ⟨L,hL⟩:∃ L,(if chkE fs=0 then nearL (hasT fs) l else [])=L:=⟨_,rfl⟩
 rw [hL] at hown
 have hll2:L.length≤4294967296:=by
  rw [← hL]
  split
  ·unfold nearL
   rw [List.length_map]
   exact Nat.le_trans (List.length_filter_le _ _) (by omega)
  ·simp
 have hkeep:keepL (missB fs l) L=RR:=by
  rw [← HRR.out,← hL]
  by_cases hck:chkE fs=0
  ·rw [if_pos hck,if_pos hck]
   have hu:=H.out.al.up
   unfold nearL keepL
   rw [← ask_near (hasT fs) (fun k=>matchB fs k.q) l (fun x hx hm=>by
    unfold nearB
    rw [(H.out.al.ok x hx).nd]
    exact near_match fs x.2.q hm)]
   rw [List.filter_map]
   congr 1
   refine List.filter_congr (fun x hx=>?_)
   have:=mem_get hu (List.mem_filter.1 hx).1
   show (!missB fs l x.1)=_
   unfold missB
   rw [this]
   simp
  ·rw [if_neg hck,if_neg hck]; rfl
 have CD:=del_any (w:=w2) hown hll2 45 #[.pointer (some ⟨w.heap.size,0,none⟩),.pointer (some ⟨w.heap.size+1,0,none⟩)] (missB fs l) (callFunc_enter Tryz.func45 (by kernel_rfl) rfl) (fun x hx wx hg=>by
  have hck:chkE fs=0:=by
   refine Classical.byContradiction fun hc=>?_
   rw [← hL,if_neg hc] at hx
   cases hx
  rw [← hL,if_pos hck,nearL_mem H.out.al.up] at hx
  obtain ⟨k,hk,_⟩:=hx
  have hbx:Below w1.heap.size w1 wx:=hbw.grown hg hbw.size (fun b hb=>(hown.lt b hb).1)
  have r1:=HX1.out.below hbx hXl
  have r2:=HX2.out.below hbx hXl2
  have g1:=r1.cell 0
  have g2:=r2.cell 0
  have g3:=r2.cell 1
  simp only [zA,zB,zC] at g1 g2 g3
  have hr:=H.out.al.rng _ (get_mem hk)
  have e1:missB fs l x=!matchB fs k.q:=by unfold missB; rw [hk]
  rw [e1]
  exact ask1_any x (I64.of hr) k t F fn fc fs hk (H.out.below (HB.out.trans (hbx.mono hsz))) (flEvt (flgrow HF.out (HB.out.trans (hbx.mono hsz))) hck) g1 g2 g3 r1.lt r2.lt)
 rw [hkeep] at CD
 have HCD:=zh CD
 have HBW:=zh hbw
 have HON:Hid (∀ b,v.ownBlock=some b→w1.heap.size≤b):=zh (fun b hb=>(hown.lt b hb).1)
 clear CD hbw hown hkeep hL hll2
 go_wp2_with fail
 refine HCD.out.mono ?_
 rintro e w3 ⟨v3,rfl,ho3,hg3,hob3⟩
 have FIN:Hid (NumsP w RR (.returned v3) w3):=zh ⟨v3,rfl,own_mono ho3 hsz,(HB.out.trans (HBW.out.mono hsz)).grown hg3 (by have:=HBW.out.size; omega) (fun b hb=>by have:=HON.out b hb; omega)⟩
 clear ho3 hg3 hob3
 go_wp2
 go_ret
 exact FIN.out
end
end Go.Proofs.YtlfpfkallgkjdaaGreat.Al
end

section
namespace Go.Proofs.YtlfpfkallgkjdaaGreat.Ev
open Go.RowKit Ut Tk Qy Qp Rg
structure RT (w wr:World) (v:Value) (L:List T1):Prop where
 ex:∃ A n c O,v=.slice A n c∧O.map prj=addAll L∧TmO wr wr.heap.size A n c O
 bel:Below w.heap.size w wr
theorem RT.below {w wr w2:World} {v:Value} {L:List T1} (h:RT w wr v L) (hb:Below wr.heap.size wr w2):RT w w2 v L:=by
 obtain ⟨A,n,c,O,e,h1,h2⟩:=h.ex
 exact ⟨⟨A,n,c,O,e,h1,h2.grow hb hb.size⟩,h.bel.trans (hb.mono h.bel.size)⟩
theorem RT.start {w wr:World} (hb:Below w.heap.size w wr):RT w wr (.slice none 0 0) []:=⟨⟨none,0,0,[],rfl,rfl,⟨⟨rfl,fun h=>absurd h (by omega)⟩,rfl,zG _,fun _=>rfl,fun x hx=>(nomatch hx)⟩⟩,hb⟩
end Go.Proofs.YtlfpfkallgkjdaaGreat.Ev
end

section
namespace Go.Proofs.YtlfpfkallgkjdaaGreat.Al
open Go.RowKit Go.Maps Ut Tk Qy Qp Ev Mv
theorem filt_one {α β:Type} (p : α→Bool) (f : α→β) (x : α):([x].filter p).map f=if p x=true then [f x] else []:=by
 by_cases h:p x=true
 ·rw [if_pos h,List.filter_cons_of_pos h]; rfl
 ·rw [if_neg h,List.filter_cons_of_neg h]; rfl
end Go.Proofs.YtlfpfkallgkjdaaGreat.Al
end

section
namespace Go.Proofs.YtlfpfkallgkjdaaGreat.Qp
open Go.RowKit Ut Tk Qy
def exT1:P:=[97,32,79,82,32,98,32,99]
def exT2:P:=[97,32,79,82]
def tq (c:UInt8):Q:=.mk 2 (str msg) [str [c]] []
def exQ1:Q:=.mk 6 ByteArray.empty [] [tq 97,.mk 5 ByteArray.empty [] [tq 98,tq 99]]
theorem p1:pieces exT1=some [[97],OR,[98],[99]]:=by decide
theorem p2:pieces exT2=some [[97],OR]:=by decide
theorem w97:words [97]=[[97]]:=by decide +kernel
theorem w98:words [98]=[[98]]:=by decide +kernel
theorem w99:words [99]=[[99]]:=by decide +kernel
theorem leaf_one (c:UInt8) (h1:c≠42) (h2:c≠34) (h3:c≠58) (hw:words [c]=[[c]]):leafQ [c]=some (tq c):=by
 have hn:named [c]=false:=by
  have e:sepAt [c]=1:=by
   have a1:(c == 58)=false:=beq_eq_false_iff_ne.2 h3
   have a2:(c == 34)=false:=beq_eq_false_iff_ne.2 h2
   unfold sepAt
   simp [List.findIdx_cons,a1,a2]
  unfold named
  rw [e]; rfl
 have e1:nameOf [c]=msg:=by unfold nameOf; rw [hn]; rfl
 have e2:restOf [c]=[c]:=by unfold restOf; rw [hn]; rfl
 unfold leafQ
 rw [e1,e2,if_neg (by simpa using h1),if_neg (by
  rintro (h | h)
  ·exact absurd h (by decide)
  ·cases h),if_neg (by simpa using h2),if_neg (by simpa using h1),hw]
 rfl
theorem lf97:leafQ [97]=some (tq 97):=leaf_one 97 (by decide) (by decide) (by decide) w97
theorem lf98:leafQ [98]=some (tq 98):=leaf_one 98 (by decide) (by decide) (by decide) w98
theorem lf99:leafQ [99]=some (tq 99):=leaf_one 99 (by decide) (by decide) (by decide) w99
theorem part_a (c:UInt8) (q:Q) (t:List P) (hw:word1 [c]=true) (h:leafQ [c]=some q):R .part ([c] :: t) (some (q,t)):=by
 have:=R.pleaf (t:=t) hw
 rw [h] at this
 exact this
theorem r1:R (.or []) [[97],OR,[98],[99]] (some (exQ1,[])):=by
 refine .or1 (q:=tq 97) (r:=[OR,[98],[99]]) (.and1 (part_a 97 _ _ (by decide) lf97) (.andE (by decide))) ?_
 refine .orO rfl ?_
 refine .or1 (q:=.mk 5 ByteArray.empty [] [tq 98,tq 99]) (r:=[]) (.and1 (part_a 98 _ _ (by decide) lf98) (.andN (by decide) (by decide) (.and1 (part_a 99 _ _ (by decide) lf99) (.andE rfl)))) ?_
 exact .orE (by simp)
theorem r2:R (.or []) [[97],OR] none:=by
 refine .or1 (q:=tq 97) (r:=[OR]) (.and1 (part_a 97 _ _ (by decide) lf97) (.andE (by decide))) ?_
 exact .orO rfl (.or0 (.and0 .pnil))
end Go.Proofs.YtlfpfkallgkjdaaGreat.Qp
end

section
namespace Go.Proofs.YtlfpfkallgkjdaaGreat.Al
open Go.RowKit Ut Tk Qy Qp
def tDisk:P:=[100,105,115,107]
def tFull:P:=[102,117,108,108]
def tA:P:=[100,105,115,107,32,102,117,108,108]
def tB:P:=[78,79,84,32,100,105,115,107]
def sA:ByteArray:=⟨#[100,105,115,107,32,102,117,108,108]⟩
def sB:ByteArray:=⟨#[78,79,84,32,100,105,115,107]⟩
def oneW (s:P):Q:=.mk 2 (str msg) [str s] []
def qA:Q:=.mk 5 ByteArray.empty [] [oneW tDisk,oneW tFull]
def qB:Q:=notQ (oneW tDisk)
theorem leaf_w (s:P) (h1:s≠[42]) (h2:s≠[]) (hn:named s=false) (h3:s.head?≠some 34) (h4:s.getLast?≠some 42) (hw:words s=[s]):leafQ s=some (oneW s):=by
 have e1:nameOf s=msg:=by unfold nameOf; rw [hn]; rfl
 have e2:restOf s=s:=by unfold restOf; rw [hn]; rfl
 unfold leafQ
 rw [e1,e2,if_neg h1,if_neg (by
  rintro (h | h)
  ·exact absurd h (by decide)
  ·exact h2 h),if_neg h3,if_neg h4,hw]
 rfl
theorem lfDisk:leafQ tDisk=some (oneW tDisk):=leaf_w _ (by decide) (by decide) (by decide) (by decide) (by decide) (by decide +kernel)
theorem lfFull:leafQ tFull=some (oneW tFull):=leaf_w _ (by decide) (by decide) (by decide) (by decide) (by decide) (by decide +kernel)
theorem part_w (s:P) (q:Q) (t:List P) (hw:word1 s=true) (h:leafQ s=some q):R .part (s :: t) (some (q,t)):=by
 have:=R.pleaf (t:=t) hw
 rw [h] at this
 exact this
theorem rA:R (.or []) [tDisk,tFull] (some (qA,[])):=by
 refine .or1 (q:=qA) (r:=[]) (.and1 (part_w tDisk _ _ (by decide) lfDisk) (.andN (by decide) (by decide) (.and1 (part_w tFull _ _ (by decide) lfFull) (.andE rfl)))) ?_
 exact .orE (by simp)
theorem rB:R (.or []) [NOT,tDisk] (some (qB,[])):=by
 have hp:R .part [NOT,tDisk] (some (qB,[])):=R.pnot (o:=some (oneW tDisk,[])) rfl (part_w tDisk _ _ (by decide) lfDisk)
 refine .or1 (q:=qB) (r:=[]) (.and1 hp (.andE rfl)) ?_
 exact .orE (by simp)
theorem pA:pieces tA=some [tDisk,tFull]:=by decide
theorem pB:pieces tB=some [NOT,tDisk]:=by decide
theorem prsA:PrsR sA.data.toList 0 (some qA):=.ok (by decide) pA rA (by simp [qA,oneW,manyB_eq,manyL]) (by simp [qA,oneW,depthN_eq,depthL])
theorem prsB:PrsR sB.data.toList 0 (some qB):=.ok (by decide) pB rB (by simp [qB,notQ,oneW,manyB_eq,manyL]) (by simp [qB,notQ,oneW,depthN_eq,depthL])
def exM:ByteArray:=⟨#[109,115,103]⟩
def sE1:ByteArray:=⟨#[100,105,115,107,32,105,115,32,102,117,108,108]⟩
def sE2:ByteArray:=⟨#[108,111,103,105,110]⟩
theorem lb (s:P) (fs:List (ByteArray × ByteArray)):matchB fs (oneW s)=leafB 2 (str msg) [str s] fs:=by
 unfold oneW
 rw [matchB_eq]
 simp
theorem mA1:matchB [(exM,sE1)] qA=true:=by
 unfold qA
 rw [matchB_eq]
 have h1:leafB 2 (str msg) [str tDisk] [(exM,sE1)]=true:=by decide +kernel
 have h2:leafB 2 (str msg) [str tFull] [(exM,sE1)]=true:=by decide +kernel
 simp [lb,h1,h2]
theorem mA2:matchB [(exM,sE2)] qA=false:=by
 unfold qA
 rw [matchB_eq]
 have h1:leafB 2 (str msg) [str tDisk] [(exM,sE2)]=false:=by decide +kernel
 simp [lb,h1]
theorem mB1:matchB [(exM,sE1)] qB=false:=by
 unfold qB notQ
 rw [matchB_eq]
 have h1:leafB 2 (str msg) [str tDisk] [(exM,sE1)]=true:=by decide +kernel
 simp [lb,h1,matchNone]
theorem mB2:matchB [(exM,sE2)] qB=true:=by
 unfold qB notQ
 rw [matchB_eq]
 have h1:leafB 2 (str msg) [str tDisk] [(exM,sE2)]=false:=by decide +kernel
 simp [lb,h1,matchNone]
def kA:Kp:=⟨sA,qA,needs qA⟩
def kB:Kp:=⟨sB,qB,needs qB⟩
theorem l1:put [] 3 kA=[(3,kA)]:=by simp [put,pos,get]
theorem l2:put [(3,kA)] 5 kB=[(3,kA),(5,kB)]:=by simp [put,pos,get]
theorem a1:(([(3,kA),(5,kB)]:List (Int × Kp)).filter (fun x=>matchB [(exM,sE1)] x.2.q)).map (·.1)=[3]:=by simp [kA,kB,mA1,mB1]
theorem a2:(([(3,kA),(5,kB)]:List (Int × Kp)).filter (fun x=>matchB [(exM,sE2)] x.2.q)).map (·.1)=[5]:=by simp [kA,kB,mA2,mB2]
end Go.Proofs.YtlfpfkallgkjdaaGreat.Al
end
