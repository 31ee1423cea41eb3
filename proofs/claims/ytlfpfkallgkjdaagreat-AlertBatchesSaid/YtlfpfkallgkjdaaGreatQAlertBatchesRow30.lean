/- alert.put: the walk (printed by gen_alc.py). -/
import Derived.Test.YtlfpfkallgkjdaaGreatQAlertBatchesRow29
import Derived.Test.YtlfpfkallgkjdaaGreatQAlertBatchesRow0
set_option linter.unusedSimpArgs false
set_option linter.unusedVariables false
set_option maxRecDepth 20000
section
namespace Go.Proofs.YtlfpfkallgkjdaaGreat.Al
open Go.RowKit Go.Maps Ut Tk Qy Qp Ev Mv
theorem put_dropped {l:List (Int × Kp)} (hu:UpI l) (i:Int) (k:Kp):put (drop l i) i k=put l i k:=get_one (put_up (drop_up hu i) i k) (put_up hu i k) (fun j=>put_drop hu i k j)
theorem get_dropped {l:List (Int × Kp)} (hu:UpI l) (i:Int):get (drop l i) i=none:=by rw [get_drop hu]; simp
theorem drop_le {l:List (Int × Kp)} (hu:UpI l) (i:Int):(drop l i).length≤l.length:=by
 rw [drop_len hu]
 split <;> omega
def PutP (w:World) (X cn M1 M2:Nat) (F2:ByteArray→Option Nat) (l:List (Int × Kp)) (i:Int) (k:Kp) (e:Ending) (w':World):Prop :=
 e=.returned (.tuple #[])∧∃ F1' F2',AlX w' X (cn+1) M1 M2 F1' F2' (put l i k)∧Chg (Own M1 M2 F2) w w'∧∀ b,Own M1 M2 F2' b→Own M1 M2 F2 b∨w.heap.size≤b
structure Mid (w0 w:World) (X cn M1 M2:Nat) (F1:Int→Option Value) (F2:ByteArray→Option Nat) (l:List (Int × Kp)) (i:Int) (k:Kp) (v:Value) (m:Nat):Prop where
 chg:Chg (Own M1 M2 F2) w0 w
 m1:MapZ Tryz.prog 3 litI w M1 (l.length+1) (putV F1 i v)
 m2:MapV Tryz.prog 9 litS w M2 (cn+1) (F2v (putF F2 (first k) m))
 s:SetM w m cn (Und l (first k))
 oth:∀ s m',s≠first k→F2 s=some m'→w.heap[m']?=w0.heap[m']?
 hm:F2 (first k)=some m∨w0.heap.size≤m
 ne:m≠M1∧m≠M2
section
variable {w0 w w':World} {X cn M1 M2:Nat} {F1:Int→Option Value} {F2:ByteArray→Option Nat} {l:List (Int × Kp)} {i:Int} {k:Kp} {v:Value} {m:Nat}
theorem Mid.below (h:Mid w0 w X cn M1 M2 F1 F2 l i k v m) (hA:AlM w0 cn M1 M2 F1 F2 l) (hb:Below w.heap.size w w'):Mid w0 w' X cn M1 M2 F1 F2 l i k v m :=
 ⟨h.chg.then_new hb,h.m1.below hb,h.m2.below hb,h.s.same (hb.block m (h.s.mo).lt),fun s m' hs hs'=>(hb.block m' (by have:=((hA.sub s m' hs').mo).lt; have:=h.chg.size; omega)).trans (h.oth s m' hs hs'),h.hm,h.ne⟩
theorem Mid.fin (h:Mid w0 w X cn M1 M2 F1 F2 l i k v m) (hA:AlX w0 X cn M1 M2 F1 F2 l) (hi : 0≤i∧i≤999999) (hko:KOk k) (hk:get l i=none) (hv:KpV w0 k v) {f:Int→Option Value} (hf:∀ j,(f j).isSome=true↔Und l (first k) j) {u:Value}
  (hm':MapV Tryz.prog 3 litI w' m (cn+1) (putV f i u)) (hg:w.grownBy w' (some m)):∃ F1' F2',AlX w' X (cn+1) M1 M2 F1' F2' (put l i k)∧Chg (Own M1 M2 F2) w0 w'∧∀ b,Own M1 M2 F2' b→Own M1 M2 F2 b∨w0.heap.size≤b:=by
 have hc:Chg (Own M1 M2 F2) w0 w':=h.chg.trans (O':=fun b=>b=m) (Chg.of_grown hg (fun b hb=>by injection hb with hb; exact hb.symm)) (fun x hx=>by
  rcases h.hm with h1 | h1
  ·exact .inl (.inr (.inr ⟨first k,by rw [h1,hx]⟩))
  ·exact .inr (by rw [hx]; exact h1))
 refine ⟨putV F1 i v,putF F2 (first k) m,⟨blk_chg hA.blk hc hA.al.noSc,?_⟩,hc,fun b hb=>?_⟩
 ·refine hA.al.ins hi hko hk hv hc (h.m1.kept hg (fun e=>by injection e with e; exact h.ne.1 e.symm)) (h.m2.kept hg (fun e=>by injection e with e; exact h.ne.2 e.symm)) ⟨_,hm',fun j=>?_⟩ (fun s m' hs hs'=>?_) h.hm
  ·show (putV f i u j).isSome=true↔j=i∨Und l (first k) j
   rw [← hf j]
   unfold putV
   by_cases e:j=i
   ·simp [e]
   ·simp [e]
  ·refine (hg.block m' (by have:=((hA.al.sub s m' hs').mo).lt; have:=h.chg.size; omega) (fun e=>?_)).trans (h.oth s m' hs hs')
   injection e with e
   subst e
   rcases h.hm with h1 | h1
   ·exact hs (hA.al.apart s _ _ hs' h1)
   ·have:=((hA.al.sub s _ hs').mo).lt
    omega
 ·rcases hb with rfl | rfl | ⟨s,hs⟩
  ·exact .inl (.inl rfl)
  ·exact .inl (.inr (.inl rfl))
  ·unfold putF at hs
   split at hs
   ·injection hs with hs
    subst hs
    rcases h.hm with h1 | h1
    ·exact .inl (.inr (.inr ⟨_,h1⟩))
    ·exact .inr h1
   ·exact .inl (.inr (.inr ⟨s,hs⟩))
end
set_option maxHeartbeats 6400000 in
theorem put_any {w:World} {X cn M1 M2:Nat} {F1:Int→Option Value} {F2:ByteArray→Option Nat} {l:List (Int × Kp)} (i:Int) (k:Kp) (v:Value) (hi : 0≤i∧i≤999999) (hko:KOk k) (hkv:KpV w k v) (h:AlX w X cn M1 M2 F1 F2 l) (hll:l.length≤4294967296) (hcn:cn≤4294967296) :
  Calls Tryz.prog 35 #[.pointer (some ⟨X,0,none⟩),.int .i64 i,v] w (PutP w X cn M1 M2 F2 l i k):=by
 have hI64:=I64.of hi
 have HI:=zh hi
 have HKI:=zh (keyI hI64)
 have HKO:=zh hko
 have hks:keyOf Tryz.prog 9 (litS.val (first k))=some (litS.lit (first k)):=keyS (by have:(first k).size≤65:=hko.first; unfold maxLen; omega)
 have HKS:=zh hks
 obtain ⟨A1,n1,c1,A2,n2,c2,A,c,rfl,_,_⟩:=hkv.parts
 have hmk:=mk3
 generalize hfk:first k=fk at *
 have HFK:=zh hfk
 have HKV:=zh hkv
 clear hko hkv hks hfk hi
 generalize hnn:k.needs.length=nn at *
 generalize htx:k.text=tx at *
 generalize hqk:k.q.kind=qk at *
 generalize hqn:k.q.name=qn at *
 clear hnn htx hqk hqn
 have hb:=(Below.refl w.heap.size w).alloc (zG _) (.cells #[.string tx,.int .i64 qk,.string qn,.slice A1 n1 c1,.slice A2 n2 c2,.slice A nn c] 92)
 have HBX:=zh (Blk.new w 92 #[.string tx,.int .i64 qk,.string qn,.slice A1 n1 c1,.slice A2 n2 c2,.slice A nn c])
 have H1:=zh (h.below hb)
 have HB:=zh hb
 have H:=zh h
 have hz:w.heap.size<(w.alloc (.cells #[.string tx,.int .i64 qk,.string qn,.slice A1 n1 c1,.slice A2 n2 c2,.slice A nn c] 92)).heap.size:=by simp
 clear hb h
 go_enter Tryz.func35,Tryz.ntmps35
 go_upto_region 1 with (fail)
 generalize w.alloc (.cells #[.string tx,.int .i64 qk,.string qn,.slice A1 n1 c1,.slice A2 n2 c2,.slice A nn c] 92)=w1 at *
 go_wp2_with fail
 refine (drop_any i hI64 H1.out).mono ?_
 rintro e w2 ⟨rfl,F1',hX2,hc2⟩
 have hu:=H.out.al.up
 have hl2:=drop_le hu i
 have hgn:=get_dropped hu i
 have hpd:=put_dropped hu i k
 have C02:Chg (Own M1 M2 F2) w w2:=(Chg.of_new HB.out).trans (O':=Own M1 M2 F2) hc2 (fun x hx=>.inl hx)
 have HKV2:=zh (HKV.out.chg C02 H.out.al.noSc)
 have HB2:=zh (blk_chg HBX.out hc2 H1.out.al.noSc)
 have HX2:=zh hX2
 have HC02:=zh C02
 have HGN:=zh hgn
 have HPD:=zh hpd
 have hgs:w.heap.size<w2.heap.size:=by have:=hc2.size; omega
 clear hX2 hc2 C02 hgn hpd hu H1 HKV HBX
 generalize hdl:drop l i=l2 at *
 clear hdl
 have Hc2:Hid (∀ wx,Below w2.heap.size w2 wx→wx.cell? ⟨X,0,none⟩=some (.map (some M1))∧wx.cell? ⟨w.heap.size,0,none⟩=some (.string tx)∧wx.cell? ⟨w.heap.size,1,none⟩=some (.int .i64 qk)∧wx.cell? ⟨w.heap.size,2,none⟩=some (.string qn)∧wx.cell? ⟨w.heap.size,3,none⟩=some (.slice A1 n1 c1)∧wx.cell? ⟨w.heap.size,4,none⟩=some (.slice A2 n2 c2)∧wx.cell? ⟨w.heap.size,5,none⟩=some (.slice A nn c)):=zh (fun wx hb=>by
  have k1:=(HX2.out.blk.below hb HX2.out.blk.lt).cell 0
  have r:=HB2.out.below hb HB2.out.lt
  have r0:=r.cell 0
  have r1:=r.cell 1
  have r2:=r.cell 2
  have r3:=r.cell 3
  have r4:=r.cell 4
  have r5:=r.cell 5
  simp only [zA,zB,zC] at k1 r0 r1 r2 r3 r4 r5
  exact ⟨k1,r0,r1,r2,r3,r4,r5⟩)
 go_upto_region 2 with (fail)
 refine wp_region_grow_tail 6 (specOf []) (fun wx=>Below w2.heap.size w2 wx) (fun w1 w2=>Below w1.heap.size w1 w2) (by kernel_rfl) (by kernel_rfl) (stab_nil) ((Below.refl _ _).drew) ?_
 simp only [List.take_succ_cons,List.take_zero,List.drop_succ_cons,List.drop_zero]
 iterate 6
  refine grow_fix _ ?_ rfl (by rfl) (by rfl) (fun wx hC hD=>?_) ?_
  rotate_left
  ·have hSw:=Hc2.out wx hC
   go_simp
   all_goals with_reducible rfl
  try simp only [Act.put,zD,zE,zF]
 refine grow_nil (fun w3 hC hF=>?_)
 try simp only [List.drop_succ_cons,List.drop_zero]
 have hm1a:=HX2.out.al.m1.below hC
 refine wpList_set_z rfl (.tmp 12) (.tmp 13) (.tmp 14) 83 92 rfl lawI Tryz.underlying83 M1 l2.length F1' rfl hm1a (by unfold maxLen; omega) i (.agg #[.string tx,.int .i64 qk,.string qn,.slice A1 n1 c1,.slice A2 n2 c2,.slice A nn c]) rfl rfl HKI.out (fun w4 hm4 hg4=>?_)
 have hFn:F1' i=none:=HX2.out.al.kn i HGN.out
 rw [hFn] at hm4
 simp only [Option.isSome_none,Bool.false_eq_true,if_false] at hm4
 have hC4:Chg (Own M1 M2 F2) w2 w4:=(Chg.of_new hC).trans (O':=Own M1 M2 F2) (Chg.of_grown hg4 (fun b hb=>by injection hb with hb; exact .inl hb.symm)) (fun x hx=>.inl hx)
 have k4:∀ b,b<w2.heap.size→b≠M1→w4.heap[b]?=w2.heap[b]?:=fun b hb hne=>(hg4.block b (by have:=hC.size; omega) (fun e=>by injection e with e; exact hne e)).trans (hC.block b hb)
 have hX4:=blk_chg HX2.out.blk hC4 HX2.out.al.noSc
 have hB4:=blk_chg HB2.out hC4 HX2.out.al.noSc
 have hKV4:=HKV2.out.chg hC4 HX2.out.al.noSc
 have hm24:=HX2.out.al.m2.same (k4 M2 (mo_v HX2.out.al.m2).lt (fun e=>HX2.out.al.n12 e.symm))
 have HM4:=zh hm4
 have HC4:=zh hC4
 have K4:=zh k4
 have HM24:=zh hm24
 have hs4:=hC4.size
 have Hc4:Hid (∀ wx,Below w4.heap.size w4 wx→wx.cell? ⟨X,1,none⟩=some (.map (some M2))∧wx.cell? ⟨w.heap.size,0,none⟩=some (.string tx)∧wx.cell? ⟨w.heap.size,1,none⟩=some (.int .i64 qk)∧wx.cell? ⟨w.heap.size,2,none⟩=some (.string qn)∧wx.cell? ⟨w.heap.size,3,none⟩=some (.slice A1 n1 c1)∧wx.cell? ⟨w.heap.size,4,none⟩=some (.slice A2 n2 c2)∧wx.cell? ⟨w.heap.size,5,none⟩=some (.slice A nn c)):=zh (fun wx hb=>by
  have k1:=(hX4.below hb hX4.lt).cell 1
  have r:=hB4.below hb hB4.lt
  have r0:=r.cell 0
  have r1:=r.cell 1
  have r2:=r.cell 2
  have r3:=r.cell 3
  have r4:=r.cell 4
  have r5:=r.cell 5
  simp only [zA,zB,zC] at k1 r0 r1 r2 r3 r4 r5
  exact ⟨k1,r0,r1,r2,r3,r4,r5⟩)
 have CF:Hid (∀ wx,Below w4.heap.size w4 wx→Calls Tryz.prog 66 #[.agg #[.string tx,.int .i64 qk,.string qn,.slice A1 n1 c1,.slice A2 n2 c2,.slice A nn c]] wx fun e w'=>e=.returned (.string fk)∧Below wx.heap.size wx w'):=zh (fun wx hb=>by
  have:=first_any (hKV4.chg (O:=fun _=>False) (Chg.of_new hb) (fun _ h=>h.elim))
  rwa [HFK.out] at this)
 clear hF hC hm1a hm4 hC4 k4 hX4 hB4 hKV4 hm24 hg4 hFn
 try simp only [Act.put,zD,zE,zF]
 have he3s:=eq3_some
 have he3n:=eq3_none
 by_cases hF2:∃ m,F2 fk=some m
 ·obtain ⟨m,hF2⟩:=hF2
  have HLK:=zh (looksS HM24.out lawS Tryz.underlying84 Tryz.zeroValue106 fk HKS.out (u:=.map (some m)) (by unfold F2v; rw [hF2]; rfl))
  have HF2:=zh hF2
  clear hF2
  go_upto_region 3 with (fail)
  refine wp_region_grow (specOf [(5,⟨Unit,fun _=>.string fk,fun _ _=>True⟩)]) (fun wx=>Below (World.heap w4).size w4 wx) (fun w1 w2=>Below w1.heap.size w1 w2) (by kernel_rfl) (by kernel_rfl) (stab_cons (fun x wa wb hg h=>trivial) (stab_nil)) (Below.refl _ _).drew ?_
  iterate 5
   refine grow_fix _ ?_ rfl (by rfl) (by rfl) (fun wx hC hD=>?_) ?_
   rotate_left
   ·have hSw:=Hc4.out wx hC
    go_simp
    all_goals with_reducible rfl
   try simp only [Act.put,zD,zE,zF]
  refine grow_give 6 _ rfl (by rfl) (by rfl) (fun wx hC hD=>?_) (fun x=>?_)
  ·refine give_enter (f:=?_) (args:=?_) ?_ ?_
   rotate_left 2
   ·have hSw:=Hc4.out wx hC
    go_simp
    all_goals first | with_reducible rfl | (refine ⟨?_,?_⟩ <;> with_reducible rfl)
   refine (CF.out wx hC).mono ?_
   rintro e w9 ⟨rfl,hb9⟩
   exact ⟨_,rfl,hb9,hC.trans (hb9.mono hC.size),(),rfl,trivial⟩
  obtain ⟨⟩:=x
  try simp only [Act.put,zD,zE,zF]
  refine grow_fix 7 ?_ rfl (by rfl) (by rfl) (fun wx hC hD=>?_) ?_
  rotate_left
  ·have hlk:=HLK.out wx hC
   have hSw:=Hc4.out wx hC
   go_simp
   all_goals with_reducible rfl
  try simp only [Act.put,zD,zE,zF]
  refine grow_fix 8 ?_ rfl (by rfl) (by rfl) (fun wx hC hD=>?_) ?_
  rotate_left
  ·have hSw:=Hc4.out wx hC
   go_simp
   all_goals with_reducible rfl
  try simp only [Act.put,zD,zE,zF]
  refine grow_nil (fun w5 hC hF=>?_)
  have hm5:Mid w2 w5 X cn M1 M2 F1' F2 l2 i k (.agg #[.string tx,.int .i64 qk,.string qn,.slice A1 n1 c1,.slice A2 n2 c2,.slice A nn c]) m:=by
   have hmn:=HX2.out.al.n1 fk m HF2.out
   refine ⟨HC4.out.then_new hC,HM4.out.below hC,?_,?_,fun s m' hs hs'=>?_,by rw [HFK.out]; exact .inl HF2.out,hmn⟩
   ·refine ((HM24.out.below hC).more (Nat.le_succ _)).congr (fun s=>?_)
    unfold F2v putF
    rw [HFK.out]
    by_cases e:s=fk
    ·rw [if_pos e,e,HF2.out]
    ·rw [if_neg e]
   ·rw [HFK.out]
    exact ((HX2.out.al.sub fk m HF2.out).same (K4.out m ((HX2.out.al.sub fk m HF2.out).mo).lt hmn.1)).same (hC.block m (by have:=((HX2.out.al.sub fk m HF2.out).mo).lt; omega))
   ·exact (hC.block m' (by have:=((HX2.out.al.sub s m' hs').mo).lt; omega)).trans (K4.out m' ((HX2.out.al.sub s m' hs').mo).lt (HX2.out.al.n1 s m' hs').1)
  have HMID:=zh hm5
  have Hc5:Hid (∀ wx,Below w5.heap.size w5 wx→wx.cell? ⟨X,1,none⟩=some (.map (some M2))∧wx.cell? ⟨w.heap.size,0,none⟩=some (.string tx)∧wx.cell? ⟨w.heap.size,1,none⟩=some (.int .i64 qk)∧wx.cell? ⟨w.heap.size,2,none⟩=some (.string qn)∧wx.cell? ⟨w.heap.size,3,none⟩=some (.slice A1 n1 c1)∧wx.cell? ⟨w.heap.size,4,none⟩=some (.slice A2 n2 c2)∧wx.cell? ⟨w.heap.size,5,none⟩=some (.slice A nn c)):=zh (fun wx hb=>Hc4.out wx (hC.trans (hb.mono hC.size)))
  have CF5:Hid (∀ wx,Below w5.heap.size w5 wx→Calls Tryz.prog 66 #[.agg #[.string tx,.int .i64 qk,.string qn,.slice A1 n1 c1,.slice A2 n2 c2,.slice A nn c]] wx fun e w'=>e=.returned (.string fk)∧Below wx.heap.size wx w'):=zh (fun wx hb=>CF.out wx (hC.trans (hb.mono hC.size)))
  clear hF hC hm5 HLK CF Hc4
  have HLK2:=zh (looksS HMID.out.m2 lawS Tryz.underlying84 Tryz.zeroValue106 fk HKS.out (u:=.map (some m)) (by unfold F2v putF; rw [HFK.out]; simp))
  go_upto_region 5 with (fail)
  refine wp_region_grow_tail 9 (specOf [(5,⟨Unit,fun _=>.string fk,fun _ _=>True⟩)]) (fun wx=>Below w5.heap.size w5 wx) (fun w1 w2=>Below w1.heap.size w1 w2) (by kernel_rfl) (by kernel_rfl) (stab_cons (fun x wa wb hg h=>trivial) (stab_nil)) ((Below.refl _ _).drew) ?_
  simp only [List.take_succ_cons,List.take_zero,List.drop_succ_cons,List.drop_zero]
  iterate 5
   refine grow_fix _ ?_ rfl (by rfl) (by rfl) (fun wx hC hD=>?_) ?_
   rotate_left
   ·have hSw:=Hc5.out wx hC
    go_simp
    all_goals with_reducible rfl
   try simp only [Act.put,zD,zE,zF]
  refine grow_give 6 _ rfl (by rfl) (by rfl) (fun wx hC hD=>?_) (fun x=>?_)
  ·refine give_enter (f:=?_) (args:=?_) ?_ ?_
   rotate_left 2
   ·have hSw:=Hc5.out wx hC
    go_simp
    all_goals first | with_reducible rfl | (refine ⟨?_,?_⟩ <;> with_reducible rfl)
   refine (CF5.out wx hC).mono ?_
   rintro e w9 ⟨rfl,hb9⟩
   exact ⟨_,rfl,hb9,hC.trans (hb9.mono hC.size),(),rfl,trivial⟩
  obtain ⟨⟩:=x
  try simp only [Act.put,zD,zE,zF]
  refine grow_fix 7 ?_ rfl (by rfl) (by rfl) (fun wx hC hD=>?_) ?_
  rotate_left
  ·have hlk:=HLK2.out wx hC
   have hSw:=Hc5.out wx hC
   go_simp
   all_goals with_reducible rfl
  try simp only [Act.put,zD,zE,zF]
  iterate 2
   refine grow_fix _ ?_ rfl (by rfl) (by rfl) (fun wx hC hD=>?_) ?_
   rotate_left
   ·have hSw:=Hc5.out wx hC
    go_simp
    all_goals with_reducible rfl
   try simp only [Act.put,zD,zE,zF]
  refine grow_nil (fun w9 hC hF=>?_)
  have hM9:=HMID.out.below HX2.out.al hC
  obtain ⟨f,hf,hfi⟩:=hM9.s
  try simp only [List.drop_succ_cons,List.drop_zero]
  refine wpList_set_v rfl (.tmp 36) (.tmp 37) (.tmp 38) 106 100 rfl lawI Tryz.underlying106 m cn f rfl hf (by unfold maxLen; omega) i (.agg #[]) rfl rfl HKI.out (fun w10 hm10 hg10=>?_)
  have FIN:Hid (PutP w X cn M1 M2 F2 l i k (.returned (.tuple #[])) w10):=zh (by
   obtain ⟨F1o,F2o,g1,g2,g3⟩:=hM9.fin HX2.out HI.out HKO.out HGN.out HKV2.out hfi hm10 hg10
   rw [HPD.out] at g1
   exact ⟨rfl,F1o,F2o,g1,HC02.out.trans g2 (fun x hx=>.inl hx),fun b hb=>(g3 b hb).imp id (fun h=>by omega)⟩)
  clear hF hC hM9 hf hfi hm10 hg10
  try simp only [Act.put,zD,zE,zF]
  go_wp2
  go_end0
  exact FIN.out
 ·have hF2n:F2 fk=none:=by
   cases e:F2 fk with
   | none=>rfl
   | some m=>exact absurd ⟨m,e⟩ hF2
  have HLK:=zh (looksS HM24.out lawS Tryz.underlying84 Tryz.zeroValue106 fk HKS.out (u:=.map none) (by unfold F2v; rw [hF2n]; rfl))
  have HF2:=zh hF2n
  clear hF2 hF2n
  go_upto_region 3 with (fail)
  refine wp_region_grow (specOf [(5,⟨Unit,fun _=>.string fk,fun _ _=>True⟩)]) (fun wx=>Below (World.heap w4).size w4 wx) (fun w1 w2=>Below w1.heap.size w1 w2) (by kernel_rfl) (by kernel_rfl) (stab_cons (fun x wa wb hg h=>trivial) (stab_nil)) (Below.refl _ _).drew ?_
  iterate 5
   refine grow_fix _ ?_ rfl (by rfl) (by rfl) (fun wx hC hD=>?_) ?_
   rotate_left
   ·have hSw:=Hc4.out wx hC
    go_simp
    all_goals with_reducible rfl
   try simp only [Act.put,zD,zE,zF]
  refine grow_give 6 _ rfl (by rfl) (by rfl) (fun wx hC hD=>?_) (fun x=>?_)
  ·refine give_enter (f:=?_) (args:=?_) ?_ ?_
   rotate_left 2
   ·have hSw:=Hc4.out wx hC
    go_simp
    all_goals first | with_reducible rfl | (refine ⟨?_,?_⟩ <;> with_reducible rfl)
   refine (CF.out wx hC).mono ?_
   rintro e w9 ⟨rfl,hb9⟩
   exact ⟨_,rfl,hb9,hC.trans (hb9.mono hC.size),(),rfl,trivial⟩
  obtain ⟨⟩:=x
  try simp only [Act.put,zD,zE,zF]
  refine grow_fix 7 ?_ rfl (by rfl) (by rfl) (fun wx hC hD=>?_) ?_
  rotate_left
  ·have hlk:=HLK.out wx hC
   have hSw:=Hc4.out wx hC
   go_simp
   all_goals with_reducible rfl
  try simp only [Act.put,zD,zE,zF]
  refine grow_fix 8 ?_ rfl (by rfl) (by rfl) (fun wx hC hD=>?_) ?_
  rotate_left
  ·have hSw:=Hc4.out wx hC
   go_simp
   all_goals with_reducible rfl
  try simp only [Act.put,zD,zE,zF]
  refine grow_nil (fun w5 hC hF=>?_)
  have HC5:=zh hC
  have Hc5:Hid (∀ wx,Below w5.heap.size w5 wx→wx.cell? ⟨X,1,none⟩=some (.map (some M2))∧wx.cell? ⟨w.heap.size,0,none⟩=some (.string tx)∧wx.cell? ⟨w.heap.size,1,none⟩=some (.int .i64 qk)∧wx.cell? ⟨w.heap.size,2,none⟩=some (.string qn)∧wx.cell? ⟨w.heap.size,3,none⟩=some (.slice A1 n1 c1)∧wx.cell? ⟨w.heap.size,4,none⟩=some (.slice A2 n2 c2)∧wx.cell? ⟨w.heap.size,5,none⟩=some (.slice A nn c)):=zh (fun wx hb=>Hc4.out wx (hC.trans (hb.mono hC.size)))
  have CF5:Hid (∀ wx,Below w5.heap.size w5 wx→Calls Tryz.prog 66 #[.agg #[.string tx,.int .i64 qk,.string qn,.slice A1 n1 c1,.slice A2 n2 c2,.slice A nn c]] wx fun e w'=>e=.returned (.string fk)∧Below wx.heap.size wx w'):=zh (fun wx hb=>CF.out wx (hC.trans (hb.mono hC.size)))
  clear hF hC HLK CF Hc4
  go_upto_region 4 with (fail)
  refine wp_region_grow_tail 7 (specOf [(5,⟨Unit,fun _=>.string fk,fun _ _=>True⟩),(6,⟨Nat,fun m=>.map (some m),fun m wz=>MapV Tryz.prog 3 litI wz m 0 noV∧w5.heap.size≤m⟩)]) (fun wx=>Below w5.heap.size w5 wx) (fun w1 w2=>Below w1.heap.size w1 w2) (by kernel_rfl) (by kernel_rfl) (stab_cons (fun x wa wb hg h=>trivial) (stab_cons (fun x wa wb hg h=>⟨h.1.below hg,h.2⟩) (stab_nil))) ((Below.refl _ _).drew) ?_
  simp only [List.take_succ_cons,List.take_zero,List.drop_succ_cons,List.drop_zero]
  iterate 5
   refine grow_fix _ ?_ rfl (by rfl) (by rfl) (fun wx hC hD=>?_) ?_
   rotate_left
   ·have hSw:=Hc5.out wx hC
    go_simp
    all_goals with_reducible rfl
   try simp only [Act.put,zD,zE,zF]
  refine grow_give 6 _ rfl (by rfl) (by rfl) (fun wx hC hD=>?_) (fun x=>?_)
  ·refine give_enter (f:=?_) (args:=?_) ?_ ?_
   rotate_left 2
   ·have hSw:=Hc5.out wx hC
    go_simp
    all_goals first | with_reducible rfl | (refine ⟨?_,?_⟩ <;> with_reducible rfl)
   refine (CF5.out wx hC).mono ?_
   rintro e w9 ⟨rfl,hb9⟩
   exact ⟨_,rfl,hb9,hC.trans (hb9.mono hC.size),(),rfl,trivial⟩
  obtain ⟨⟩:=x
  try simp only [Act.put,zD,zE,zF]
  refine grow_give 7 _ rfl (by rfl) (by rfl) (fun wx hC hD=>?_) (fun x=>?_)
  ·refine give_value (u:=?_) (w':=?_) ?_ ?_ ?_
   rotate_left 2
   ·have hSw:=Hc5.out wx hC
    go_simp
    all_goals first | with_reducible rfl | (refine ⟨?_,?_⟩ <;> with_reducible rfl)
   ·exact (Below.refl _ _).alloc (zG _) _
   ·exact ⟨hC.alloc hC.size _,wx.heap.size,rfl,MapV.made _ _ _ _,hC.size⟩
  rename Nat=>x6
  try simp only [Act.put,zD,zE,zF]
  refine grow_nil (fun w6 hC hF=>?_)
  have hmv:=upd_hit (hF 6) (by decide)
  have hC6:=HC5.out.trans (hC.mono HC5.out.size)
  have hm26:=HM24.out.below hC6
  try simp only [List.drop_succ_cons,List.drop_zero]
  refine wpList_set_v rfl (.tmp 26) (.tmp 28) (.tmp 29) 84 106 rfl lawS Tryz.underlying84 M2 cn (F2v F2) rfl hm26 (by unfold maxLen; omega) fk (.map (some x6)) rfl rfl HKS.out (fun w7 hm7 hg7=>?_)
  rw [F2v_put] at hm7
  have hxM:@Ne Nat x6 M1∧@Ne Nat x6 M2:=by
   have h1:=(mo_v HX2.out.al.m1.v).lt
   have h2:=(mo_v HX2.out.al.m2).lt
   have h3:=hmv.2
   have h4:=HC5.out.size
   exact ⟨fun e=>by omega,fun e=>by omega⟩
  have hs7:=hg7.size
  have hs6:=hC6.size
  have hM2l:M2<w2.heap.size:=(mo_v HX2.out.al.m2).lt
  have hm7':Mid w2 w7 X cn M1 M2 F1' F2 l2 i k (.agg #[.string tx,.int .i64 qk,.string qn,.slice A1 n1 c1,.slice A2 n2 c2,.slice A nn c]) x6:=by
   refine ⟨(HC4.out.then_new hC6).trans (O':=Own M1 M2 F2) (Chg.of_grown hg7 (fun b hb=>by injection hb with hb; exact .inr (.inl hb.symm))) (fun x hx=>.inl hx),(HM4.out.below hC6).kept hg7 (fun e=>by injection e with e; exact HX2.out.al.n12 e),by rw [HFK.out]; exact hm7,⟨noV,?_,fun j=>?_⟩,fun s m' hs hs'=>?_,.inr (by have:=hmv.2; have:=HC5.out.size; omega),hxM⟩
   ·exact (hmv.1.kept hg7 (fun e=>by injection e with e; exact hxM.2 e)).more (Nat.zero_le _)
   ·rw [HFK.out]
    exact ⟨fun h=>(nomatch h),fun h=>absurd h (HX2.out.al.nos fk HF2.out j)⟩
   ·have hlt:=((HX2.out.al.sub s m' hs').mo).lt
    have hn:=HX2.out.al.n1 s m' hs'
    exact ((hg7.block m' (by omega) (fun e=>by injection e with e; exact hn.2 e)).trans (hC6.block m' (by omega))).trans (K4.out m' hlt hn.1)
  have HMID:=zh hm7'
  have Hc7:Hid (∀ wx,Below w7.heap.size w7 wx→wx.cell? ⟨X,1,none⟩=some (.map (some M2))∧wx.cell? ⟨w.heap.size,0,none⟩=some (.string tx)∧wx.cell? ⟨w.heap.size,1,none⟩=some (.int .i64 qk)∧wx.cell? ⟨w.heap.size,2,none⟩=some (.string qn)∧wx.cell? ⟨w.heap.size,3,none⟩=some (.slice A1 n1 c1)∧wx.cell? ⟨w.heap.size,4,none⟩=some (.slice A2 n2 c2)∧wx.cell? ⟨w.heap.size,5,none⟩=some (.slice A nn c)):=zh (fun wx hb=>by
   have hC7:Chg (Own M1 M2 F2) w2 wx:=hm7'.chg.then_new hb
   have k1:=(blk_chg HX2.out.blk hC7 HX2.out.al.noSc).cell 1
   have r:=blk_chg HB2.out hC7 HX2.out.al.noSc
   have r0:=r.cell 0
   have r1:=r.cell 1
   have r2:=r.cell 2
   have r3:=r.cell 3
   have r4:=r.cell 4
   have r5:=r.cell 5
   simp only [zA,zB,zC] at k1 r0 r1 r2 r3 r4 r5
   exact ⟨k1,r0,r1,r2,r3,r4,r5⟩)
  have CF7:Hid (∀ wx,Below w7.heap.size w7 wx→Calls Tryz.prog 66 #[.agg #[.string tx,.int .i64 qk,.string qn,.slice A1 n1 c1,.slice A2 n2 c2,.slice A nn c]] wx fun e w'=>e=.returned (.string fk)∧Below wx.heap.size wx w'):=zh (fun wx hb=>by
   have hC7:Chg (Own M1 M2 F2) w2 wx:=hm7'.chg.then_new hb
   have:=first_any (HKV2.out.chg hC7 HX2.out.al.noSc)
   rwa [HFK.out] at this)
  clear hF hC hm7' hmv hC6 hm26 hm7 hg7 hs7 hs6 HC5 Hc5 CF5
  try simp only [Act.put,zD,zE,zF]
  have HLK2:=zh (looksS HMID.out.m2 lawS Tryz.underlying84 Tryz.zeroValue106 fk HKS.out (u:=.map (some x6)) (by unfold F2v putF; rw [HFK.out]; simp))
  go_upto_region 5 with (fail)
  refine wp_region_grow_tail 9 (specOf [(5,⟨Unit,fun _=>.string fk,fun _ _=>True⟩)]) (fun wx=>Below w7.heap.size w7 wx) (fun w1 w2=>Below w1.heap.size w1 w2) (by kernel_rfl) (by kernel_rfl) (stab_cons (fun x wa wb hg h=>trivial) (stab_nil)) ((Below.refl _ _).drew) ?_
  simp only [List.take_succ_cons,List.take_zero,List.drop_succ_cons,List.drop_zero]
  iterate 5
   refine grow_fix _ ?_ rfl (by rfl) (by rfl) (fun wx hC hD=>?_) ?_
   rotate_left
   ·have hSw:=Hc7.out wx hC
    go_simp
    all_goals with_reducible rfl
   try simp only [Act.put,zD,zE,zF]
  refine grow_give 6 _ rfl (by rfl) (by rfl) (fun wx hC hD=>?_) (fun x=>?_)
  ·refine give_enter (f:=?_) (args:=?_) ?_ ?_
   rotate_left 2
   ·have hSw:=Hc7.out wx hC
    go_simp
    all_goals first | with_reducible rfl | (refine ⟨?_,?_⟩ <;> with_reducible rfl)
   refine (CF7.out wx hC).mono ?_
   rintro e w9 ⟨rfl,hb9⟩
   exact ⟨_,rfl,hb9,hC.trans (hb9.mono hC.size),(),rfl,trivial⟩
  obtain ⟨⟩:=x
  try simp only [Act.put,zD,zE,zF]
  refine grow_fix 7 ?_ rfl (by rfl) (by rfl) (fun wx hC hD=>?_) ?_
  rotate_left
  ·have hlk:=HLK2.out wx hC
   have hSw:=Hc7.out wx hC
   go_simp
   all_goals with_reducible rfl
  try simp only [Act.put,zD,zE,zF]
  iterate 2
   refine grow_fix _ ?_ rfl (by rfl) (by rfl) (fun wx hC hD=>?_) ?_
   rotate_left
   ·have hSw:=Hc7.out wx hC
    go_simp
    all_goals with_reducible rfl
   try simp only [Act.put,zD,zE,zF]
  refine grow_nil (fun w9 hC hF=>?_)
  have hM9:=HMID.out.below HX2.out.al hC
  obtain ⟨f,hf,hfi⟩:=hM9.s
  try simp only [List.drop_succ_cons,List.drop_zero]
  refine wpList_set_v rfl (.tmp 36) (.tmp 37) (.tmp 38) 106 100 rfl lawI Tryz.underlying106 x6 cn f rfl hf (by unfold maxLen; omega) i (.agg #[]) rfl rfl HKI.out (fun w10 hm10 hg10=>?_)
  have FIN:Hid (PutP w X cn M1 M2 F2 l i k (.returned (.tuple #[])) w10):=zh (by
   obtain ⟨F1o,F2o,g1,g2,g3⟩:=hM9.fin HX2.out HI.out HKO.out HGN.out HKV2.out hfi hm10 hg10
   rw [HPD.out] at g1
   exact ⟨rfl,F1o,F2o,g1,HC02.out.trans g2 (fun x hx=>.inl hx),fun b hb=>(g3 b hb).imp id (fun h=>by omega)⟩)
  clear hF hC hM9 hf hfi hm10 hg10
  try simp only [Act.put,zD,zE,zF]
  go_wp2
  go_end0
  exact FIN.out
end Go.Proofs.YtlfpfkallgkjdaaGreat.Al
end

section
namespace Go.Proofs.YtlfpfkallgkjdaaGreat.Al
open Go.RowKit Go.Maps Ut Tk Qy Qp Ev Mv
inductive PutR:List (Int × Kp)→Int→ByteArray→Int→List (Int × Kp)→Prop
 | arg {l:List (Int × Kp)} {i:Int} {s:ByteArray} (h:i<0∨999999<i):PutR l i s 1 l
 | bad {l:List (Int × Kp)} {i:Int} {s:ByteArray} {E:Int} (h : 0≤i∧i≤999999) (hp:PrsR s.data.toList E none):PutR l i s E l
 | many {l:List (Int × Kp)} {i:Int} {s:ByteArray} {q:Q} (h : 0≤i∧i≤999999) (hp:PrsR s.data.toList 0 (some q)) (hg:get l i=none) (hm : 1000≤l.length):PutR l i s 3 l
 | ok {l:List (Int × Kp)} {i:Int} {s:ByteArray} {q:Q} (h : 0≤i∧i≤999999) (hp:PrsR s.data.toList 0 (some q)) (hm:(get l i).isSome=true∨l.length<1000):PutR l i s 0 (put l i ⟨s,q,needs q⟩)
theorem PutR.det {l l' l'':List (Int × Kp)} {i:Int} {s:ByteArray} {E E':Int} (h:PutR l i s E l') (h':PutR l i s E' l''):E=E'∧l'=l'':=by
 cases h with
 | arg h =>
  cases h' with
  | arg _=>exact ⟨rfl,rfl⟩
  | bad g _=>omega
  | many g _ _ _=>omega
  | ok g _ _=>omega
 | bad h hp =>
  cases h' with
  | arg g=>omega
  | bad _ hp'=>exact ⟨(hp.det hp').1,rfl⟩
  | many _ hp' _ _=>cases (hp.det hp').2
  | ok _ hp' _=>cases (hp.det hp').2
 | many h hp hg hm =>
  cases h' with
  | arg g=>omega
  | bad _ hp'=>cases (hp.det hp').2
  | many _ _ _ _=>exact ⟨rfl,rfl⟩
  | ok _ _ hm' =>
   rw [hg] at hm'
   rcases hm' with hm' | hm'
   ·cases hm'
   ·omega
 | ok h hp hm =>
  cases h' with
  | arg g=>omega
  | bad _ hp'=>cases (hp.det hp').2
  | many _ _ hg' hm' =>
   rw [hg'] at hm
   rcases hm with hm | hm
   ·cases hm
   ·omega
  | ok _ hp' _ =>
   have:=(hp.det hp').2
   injection this with this
   subst this
   exact ⟨rfl,rfl⟩
theorem PutR.few {l l':List (Int × Kp)} {i:Int} {s:ByteArray} {E:Int} (h:PutR l i s E l') (hu:UpI l) (hl:l.length≤1000):l'.length≤1000:=by
 cases h with
 | arg h=>exact hl
 | bad h hp=>exact hl
 | many h hp hg hm=>exact hl
 | ok h hp hm =>
  rw [put_len hu]
  split
  ·exact hl
  ·rename_i hs
   rcases hm with hm | hm
   ·exact absurd hm hs
   ·omega
def PutsP (w:World) (X cn M1 M2:Nat) (F2:ByteArray→Option Nat) (l:List (Int × Kp)) (i:Int) (s:ByteArray) (e:Ending) (w':World):Prop :=
 ∃ E l' F1' F2',PutR l i s E l'∧e=.returned (.int .i64 E)∧AlX w' X (cn+1) M1 M2 F1' F2' l'∧Chg (Own M1 M2 F2) w w'∧∀ b,Own M1 M2 F2' b→Own M1 M2 F2 b∨w.heap.size≤b
section
variable {w:World} {X cn M1 M2:Nat} {F1:Int→Option Value} {F2:ByteArray→Option Nat} {l:List (Int × Kp)}
theorem PutsP.stay {i:Int} {s:ByteArray} {E:Int} {w':World} (h:AlX w X cn M1 M2 F1 F2 l) (hp:PutR l i s E l) (hb:Below w.heap.size w w'):PutsP w X cn M1 M2 F2 l i s (.returned (.int .i64 E)) w' :=
 ⟨E,l,F1,F2,hp,rfl,⟨(h.below hb).blk,(h.below hb).al.more (Nat.le_succ _)⟩,Chg.of_new hb,fun b hb=>.inl hb⟩
set_option maxHeartbeats 6400000 in
theorem puts_any (i:Int) (hi:I64 i) (s:ByteArray) (h:AlX w X cn M1 M2 F1 F2 l) (hll:l.length≤1000) (hcn:cn≤4294967296) :
  Calls Tryz.prog 10 #[.pointer (some ⟨X,0,none⟩),.int .i64 i,.string s] w (PutsP w X cn M1 M2 F2 l i s):=by
 have q0:=h.c0
 have c1:=none_no q0
 have HKI:=zh (keyI hi)
 have H:=zh h
 by_cases h1:i<0
 ·have FIN:=zh (PutsP.stay h (PutR.arg (s:=s) (.inl h1)) (Below.refl _ _))
  clear h
  go_enter Tryz.func10,Tryz.ntmps10
  go_wp2_with fail
  refine c1.mono ?_
  rintro e w2 ⟨rfl,rfl⟩
  clear c1
  go_wp2
  go_ret
  exact FIN.out
 by_cases h2 : 999999<i
 ·have FIN:=zh (PutsP.stay h (PutR.arg (s:=s) (.inr h2)) (Below.refl _ _))
  clear h
  go_enter Tryz.func10,Tryz.ntmps10
  go_wp2_with fail
  refine c1.mono ?_
  rintro e w2 ⟨rfl,rfl⟩
  clear c1
  go_wp2
  go_ret
  exact FIN.out
 have hr : 0≤i∧i≤999999:=⟨by omega,by omega⟩
 have HR:=zh hr
 clear h hr
 go_enter Tryz.func10,Tryz.ntmps10
 go_wp2_with fail
 refine c1.mono ?_
 rintro e w2 ⟨rfl,rfl⟩
 clear c1
 go_wp2_with fail
 refine (parse_any s _).mono ?_
 rintro e w2 ⟨E,o,a0,a1,a2,a3,hp,rfl,hF,hb2⟩
 obtain ⟨A1,n1,c1,A2,n2,c2,e4⟩:=hF.four
 simp only [List.cons.injEq,and_true] at e4
 obtain ⟨rfl,rfl,rfl,rfl⟩:=e4
 cases o with
 | none =>
  have hE:=prs_none hp
  have hb3:Below w.heap.size w (w2.alloc (.cells #[.int .i64 ((none:Option Q).getD noQ).kind,.string ((none:Option Q).getD noQ).name,.slice A1 n1 c1,.slice A2 n2 c2] 52)):=hb2.trans (((Below.refl _ _).alloc (zG _) _).mono hb2.size)
  have FIN:=zh (PutsP.stay H.out (PutR.bad HR.out hp) hb3)
  have hE2:(E != 0)=true:=by simpa using hE
  clear hp hF hb2 hb3 q0
  generalize ((none:Option Q).getD noQ).kind=z1 at *
  generalize ((none:Option Q).getD noQ).name=z2 at *
  go_wp2
  go_ret
  exact FIN.out
 | some q =>
  obtain ⟨rfl,_,hq⟩:=prs_ok hp
  have hF':QF w2 (Sc w2) q [.int .i64 q.kind,.string q.name,.slice A1 n1 c1,.slice A2 n2 c2]:=qf_sc hF
  have HF:=zh hF'
  have HP:=zh hp
  have HQ:=zh hq
  have hk1:((some q:Option Q).getD noQ).kind=q.kind:=rfl
  have hk2:((some q:Option Q).getD noQ).name=q.name:=rfl
  rw [hk1,hk2]
  clear hp hF hF' hq hk1 hk2 q0
  have hqat:QAt w2 w2.heap.size q [.int .i64 q.kind,.string q.name,.slice A1 n1 c1,.slice A2 n2 c2]:=HF.out.at_ (fun b hb=>hb.lt)
  have HQA:=zh hqat
  clear hqat
  generalize hqk:q.kind=qk at *
  generalize hqn:q.name=qn at *
  have HKK:=zh (And.intro hqk hqn)
  clear hqk hqn
  have hba:=(Below.refl w2.heap.size w2).alloc (zG _) (.cells #[.int .i64 qk,.string qn,.slice A1 n1 c1,.slice A2 n2 c2] 52)
  have HBQ:=zh (Blk.new w2 52 #[.int .i64 qk,.string qn,.slice A1 n1 c1,.slice A2 n2 c2])
  have HB3:=zh (hb2.trans (hba.mono hb2.size))
  have HBA:=zh hba
  have hz3:w2.heap.size<(w2.alloc (.cells #[.int .i64 qk,.string qn,.slice A1 n1 c1,.slice A2 n2 c2] 52)).heap.size:=by simp
  have Hb2:=zh hb2
  clear hba hb2
  go_upto_region 8 with (fail)
  generalize w2.alloc (.cells #[.int .i64 qk,.string qn,.slice A1 n1 c1,.slice A2 n2 c2] 52)=w3 at *
  have H3:=zh (H.out.below HB3.out)
  have q0:=H3.out.c0
  have hs23:=HBA.out.size
  obtain ⟨z,hz⟩:∃ z:Value,z=((F1 i).getD (.agg #[.string ⟨#[]⟩,.int .i64 0,.string ⟨#[]⟩,.slice none 0 0,.slice none 0 0,.slice none 0 0])):=⟨_,rfl⟩
  obtain ⟨u0,u1,u2,u3,u4,u5,hzz⟩:∃ (u0 u2:ByteArray) (u1:Int) (u3 u4 u5:Option Addr × Nat × Nat),z=.agg #[.string u0,.int .i64 u1,.string u2,.slice u3.1 u3.2.1 u3.2.2,.slice u4.1 u4.2.1 u4.2.2,.slice u5.1 u5.2.1 u5.2.2]:=by
   cases hg:get l i with
   | none =>
    rw [H.out.al.kn i hg] at hz
    exact ⟨⟨#[]⟩,⟨#[]⟩,0,(none,0,0),(none,0,0),(none,0,0),hz⟩
   | some k =>
    obtain ⟨v,hv1,hv2⟩:=H.out.al.kv i k hg
    rw [hv1] at hz
    obtain ⟨B1,m1,d1,B2,m2,d2,B,d,rfl,_,_⟩:=hv2.parts
    exact ⟨k.text,k.q.name,k.q.kind,(B1,m1,d1),(B2,m2,d2),(B,k.needs.length,d),hz⟩
  subst hzz
  have HZ:=zh hz.symm
  have hiff:=H.out.al.iff i
  have HIF:=zh hiff
  clear hz hiff
  obtain ⟨ok,hok⟩:∃ ok,(get l i).isSome=ok:=⟨_,rfl⟩
  have HOK:=zh hok
  clear hok
  have hbk:=(Below.refl w3.heap.size w3).alloc (zG _) (.cells #[.string u0,.int .i64 u2,.string u1,.slice u3.1 u3.2.1 u3.2.2,.slice u4.1 u4.2.1 u4.2.2,.slice u5.1 u5.2.1 u5.2.2] 92)
  have HB4:=zh (HB3.out.trans (hbk.mono HB3.out.size))
  have HBK:=zh hbk
  clear hbk
  go_upto_region 9 with (first
   | (at_lookup; refine wpList_look2_v rfl (.tmp 33) (.tmp 34) 83 92 rfl lawI Tryz.underlying83 (Tryz.zeroValue92 _) M1 l.length F1 rfl H3.out.al.m1.v i rfl HKI.out (.agg #[.string u0,.int .i64 u2,.string u1,.slice u3.1 u3.2.1 u3.2.2,.slice u4.1 u4.2.1 u4.2.2,.slice u5.1 u5.2.1 u5.2.2]) ok HZ.out (by rw [HIF.out]; exact HOK.out) ?_)
   | go_in)
  generalize w3.alloc (.cells #[.string u0,.int .i64 u2,.string u1,.slice u3.1 u3.2.1 u3.2.2,.slice u4.1 u4.2.1 u4.2.2,.slice u5.1 u5.2.1 u5.2.2] 92)=w4 at *
  have H4:=zh (H.out.below HB4.out)
  clear q0
  have q0:=H4.out.c0
  have hlen:=fun ty=>mapz_len H4.out.al.m1 Tryz.underlying83 ty
  have hs34:=HBK.out.size
  have hs4:=HB4.out.size
  by_cases hmany:ok=false∧1000≤l.length
  ·obtain ⟨rfl,hm⟩:=hmany
   have FIN:=zh (PutsP.stay H.out (PutR.many HR.out HP.out (by cases hg:get l i with | none=>rfl | some k=>have:=HOK.out; rw [hg] at this; cases this) hm) HB4.out)
   have hm':(1000:Int)≤(l.length:Int):=by omega
   go_wp2
   go_ret
   exact FIN.out
  ·have hput:PutR l i s 0 (put l i ⟨s,q,needs q⟩):=PutR.ok HR.out HP.out (by
    rw [HOK.out]
    cases ok with
    | true=>exact .inl rfl
    | false=>exact .inr (by have:¬ 1000≤l.length:=fun h=>hmany ⟨rfl,h⟩; omega))
   have HPUT:=zh hput
   have hlt:ok=true∨¬ (1000:Int)≤(l.length:Int):=by
    cases ok with
    | true=>exact .inl rfl
    | false=>exact .inr (by have:¬ 1000≤l.length:=fun h=>hmany ⟨rfl,h⟩; omega)
   clear hmany hput
   have Hcells:Hid (∀ wx,Below w4.heap.size w4 wx→wx.cell? ⟨w2.heap.size,0,none⟩=some (.int .i64 qk)∧wx.cell? ⟨w2.heap.size,1,none⟩=some (.string qn)∧wx.cell? ⟨w2.heap.size,2,none⟩=some (.slice A1 n1 c1)∧wx.cell? ⟨w2.heap.size,3,none⟩=some (.slice A2 n2 c2)):=zh (fun wx hb=>by
    have hbb:Blk w4 w2.heap.size 52 #[.int .i64 qk,.string qn,.slice A1 n1 c1,.slice A2 n2 c2]:=HBQ.out.below HBK.out (by omega)
    have r:=hbb.below hb hbb.lt
    have r0:=r.cell 0
    have r1:=r.cell 1
    have r2:=r.cell 2
    have r3:=r.cell 3
    simp only [zA,zB,zC] at r0 r1 r2 r3
    exact ⟨r0,r1,r2,r3⟩)
   have hb24:Below w2.heap.size w2 w4:=HBA.out.trans (HBK.out.mono HBA.out.size)
   have NE:Hid (∀ wx,Below w4.heap.size w4 wx→Calls Tryz.prog 36 #[.agg #[.int .i64 qk,.string qn,.slice A1 n1 c1,.slice A2 n2 c2]] wx (BsPost wx (needs q))):=zh (fun wx hb=>needs_any q (QTx.more HQ.out.tx (by decide)) wx _ _ _ _ ((HQA.out.grow hb24).grow hb) HQ.out.wq)
   have HB24:=zh hb24
   clear hb24
   cases ok with
   | true =>
    go_upto_region 11 with (fail)
    refine wp_region_grow_tail 7 (specOf [(5,⟨Option Addr × Nat,fun x=>.slice x.1 (needs q).length x.2,fun x wz=>wz.ownsRow w4.heap.size 9 1 (.slice x.1 (needs q).length x.2) (needs q).length (bsv (needs q))⟩)]) (fun wx=>Below w4.heap.size w4 wx) (fun w1 w2=>Below w1.heap.size w1 w2) (by kernel_rfl) (by kernel_rfl) (stab_cons (fun x wa wb hg h=>h.kept (grow_of_below hg none) (by cases hv:Value.ownBlock _ <;> simp)) (stab_nil)) ((Below.refl _ _).drew) ?_
    simp only [List.take_succ_cons,List.take_zero,List.drop_succ_cons,List.drop_zero]
    iterate 5
     refine grow_fix _ ?_ rfl (by rfl) (by rfl) (fun wx hC hD=>?_) ?_
     rotate_left
     ·have hSw:=Hcells.out wx hC
      go_simp
      all_goals with_reducible rfl
     try simp only [Act.put,zD,zE,zF]
    refine grow_give 6 _ rfl (by rfl) (by rfl) (fun wx hC hD=>?_) (fun x=>?_)
    ·refine give_enter (f:=?_) (args:=?_) ?_ ?_
     rotate_left 2
     ·have hSw:=Hcells.out wx hC
      go_simp
      all_goals first | with_reducible rfl | (refine ⟨?_,?_⟩ <;> with_reducible rfl)
     refine (NE.out wx hC).mono ?_
     rintro e w9 ⟨v9,rfl,ho9,hb9⟩
     obtain ⟨A9,c9,rfl,_⟩:=own_shape ho9
     exact ⟨_,rfl,hb9,hC.trans (hb9.mono hC.size),(A9,c9),rfl,own_mono ho9 hC.size⟩
    obtain ⟨A5,c5⟩:=x
    try simp only [Act.put,zD,zE,zF]
    refine grow_fix 7 ?_ rfl (by rfl) (by rfl) (fun wx hC hD=>?_) ?_
    rotate_left
    ·have hSw:=Hcells.out wx hC
     go_simp
     all_goals with_reducible rfl
    try simp only [Act.put,zD,zE,zF]
    refine grow_nil (fun w6 hC hF=>?_)
    have hrow:=upd_hit (hF 5) (by decide)
    have hC6:Below w.heap.size w w6:=HB4.out.trans (hC.mono hs4)
    have hX6:=H.out.below hC6
    have hkq:=HKK.out
    have hkv6:KpV w6 ⟨s,q,needs q⟩ (.agg #[.string s,.int .i64 qk,.string qn,.slice A1 n1 c1,.slice A2 n2 c2,.slice A5 (needs q).length c5]):=by
     refine ⟨_,_,_,_,A5,c5,rfl,?_,reads_sc (ReadsS.of_own hrow) (by decide)⟩
     exact qf_chg HF.out (O:=fun _=>False) (Chg.of_new (HB24.out.trans (hC.mono HB24.out.size))) (fun _ h=>h.elim)
    have CP:=zh (put_any i ⟨s,q,needs q⟩ _ HR.out ⟨HP.out,rfl⟩ hkv6 hX6 (by omega) hcn)
    have HC6:=zh hC6
    clear hF hC hrow hC6 hX6 hkq hkv6
    try simp only [List.drop_succ_cons,List.drop_zero]
    go_wp2_with fail
    refine CP.out.mono ?_
    rintro e w7 ⟨rfl,F1b,F2b,hX7,hC7,hO7⟩
    have FIN:Hid (PutsP w X cn M1 M2 F2 l i s (.returned (.int .i64 0)) w7):=zh ⟨0,_,F1b,F2b,HPUT.out,rfl,hX7,(Chg.of_new HC6.out).trans hC7 (fun x hx=>.inl hx),fun b hb=>(hO7 b hb).imp id (fun h=>by have:=HC6.out.size; omega)⟩
    clear hX7 hC7 hO7 CP
    go_wp2
    go_ret
    exact FIN.out
   | false =>
    have hlt2:¬ (1000:Int)≤(l.length:Int):=by
     rcases hlt with h | h
     ·cases h
     ·exact h
    clear hlt
    go_upto_region 11 with (fail)
    refine wp_region_grow_tail 7 (specOf [(5,⟨Option Addr × Nat,fun x=>.slice x.1 (needs q).length x.2,fun x wz=>wz.ownsRow w4.heap.size 9 1 (.slice x.1 (needs q).length x.2) (needs q).length (bsv (needs q))⟩)]) (fun wx=>Below w4.heap.size w4 wx) (fun w1 w2=>Below w1.heap.size w1 w2) (by kernel_rfl) (by kernel_rfl) (stab_cons (fun x wa wb hg h=>h.kept (grow_of_below hg none) (by cases hv:Value.ownBlock _ <;> simp)) (stab_nil)) ((Below.refl _ _).drew) ?_
    simp only [List.take_succ_cons,List.take_zero,List.drop_succ_cons,List.drop_zero]
    iterate 5
     refine grow_fix _ ?_ rfl (by rfl) (by rfl) (fun wx hC hD=>?_) ?_
     rotate_left
     ·have hSw:=Hcells.out wx hC
      go_simp
      all_goals with_reducible rfl
     try simp only [Act.put,zD,zE,zF]
    refine grow_give 6 _ rfl (by rfl) (by rfl) (fun wx hC hD=>?_) (fun x=>?_)
    ·refine give_enter (f:=?_) (args:=?_) ?_ ?_
     rotate_left 2
     ·have hSw:=Hcells.out wx hC
      go_simp
      all_goals first | with_reducible rfl | (refine ⟨?_,?_⟩ <;> with_reducible rfl)
     refine (NE.out wx hC).mono ?_
     rintro e w9 ⟨v9,rfl,ho9,hb9⟩
     obtain ⟨A9,c9,rfl,_⟩:=own_shape ho9
     exact ⟨_,rfl,hb9,hC.trans (hb9.mono hC.size),(A9,c9),rfl,own_mono ho9 hC.size⟩
    obtain ⟨A5,c5⟩:=x
    try simp only [Act.put,zD,zE,zF]
    refine grow_fix 7 ?_ rfl (by rfl) (by rfl) (fun wx hC hD=>?_) ?_
    rotate_left
    ·have hSw:=Hcells.out wx hC
     go_simp
     all_goals with_reducible rfl
    try simp only [Act.put,zD,zE,zF]
    refine grow_nil (fun w6 hC hF=>?_)
    have hrow:=upd_hit (hF 5) (by decide)
    have hC6:Below w.heap.size w w6:=HB4.out.trans (hC.mono hs4)
    have hX6:=H.out.below hC6
    have hkq:=HKK.out
    have hkv6:KpV w6 ⟨s,q,needs q⟩ (.agg #[.string s,.int .i64 qk,.string qn,.slice A1 n1 c1,.slice A2 n2 c2,.slice A5 (needs q).length c5]):=by
     refine ⟨_,_,_,_,A5,c5,rfl,?_,reads_sc (ReadsS.of_own hrow) (by decide)⟩
     exact qf_chg HF.out (O:=fun _=>False) (Chg.of_new (HB24.out.trans (hC.mono HB24.out.size))) (fun _ h=>h.elim)
    have CP:=zh (put_any i ⟨s,q,needs q⟩ _ HR.out ⟨HP.out,rfl⟩ hkv6 hX6 (by omega) hcn)
    have HC6:=zh hC6
    clear hF hC hrow hC6 hX6 hkq hkv6
    try simp only [List.drop_succ_cons,List.drop_zero]
    go_wp2_with fail
    refine CP.out.mono ?_
    rintro e w7 ⟨rfl,F1b,F2b,hX7,hC7,hO7⟩
    have FIN:Hid (PutsP w X cn M1 M2 F2 l i s (.returned (.int .i64 0)) w7):=zh ⟨0,_,F1b,F2b,HPUT.out,rfl,hX7,(Chg.of_new HC6.out).trans hC7 (fun x hx=>.inl hx),fun b hb=>(hO7 b hb).imp id (fun h=>by have:=HC6.out.size; omega)⟩
    clear hX7 hC7 hO7 CP
    go_wp2
    go_ret
    exact FIN.out
end
def dropsL (l:List (Int × Kp)) (ids:List Int):List (Int × Kp):=ids.foldl drop l
def cntD (l:List (Int × Kp)):List Int→Nat
 | []=>0
 | i :: ids=>(if (get l i).isSome=true then 1 else 0)+cntD (drop l i) ids
theorem dropsL_snoc (l:List (Int × Kp)) (ids:List Int) (i:Int):dropsL l (ids ++ [i])=drop (dropsL l ids) i:=by simp [dropsL]
theorem cntD_snoc:∀ (ids:List Int) (l:List (Int × Kp)) (i:Int),cntD l (ids ++ [i])=cntD l ids+(if (get (dropsL l ids) i).isSome=true then 1 else 0)
 | [],l,i=>by cases h:(get l i).isSome <;> simp [cntD,dropsL,h]
 | j :: ids,l,i=>by
  have ih:=cntD_snoc ids (drop l j) i
  rw [List.cons_append,cntD,cntD,ih]
  have e:dropsL l (j :: ids)=dropsL (drop l j) ids:=rfl
  rw [e]
  omega
theorem cntD_le:∀ (ids:List Int) (l:List (Int × Kp)),cntD l ids≤ids.length
 | [],l=>zG _
 | i :: ids,l=>by
  have ih:=cntD_le ids (drop l i)
  rw [cntD,List.length_cons]
  split <;> omega
theorem dropsL_few:∀ (ids:List Int) (l:List (Int × Kp)),UpI l→(dropsL l ids).length≤l.length∧UpI (dropsL l ids)
 | [],l,hu=>⟨zG _,hu⟩
 | i :: ids,l,hu=>by
  have ih:=dropsL_few ids (drop l i) (drop_up hu i)
  have:=drop_le hu i
  exact ⟨by have:=ih.1; have e:dropsL l (i :: ids)=dropsL (drop l i) ids:=rfl; rw [e]; omega,ih.2⟩
def DropsP (w:World) (X cn M1 M2:Nat) (F2:ByteArray→Option Nat) (l:List (Int × Kp)) (ids:List Int) (e:Ending) (w':World):Prop :=
 ∃ F1',e=.returned (.int .i64 (cntD l ids:Nat))∧AlX w' X cn M1 M2 F1' F2 (dropsL l ids)∧Chg (Own M1 M2 F2) w w'
set_option maxHeartbeats 1600000 in
theorem drops_any {w:World} {X cn M1 M2:Nat} {F1:Int→Option Value} {F2:ByteArray→Option Nat} {l:List (Int × Kp)} (A:Option Addr) (n c:Nat) (ids:List Int) (hR:ReadsS w (Sc w) 1 A n (itv ids)) (hn:ids.length=n) (hn2:n≤4294967296) (hw:∀ i∈ids,I64 i) (h:AlX w X cn M1 M2 F1 F2 l) :
  Calls Tryz.prog 12 #[.pointer (some ⟨X,0,none⟩),.slice A n c] w (DropsP w X cn M1 M2 F2 l ids):=by
 have HRd:=zh hR
 have H:=zh h
 have HW:=zh hw
 have HN:=zh hn
 clear hR h hw hn
 go_enter Tryz.func12,Tryz.ntmps12
 go_wp2
 go_loopw [5,10] (fun m i wr=>∃ (k:Nat) (F1':Int→Option Value),k≤n∧i=.int .i64 k∧m=.int .i64 (cntD l (ids.take k):Nat)∧Hid (AlX wr X cn M1 M2 F1' F2 (dropsL l (ids.take k)))∧Hid (Chg (Own M1 M2 F2) w wr)) (fun _ i _=>n - (intOf i).toNat)
 case atStart=>exact ⟨0,F1,Nat.zero_le _,rfl,rfl,zh (by simpa [dropsL] using H.out),zh (Chg.refl _ _)⟩
 case round =>
  obtain ⟨k,F1',hk,rfl,rfl,hX,hC⟩:=hrel
  by_cases hlt:k<n
  ·have hkl:k<ids.length:=by rw [HN.out]; exact hlt
   have hrd:=reads_chg HRd.out hC.out H.out.al.noSc
   obtain ⟨b,o,rfl,hbS,hcl⟩:=hrd.2 (by omega)
   have hc1:=hcl k _ (itv_get ids k hkl)
   have hts:ids.take (k+1)=ids.take k ++ [ids[k]]:=List.take_succ_eq_append_getElem hkl
   have hds:=dropsL_snoc l (ids.take k) ids[k]
   have hcs:=cntD_snoc (ids.take k) l ids[k]
   rw [← hts] at hds hcs
   have hwx:=HW.out ids[k] (List.getElem_mem hkl)
   have hcl2:=cntD_le (ids.take k) l
   rw [List.length_take] at hcl2
   have hcb:cntD l (ids.take k)≤k:=by omega
   have HDS:=zh hds
   have HCS:=zh hcs
   have c1:=none_no hX.out.c0
   have CD:=zh (drop_any ids[k] hwx hX.out)
   clear hrd hbS hcl hts hds hcs hwx hcl2
   generalize dropsL l (ids.take k)=m1 at *
   generalize cntD l (ids.take k)=t1 at *
   generalize ids[k]=x at *
   cases hs:(get m1 x).isSome with
   | true =>
    rw [hs] at HCS
    have hsF:Hid ((get m1 x).isSome=true):=zh hs
    clear hs
    go_wp2_with (first | (go_at_call 33; refine c1.mono ?_; rintro e w2 ⟨rfl,rfl⟩) | (go_at_call 37; refine CD.out.mono ?_; rintro e w3 ⟨rfl,F1b,hX3,hC3⟩; rw [hsF.out]; have HX3:=zh hX3; have HC3:=zh hC3; clear hX3 hC3))
    go_roundw
    case rel=>exact ⟨k+1,F1b,by omega,by go_num,by rw [HCS.out]; simp,by rw [HDS.out]; exact HX3,zh (hC.out.trans HC3.out (fun x hx=>.inl hx))⟩
    case measure=>simp [intOf]; omega
   | false =>
    rw [hs] at HCS
    have hsF:Hid ((get m1 x).isSome=false):=zh hs
    clear hs
    go_wp2_with (first | (go_at_call 33; refine c1.mono ?_; rintro e w2 ⟨rfl,rfl⟩) | (go_at_call 37; refine CD.out.mono ?_; rintro e w3 ⟨rfl,F1b,hX3,hC3⟩; rw [hsF.out]; have HX3:=zh hX3; have HC3:=zh hC3; clear hX3 hC3))
    go_roundw
    case rel=>exact ⟨k+1,F1b,by omega,by go_num,by rw [HCS.out]; simp,by rw [HDS.out]; exact HX3,zh (hC.out.trans HC3.out (fun x hx=>.inl hx))⟩
    case measure=>simp [intOf]; omega
  ·obtain rfl:k=n:=by omega
   have e1:ids.take k=ids:=by rw [← HN.out]; exact List.take_length
   rw [e1] at hX
   rw [e1]
   have FIN:Hid (DropsP w X cn M1 M2 F2 l ids (.returned (.int .i64 (cntD l ids:Nat))) wr):=zh ⟨F1',rfl,hX.out,hC.out⟩
   clear hX hC
   go_wp2
   go_ret
   exact FIN.out
end Go.Proofs.YtlfpfkallgkjdaaGreat.Al
end
