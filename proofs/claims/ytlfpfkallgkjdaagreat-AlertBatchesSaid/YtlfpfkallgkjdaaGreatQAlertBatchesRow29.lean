/- alert.drop, put: the walks (printed by gen_alb.py). -/
import Derived.Sort.OwnSortedInts
import Derived.Maps.RangeWalk
import Derived.Maps.OwnOps
import Derived.Maps.AppendAt
import Derived.Test.YtlfpfkallgkjdaaGreatQAlertBatchesRow15
import Derived.Test.YtlfpfkallgkjdaaGreatQAlertBatchesRow0
import Derived.Test.YtlfpfkallgkjdaaGreatQAlertBatchesRow34
import Derived.Test.YtlfpfkallgkjdaaGreatQAlertBatchesRow4
import Derived.Test.YtlfpfkallgkjdaaGreatQAlertBatchesRow2
set_option linter.unusedSimpArgs false
set_option linter.unusedVariables false
set_option maxRecDepth 20000
section
namespace Go.Proofs.YtlfpfkallgkjdaaGreat.Al
open Go.RowKit Go.Maps Ut Tk Qy Qp Ev Mv
def DropP (w:World) (X cn M1 M2:Nat) (F2:ByteArray→Option Nat) (l:List (Int × Kp)) (i:Int) (e:Ending) (w':World):Prop :=
 e=.returned (.bool (get l i).isSome)∧∃ F1',AlX w' X cn M1 M2 F1' F2 (drop l i)∧Chg (Own M1 M2 F2) w w'
theorem KpV.blk_sc {w:World} {k:Kp} {v:Value} (h:KpV w k v) {O:Nat→Prop} {w':World} (hc:Chg O w w') (hO:∀ b,O b→¬ Sc w b):KpV w' k v:=h.chg hc hO
theorem looks {κ:Type} {P:Program} {k t e:TypeId} {L:KeyLit κ} {w:World} {b n:Nat} {f : κ→Option Value} (h:MapV P k L w b n f) (K:Keyed P k) (ht:P.underlying t=some (.map k e)) {z:Value} (hz:∀ w,(zeroValue e).run P w=.ok z w) (s : κ) (hkey:keyOf P k (L.val s)=some (L.lit s)) {u:Value} (hu:(f s).getD z=u) :
  ∀ wx,Below w.heap.size w wx→(Instr.lookup t (.map (some b)) (L.val s) false).run P wx=.ok u wx:=fun wx hb=>by
 have:=(h.below hb).look K ht (hz wx) s hkey
 rw [hu] at this
 exact this
theorem looksS {P:Program} {k t e:TypeId} {w:World} {b n:Nat} {f:ByteArray→Option Value} (h:MapV P k litS w b n f) (K:Keyed P k) (ht:P.underlying t=some (.map k e)) {z:Value} (hz:∀ w,(zeroValue e).run P w=.ok z w) (s:ByteArray) (hkey:keyOf P k (litS.val s)=some (litS.lit s)) {u:Value} (hu:(f s).getD z=u) :
  ∀ wx,Below w.heap.size w wx→(Instr.lookup t (.map (some b)) (.string s) false).run P wx=.ok u wx:=looks h K ht hz s hkey hu
theorem looksI {P:Program} {k t e:TypeId} {w:World} {b n:Nat} {f:Int→Option Value} (h:MapV P k litI w b n f) (K:Keyed P k) (ht:P.underlying t=some (.map k e)) {z:Value} (hz:∀ w,(zeroValue e).run P w=.ok z w) (s:Int) (hkey:keyOf P k (litI.val s)=some (litI.lit s)) {u:Value} (hu:(f s).getD z=u) :
  ∀ wx,Below w.heap.size w wx→(Instr.lookup t (.map (some b)) (.int .i64 s) false).run P wx=.ok u wx:=looks h K ht hz s hkey hu
set_option maxHeartbeats 3200000 in
theorem drop_any {w:World} {X cn M1 M2:Nat} {F1:Int→Option Value} {F2:ByteArray→Option Nat} {l:List (Int × Kp)} (i:Int) (hi:I64 i) (h:AlX w X cn M1 M2 F1 F2 l) :
  Calls Tryz.prog 37 #[.pointer (some ⟨X,0,none⟩),.int .i64 i] w (DropP w X cn M1 M2 F2 l i):=by
 have q0:=h.c0
 have HKI:=zh (keyI hi)
 have H:=zh h
 cases hg:get l i with
 | none =>
  have hF:=h.al.kn i hg
  have hb:=(Below.refl w.heap.size w).alloc (zG _) (.cells #[.string ⟨#[]⟩,.int .i64 0,.string ⟨#[]⟩,.slice none 0 0,.slice none 0 0,.slice none 0 0] 92)
  have FIN:=zh (show DropP w X cn M1 M2 F2 l i (.returned (.bool false)) _ from ⟨by rw [hg]; rfl,F1,by rw [drop_no hg]; exact h.below hb,Chg.of_new hb⟩)
  clear hb h hg
  go_enter Tryz.func37,Tryz.ntmps37
  go_wp2_with (first
   | (at_lookup; refine wpList_look2_v rfl (.tmp 11) (.tmp 12) 83 92 rfl lawI Tryz.underlying83 (Tryz.zeroValue92 _) M1 l.length F1 rfl H.out.al.m1.v i rfl HKI.out (.agg #[.string ⟨#[]⟩,.int .i64 0,.string ⟨#[]⟩,.slice none 0 0,.slice none 0 0,.slice none 0 0]) false (by rw [hF]; rfl) (by rw [hF]; rfl) ?_)
   | go_in)
  go_ret
  exact FIN.out
 | some k =>
  obtain ⟨v,hFv,hkv⟩:=h.al.kv i k hg
  obtain ⟨m,hm⟩:=h.al.has hg
  obtain ⟨A1,n1,c1,A2,n2,c2,A,c,rfl,_,_⟩:=hkv.parts
  have hko:=h.al.ok _ (get_mem hg)
  have hfs:(first k).size≤65:=hko.first
  have HG:=zh hg
  have HKV:=zh hkv
  have HM:=zh hm
  have hks:keyOf Tryz.prog 9 (litS.val (first k))=some (litS.lit (first k)):=keyS (by unfold maxLen; omega)
  have HKS:=zh hks
  have HFV:Hid (F1 i=some _):=zh hFv
  clear hko hfs hm hkv hg h hks hFv
  generalize hnn:k.needs.length=nn at *
  generalize htx:k.text=tx at *
  generalize hqk:k.q.kind=qk at *
  generalize hqn:k.q.name=qn at *
  clear hnn htx hqk hqn
  have hb:=(Below.refl w.heap.size w).alloc (zG _) (.cells #[.string tx,.int .i64 qk,.string qn,.slice A1 n1 c1,.slice A2 n2 c2,.slice A nn c] 92)
  have hbx:=Blk.new w 92 #[.string tx,.int .i64 qk,.string qn,.slice A1 n1 c1,.slice A2 n2 c2,.slice A nn c]
  have H1:=zh (H.out.below hb)
  have HB:=zh hb
  have HBX:=zh hbx
  have hz:w.heap.size<(w.alloc (.cells #[.string tx,.int .i64 qk,.string qn,.slice A1 n1 c1,.slice A2 n2 c2,.slice A nn c] 92)).heap.size:=by simp
  clear hb hbx
  go_enter Tryz.func37,Tryz.ntmps37
  go_upto_region 4 with (first
   | (at_lookup; refine wpList_look2_v rfl (.tmp 11) (.tmp 12) 83 92 rfl lawI Tryz.underlying83 (Tryz.zeroValue92 _) M1 l.length F1 rfl H.out.al.m1.v i rfl HKI.out (.agg #[.string tx,.int .i64 qk,.string qn,.slice A1 n1 c1,.slice A2 n2 c2,.slice A nn c]) true (by rw [HFV.out]; rfl) (by rw [HFV.out]; rfl) ?_)
   | go_in)
  generalize w.alloc (.cells #[.string tx,.int .i64 qk,.string qn,.slice A1 n1 c1,.slice A2 n2 c2,.slice A nn c] 92)=w1 at *
  clear q0
  have q0:=H1.out.c0
  go_upto_region 5 with (first
   | (at_delete; refine wpList_del_z rfl (.tmp 21) (.tmp 22) 83 92 rfl lawI Tryz.underlying83 M1 l.length F1 rfl H1.out.al.m1 i rfl HKI.out ?_; intro w3 hm3 hg3)
   | go_in)
  clear q0
  rw [HFV.out] at hm3
  simp only [Option.isSome_some,if_true] at hm3
  have hXM:X≠M1:=fun e=>H1.out.notX (.inl e)
  have hgM:w.heap.size≠M1:=fun e=>(H1.out.al.noSc M1 (.inl rfl)) (e ▸ Al.blk_sc HBX.out)
  have hX3:Blk w3 X 86 #[.map (some M1),.map (some M2)]:=(hg3.block X H1.out.blk.lt (fun e=>by injection e with e; exact hXM e)).trans H1.out.blk
  have hB3:Blk w3 w.heap.size 92 #[.string tx,.int .i64 qk,.string qn,.slice A1 n1 c1,.slice A2 n2 c2,.slice A nn c]:=(hg3.block _ hz (fun e=>by injection e with e; exact hgM e)).trans HBX.out
  have hm2:=H1.out.al.m2.kept hg3 (fun e=>by injection e with e; exact H1.out.al.n12 e.symm)
  have C03:Chg (Own M1 M2 F2) w w3:=(Chg.of_new HB.out).trans (O':=Own M1 M2 F2) (Chg.of_grown hg3 (fun b hb=>by injection hb with hb; exact .inl hb.symm)) (fun x hx=>.inl hx)
  have hkv3:=HKV.out.chg C03 H.out.al.noSc
  have hs3:=C03.size
  have Hcells:Hid (∀ wx,Below w3.heap.size w3 wx→wx.cell? ⟨X,1,none⟩=some (.map (some M2))∧wx.cell? ⟨w.heap.size,0,none⟩=some (.string tx)∧wx.cell? ⟨w.heap.size,1,none⟩=some (.int .i64 qk)∧wx.cell? ⟨w.heap.size,2,none⟩=some (.string qn)∧wx.cell? ⟨w.heap.size,3,none⟩=some (.slice A1 n1 c1)∧wx.cell? ⟨w.heap.size,4,none⟩=some (.slice A2 n2 c2)∧wx.cell? ⟨w.heap.size,5,none⟩=some (.slice A nn c)):=zh (fun wx hb=>by
   have k1:=(hX3.below hb hX3.lt).cell 1
   have r:=hB3.below hb hB3.lt
   have r0:=r.cell 0
   have r1:=r.cell 1
   have r2:=r.cell 2
   have r3:=r.cell 3
   have r4:=r.cell 4
   have r5:=r.cell 5
   simp only [zA,zB,zC] at k1 r0 r1 r2 r3 r4 r5
   exact ⟨k1,r0,r1,r2,r3,r4,r5⟩)
  have HLK:=zh (looksS hm2 lawS Tryz.underlying84 Tryz.zeroValue106 (first k) HKS.out (u:=.map (some m)) (by unfold F2v; rw [HM.out]; rfl))
  have CF:Hid (∀ wx,Below w3.heap.size w3 wx→Calls Tryz.prog 66 #[.agg #[.string tx,.int .i64 qk,.string qn,.slice A1 n1 c1,.slice A2 n2 c2,.slice A nn c]] wx fun e w'=>e=.returned (.string (first k))∧Below wx.heap.size wx w'):=zh (fun wx hb=>first_any (hkv3.chg (O:=fun _=>False) (Chg.of_new hb) (fun _ h=>h.elim)))
  have HM3:=zh hm3
  have HG3:=zh hg3
  have HC3:=zh C03
  have HX3:=zh hX3
  generalize hfk:first k=fk at *
  have HFK:=zh hfk
  clear hfk hm3 hg3 C03 hX3 hB3 hm2 hkv3 hXM hgM
  refine wp_region_grow_tail 8 (specOf [(5,⟨Unit,fun _=>.string fk,fun _ _=>True⟩)]) (fun wx=>Below w3.heap.size w3 wx) (fun w1 w2=>Below w1.heap.size w1 w2) (by kernel_rfl) (by kernel_rfl) (stab_cons (fun x wa wb hg h=>trivial) (stab_nil)) ((Below.refl _ _).drew) ?_
  simp only [List.take_succ_cons,List.take_zero,List.drop_succ_cons,List.drop_zero]
  iterate 5
   refine grow_fix _ ?_ rfl (by rfl) (by rfl) (fun wx hC hD=>?_) ?_
   rotate_left
   ·have hSw:=Hcells.out wx hC
    go_simp
    all_goals with_reducible rfl
   try simp only [Act.put,zD,zE,zF]
  refine grow_give 6 _ rfl (by rfl) (by rfl) (fun wx hC hD=>?_) (fun x=>?_)
  ·refine give_enter (f:=?_) (args:=?_) ?_ ?_
   rotate_left 2
   ·have hSw:=Hcells.out wx hC
    go_simp
    all_goals first | with_reducible rfl | (refine ⟨?_,?_⟩ <;> with_reducible rfl)
   refine (CF.out wx hC).mono ?_
   rintro e w9 ⟨rfl,hb9⟩
   exact ⟨_,rfl,hb9,hC.trans (hb9.mono hC.size),(),rfl,trivial⟩
  obtain ⟨⟩:=x
  try simp only [Act.put,zD,zE,zF]
  refine grow_fix 7 ?_ rfl (by rfl) (by rfl) (fun wx hC hD=>?_) ?_
  rotate_left
  ·have hlk:=HLK.out wx hC
   have hSw:=Hcells.out wx hC
   go_simp
   all_goals with_reducible rfl
  try simp only [Act.put,zD,zE,zF]
  refine grow_fix 8 ?_ rfl (by rfl) (by rfl) (fun wx hC hD=>?_) ?_
  rotate_left
  ·have hSw:=Hcells.out wx hC
   go_simp
   all_goals with_reducible rfl
  try simp only [Act.put,zD,zE,zF]
  refine grow_nil (fun w5 hC hF=>?_)
  have hs5:=hC.size
  obtain ⟨f,hf,hfi⟩:=H.out.al.sub fk m HM.out
  have hmM:=H.out.al.n1 fk m HM.out
  have hml:=(mo_v hf).lt
  have k13:∀ b,b<w.heap.size→b≠M1→w5.heap[b]?=w.heap[b]?:=fun b hb hne=>by
   have e1:=HB.out.block b hb
   have e2:=HG3.out.block b (by have:=HB.out.size; omega) (fun e=>by injection e with e; exact hne e)
   have e3:=hC.block b (by have:=HB.out.size; have:=HG3.out.size; omega)
   exact e3.trans (e2.trans e1)
  have hf5:=hf.same (k13 m hml hmM.1)
  have HF5:=zh hf5
  have HFI:=zh hfi
  have HMM:=zh hmM
  have K13:=zh k13
  have HC5:=zh hC
  clear hF hC hf5 hf hfi hmM k13
  try simp only [List.drop_succ_cons,List.drop_zero]
  refine wpList_del_v rfl (.tmp 29) (.tmp 30) 106 100 rfl lawI Tryz.underlying106 m cn f rfl HF5.out i rfl HKI.out (fun w6 hm6 hg6=>?_)
  have hml2:M1<w5.heap.size:=by have:=HM3.out.lt; omega
  have hfin:DropP w X cn M1 M2 F2 l i (.returned (.bool true)) w6:=by
   have hc56:Chg (Own M1 M2 F2) w w6:=(HC3.out.then_new HC5.out).trans (O':=Own M1 M2 F2) (Chg.of_grown hg6 (fun b hb=>by injection hb with hb; exact .inr (.inr ⟨fk,by rw [HM.out,hb]⟩))) (fun x hx=>.inl hx)
   have k6:∀ b,b<w.heap.size→b≠M1→b≠m→w6.heap[b]?=w.heap[b]?:=fun b hb h1 h2=>(hg6.block b (by omega) (fun e=>by injection e with e; exact h2 e)).trans (K13.out b hb h1)
   have hX6:Blk w6 X 86 #[.map (some M1),.map (some M2)]:=blk_chg H.out.blk hc56 H.out.al.noSc
   refine ⟨by rw [HG.out]; rfl,delV F1 i,⟨hX6,?_⟩,hc56⟩
   have hM:=HM.out
   rw [← HFK.out] at hM
   refine H.out.al.del HG.out hM hc56 ?_ (k6 M2 (mo_v H.out.al.m2).lt (fun e=>H.out.al.n12 e.symm) (fun e=>HMM.out.2 e.symm)) ⟨delV f i,hm6,fun j=>?_⟩ (fun s m' hs hs'=>?_)
   ·exact (HM3.out.below HC5.out).kept hg6 (fun e=>by injection e with e; exact HMM.out.1 e.symm)
   ·have:=HFI.out j
    rw [HFK.out]
    show (delV f i j).isSome=true↔j≠i∧Und l fk j
    rw [← this]
    unfold delV
    by_cases e:j=i
    ·simp [e]
    ·simp [e]
   ·exact k6 m' ((H.out.al.sub s m' hs').mo).lt (H.out.al.n1 s m' hs').1 (fun e=>hs (H.out.al.apart s _ m (by rw [← e]; exact hs') hM))
  have FIN:=zh hfin
  clear hfin hm6 hg6
  try simp only [Act.put]
  go_wp2
  go_ret
  exact FIN.out
end Go.Proofs.YtlfpfkallgkjdaaGreat.Al
end

section
namespace Go.Proofs.YtlfpfkallgkjdaaGreat.Al
open Go.RowKit Go.Maps Go.Sort Ut Tk Qy Qp Ev Mv
theorem int_info:(Tryz.prog.info? 3).map (fun i=>(i.zero,i.size,i.bytes))=some (some (.int .i64 0),1,8):=by kernel_rfl
theorem sortI_own {w:World} {base:Nat} {v:Value} {L:List Int} (h:w.ownsRow base 3 1 v L.length (itv L)) (hl:L.length≤4294967296) :
  Calls Tryz.prog 43 #[v] w fun e w'=>e=.returned (.tuple #[])∧w'.ownsRow base 3 1 v L.length (itv (L.mergeSort fun x y=>decide (x≤y)))∧w.grownBy w' v.ownBlock:=by
 rcases h.2 with ⟨hnil,h0⟩ | ⟨g,cap,cur,hv,hbase,hb,h1,h2,h3,h4⟩
 ·subst hnil
  have hL:L=[]:=List.length_eq_zero_iff.1 h0
  subst hL
  refine (Tryz.slices_Sort_int_none none 0 w).mono ?_
  rintro e w2 ⟨rfl,rfl⟩
  exact ⟨rfl,by simpa using h,grownBy_refl _ _⟩
 ·subst hv
  have hgl:g<w.heap.size:=(Array.getElem?_eq_some_iff.1 hb).1
  have hH:Holds (Value.int .i64) w g 0 L.toArray:=holds_of_blockI hb (by simpa [itv] using h4)
  refine (Tryz.slices_Sort_int g 0 cap L w hH hgl (by omega)).mono ?_
  rintro e w2 ⟨rfl,n,os,rfl⟩
  exact ⟨rfl,ownsRow_sortedI (by simp) hbase hb h1 h2 h3,grownBy_sortedI _⟩
structure WayK {κ:Type} (L:KeyLit κ) (D:DataW Value) (F : κ→Option Value) (left:Lit→Bool) (l:List κ):Prop where
 got:∀ s∈l,(F s).isSome=true∧left (L.lit s)=false
 rest:∀ s,(F s).isSome=true→left (L.lit s)=true∨s∈l
 nd:l.Nodup
 ofD:∀ kl,left kl=true→Maps.has D kl=true
theorem WayK.start {D:DataW Value} {κ:Type} {L:KeyLit κ} {F : κ→Option Value} (h:TabV L D F):WayK L D F (Maps.has D) [] :=
 ⟨fun x hx=>(nomatch hx),fun s e=>.inl (by rw [h.has,e]),List.nodup_nil,fun _ h=>h⟩
theorem WayK.step {D:DataW Value} {κ:Type} [DecidableEq κ] {L:KeyLit κ} {F : κ→Option Value} {left:Lit→Bool} {l:List κ} (h:WayK L D F left l) (hD:TabV L D F) {s : κ} (hl:left (L.lit s)=true) :
  (F s).isSome=true∧s ∉ l∧WayK L D F (fun z=>left z && !z.sameKey (L.lit s)) (l ++ [s]):=by
 have hs:(F s).isSome=true:=by
  have h1:=hD.has s
  rw [h.ofD _ hl] at h1
  exact h1.symm
 have hn:s ∉ l:=fun hm=>by
  have:=(h.got s hm).2
  rw [hl] at this
  cases this
 refine ⟨hs,hn,fun x hx=>?_,fun t ht=>?_,?_,fun kl hk=>h.ofD kl (by rw [Bool.and_eq_true] at hk; exact hk.1)⟩
 ·rcases List.mem_append.1 hx with hx | hx
  ·exact ⟨(h.got x hx).1,by rw [(h.got x hx).2]; rfl⟩
  ·rw [List.mem_singleton] at hx
   subst hx
   exact ⟨hs,by rw [same_dec L]; simp⟩
 ·rcases h.rest t ht with h1 | h1
  ·by_cases e:t=s
   ·exact .inr (by rw [e]; simp)
   ·left
    rw [h1,same_dec L,decide_eq_false e]
    rfl
  ·exact .inr (List.mem_append_left _ h1)
 ·rw [List.nodup_append]
  exact ⟨h.nd,by simp,fun a ha b hb e=>by rw [List.mem_singleton] at hb; rw [e,hb] at ha; exact hn ha⟩
theorem WayK.fin {D:DataW Value} {κ:Type} {L:KeyLit κ} {F : κ→Option Value} {left:Lit→Bool} {l:List κ} (h:WayK L D F left l) (h0:∀ kl,left kl=false):∀ s,s∈l↔(F s).isSome=true:=fun s =>
 ⟨fun hs=>(h.got s hs).1,fun hs=>by
  rcases h.rest s hs with h1 | h1
  ·rw [h0] at h1; cases h1
  ·exact h1⟩
theorem keyI_inv {key:Value} {kl:Lit} (h:keyOf Tryz.prog 3 key=some kl):∃ i:Int,key=.int .i64 i∧kl=litI.lit i∧I64 i:=by
 obtain ⟨x,e1,e2,e3⟩:=Maps.keyOf_int_inv Tryz.underlying3 h
 exact ⟨x,e1,e2,e3⟩
theorem keyS_inv {key:Value} {kl:Lit} (h:keyOf Tryz.prog 9 key=some kl):∃ s:ByteArray,key=.string s∧kl=litS.lit s∧s.size≤maxLen:=by
 have hk:=Tryz.underlying9
 cases key <;> simp [keyOf,hk,mapKey] at h
 exact ⟨_,rfl,h.2.symm,h.1⟩
def NumsP (w:World) (L:List Int) (e:Ending) (w':World):Prop:=∃ v,e=.returned v∧w'.ownsRow w.heap.size 3 1 v L.length (itv L)∧Below w.heap.size w w'
theorem ids_mem {κ:Type}:∀ (l:List (Int × κ)) (i:Int),i∈l.map (·.1)↔(get l i).isSome=true
 | [],i=>by simp [get]
 | x :: l,i=>by
  have ih:=ids_mem l i
  rw [List.map_cons,List.mem_cons,ih,get_cons]
  by_cases h:x.1=i
  ·simp [h]
  ·rw [if_neg h]
   constructor
   ·rintro (e | e)
    ·exact absurd e.symm h
    ·exact e
   ·exact .inr
section
variable {w:World} {X cn M1 M2:Nat} {F1:Int→Option Value} {F2:ByteArray→Option Nat} {l:List (Int × Kp)}
theorem mapz_len {κ:Type} {P:Program} {k:TypeId} {L:KeyLit κ} {b n:Nat} {f : κ→Option Value} (h:MapZ P k L w b n f) {t e:TypeId} (ht:P.underlying t=some (.map k e)) (ty:TypeId):(Builtin.len_ #[t] ty #[.map (some b)]).run P w=.ok (.int .i64 (n:Nat)) w:=by
 obtain ⟨D,h1,h2,h3⟩:=h.ex
 rw [h1.len ht ty,h3]
theorem len_any (h:AlX w X cn M1 M2 F1 F2 l):Calls Tryz.prog 11 #[.pointer (some ⟨X,0,none⟩)] w fun e w'=>e=.returned (.int .i64 (l.length:Nat))∧w'=w:=by
 have c0:=h.c0
 have c1:=none_no c0
 have hl:=fun ty=>mapz_len h.al.m1 Tryz.underlying83 ty
 clear h
 go_enter Tryz.func11,Tryz.ntmps11
 go_wp2_with fail
 refine c1.mono ?_
 rintro e w2 ⟨rfl,rfl⟩
 clear c1
 go_wp2
 go_ret
 exact ⟨rfl,rfl⟩
end
end Go.Proofs.YtlfpfkallgkjdaaGreat.Al
end

section
namespace Go.Proofs.YtlfpfkallgkjdaaGreat.Al
open Go.RowKit Go.Maps Go.Sort Ut Tk Qy Qp Ev Mv
theorem mk4 (w:World):(Instr.makeMap 101 none).run Tryz.prog w=.ok (.map (some w.heap.size)) (w.alloc (.map #[] 0)):=rfl
theorem range_nil (w:World):(Instr.range 106 (.map none)).run Tryz.prog w=.ok (.pointer (some ⟨w.heap.size,0,none⟩)) (w.alloc (.mapIter none 0 #[] 0)):=rfl
theorem next_nil {w:World} {r:Nat} (h:w.heap[r]?=some (.mapIter none 0 #[] 0)) (ty:TypeId):(Instr.next (.pointer (some ⟨r,0,none⟩)) false ty).run Tryz.prog w=.ok (.tuple #[.bool false]) w:=by
 have hr:(getObj r).run Tryz.prog w=.ok (.mapIter none 0 #[] 0) w:=by simp [getObj,Sem.run,h]
 simp [Instr.next,hr,Result.andThen]
theorem field_needs (tx qn:ByteArray) (qk:Int) (A1 A2 A:Option Addr) (n1 c1 n2 c2 n c:Nat) (w:World):(Instr.field 92 (.agg #[.string tx,.int .i64 qk,.string qn,.slice A1 n1 c1,.slice A2 n2 c2,.slice A n c]) 2).run Tryz.prog w=.ok (.slice A n c) w:=by kernel_rfl
theorem field_q (tx qn:ByteArray) (qk:Int) (A1 A2 A:Option Addr) (n1 c1 n2 c2 n c:Nat) (w:World):(Instr.field 92 (.agg #[.string tx,.int .i64 qk,.string qn,.slice A1 n1 c1,.slice A2 n2 c2,.slice A n c]) 1).run Tryz.prog w=.ok (.agg #[.int .i64 qk,.string qn,.slice A1 n1 c1,.slice A2 n2 c2]) w:=by kernel_rfl
theorem near1_any {w:World} {G H cn:Nat} {f:ByteArray→Option Value} (s:ByteArray) (hs:s.size≤maxLen) (hG:w.cell? ⟨G,0,none⟩=some (.map (some H))) (hu:∀ s v,f s=some v→v=.agg #[]) (h:MapV Tryz.prog 9 litS w H cn f) :
  Calls Tryz.prog 42 #[.string s,.pointer (some ⟨G,0,none⟩)] w fun e w'=>e=.returned (.bool (!(f s).isSome))∧Below w.heap.size w w':=by
 have HKS:=zh (keyS hs)
 have Hb:=zh ((Below.refl w.heap.size w).alloc (zG _) (.cells #[] 100))
 have hz:(f s).getD (.agg #[])=.agg #[]:=by
  cases e:f s with
  | none=>rfl
  | some v=>rw [hu s v e]; rfl
 obtain ⟨ok,hok⟩:∃ ok,(f s).isSome=ok:=⟨_,rfl⟩
 rw [hok]
 have HZ:=zh hz
 have HOK:=zh hok
 have HM:=zh h
 clear hz hok h
 go_enter Tryz.func42,Tryz.ntmps42
 go_wp2_with (first
  | (at_lookup; refine wpList_look2_v rfl (.tmp 7) (.tmp 8) 101 100 rfl lawS Tryz.underlying101 (Tryz.zeroValue100 _) H cn f rfl HM.out s rfl HKS.out (.agg #[]) ok HZ.out HOK.out ?_)
  | go_in)
 go_ret
 exact ⟨rfl,Hb.out⟩
def hasK (fs:List Fl) (s:ByteArray):Bool:=decide (s=ByteArray.empty) || hasT fs s
structure HasM (w:World) (G H cn:Nat) (p:ByteArray→Prop):Prop where
 box:Blk w G 101 #[.map (some H)]
 map:∃ f,MapV Tryz.prog 9 litS w H cn f∧(∀ s v,f s=some v→v=.agg #[])∧∀ s,(f s).isSome=true↔p s
theorem HasM.below {w w':World} {G H cn:Nat} {p:ByteArray→Prop} (h:HasM w G H cn p) (hb:Below w.heap.size w w'):HasM w' G H cn p:=by
 obtain ⟨f,h1,h2⟩:=h.map
 exact ⟨h.box.below hb h.box.lt,f,h1.below hb,h2⟩
theorem near_has {k:Kp} (hk:KOk k) (fs:List Fl):nearB (hasK fs) k=nearB (hasT fs) k:=by
 unfold nearB
 rw [Bool.eq_iff_iff,List.all_eq_true,List.all_eq_true]
 have hne:∀ t∈k.needs,t≠ByteArray.empty:=fun t ht e=>needs_ne k.q (by rw [← hk.nd,← e]; exact ht)
 constructor
 ·intro h t ht
  have:=h t ht
  unfold hasK at this
  rw [Bool.or_eq_true,decide_eq_true_eq] at this
  exact this.resolve_left (hne t ht)
 ·intro h t ht
  unfold hasK
  rw [h t ht]; simp
def NearU (fs:List Fl) (l:List (Int × Kp)) (s:ByteArray) (i:Int):Prop:=∃ k,get l i=some k∧first k=s∧nearB (hasK fs) k=true
theorem nearU_all {fs:List Fl} {l:List (Int × Kp)} (hu:UpI l) (hok:∀ x∈l,KOk x.2) (i:Int):(∃ s,hasK fs s=true∧NearU fs l s i)↔i∈nearL (hasT fs) l:=by
 rw [nearL_mem hu]
 constructor
 ·rintro ⟨s,hs,k,h1,h2,h3⟩
  exact ⟨k,h1,by rw [← near_has (hok _ (get_mem h1))]; exact h3⟩
 ·rintro ⟨k,h1,h2⟩
  refine ⟨first k,?_,k,h1,rfl,by rw [near_has (hok _ (get_mem h1))]; exact h2⟩
  unfold hasK
  rcases near_first h2 with e | e
  ·rw [e]; simp
  ·rw [e]; simp
theorem any_range {T:List ByteArray} (g:ByteArray→Bool) (p:Nat→Bool) (hp:∀ i (h:i<T.length),p i=!g T[i]):((List.range T.length).any p)=!(T.all g):=by
 rw [Bool.eq_iff_iff,List.any_eq_true,Bool.not_eq_true',← Bool.not_eq_true,List.all_eq_true]
 constructor
 ·rintro ⟨i,hi,h⟩ hall
  rw [List.mem_range] at hi
  rw [hp i hi,hall _ (List.getElem_mem hi)] at h
  cases h
 ·intro h
  refine Classical.byContradiction fun hc=>h (fun x hx=>?_)
  obtain ⟨i,hi,rfl⟩:=List.mem_iff_getElem.1 hx
  refine Classical.byContradiction fun hn=>hc ⟨i,List.mem_range.2 hi,?_⟩
  rw [hp i hi]
  simpa using hn
theorem needs_in {w:World} {G H cn:Nat} {fs:List Fl} {k:Kp} {A:Option Addr} {c:Nat} (hM:HasM w G H cn (fun s=>hasK fs s=true)) (hk:KOk k) (hR:ReadsS w (Sc w) 1 A k.needs.length (bsv k.needs)) :
  Calls Tryz.prog 41 #[.slice A k.needs.length c,.func (.func 42) #[] #[.pointer (some ⟨G,0,none⟩)]] w fun e w'=>e=.returned (.bool (!nearB (hasK fs) k))∧Below w.heap.size w w':=by
 obtain ⟨f,h1,h2,h3⟩:=hM.map
 have hfew:=hk.few
 have hg0:=hM.box.cell 0
 simp only [zA,zB] at hg0
 have hc:=containsStr A k.needs.length c k.needs 42 #[.pointer (some ⟨G,0,none⟩)] (fun i=>!((f (k.needs.getD i ByteArray.empty)).isSome)) w (callFunc_enter Tryz.func42 (by kernel_rfl) rfl) (hR.reads (fun b hb=>hb.lt)) rfl (by omega) (fun i hi wx hb=>by
  have hb0:=(hM.box.below hb hM.box.lt).cell 0
  simp only [zA,zB] at hb0
  have:=near1_any (G:=G) (H:=H) (cn:=cn) (f:=f) k.needs[i] (by have:=hk.short _ (List.getElem_mem hi); unfold maxLen; omega) hb0 h2 (h1.below hb)
  rw [List.getD_eq_getElem?_getD,List.getElem?_eq_getElem hi]
  exact this)
 rw [any_range (hasK fs) _ (fun i hi=>by
  rw [List.getD_eq_getElem?_getD,List.getElem?_eq_getElem hi]
  show (!(f k.needs[i]).isSome)=_
  congr 1
  rw [Bool.eq_iff_iff]
  exact h3 _)] at hc
 exact hc
end Go.Proofs.YtlfpfkallgkjdaaGreat.Al
end

section
namespace Go.Proofs.YtlfpfkallgkjdaaGreat.Gi
open Go.RowKit Ut Tk Qy Ev Ph
structure EvtAt (w:World) (F:Option Addr) (fn:Nat) (fs:List (ByteArray × ByteArray)):Prop where
 rd:Reads w w.heap.size 2 F fn (fldC fs)
 len:fs.length=fn
 few:fn≤8796093021952
def LightP (fs:List Fl):Prop:=fs.length≤20→szF fs<1000
def LightE (fs:List Fl) (e:Ending):Prop:=∃ b:Bool,e=.returned (.bool b)∧(b=true→LightP fs)
set_option maxHeartbeats 6400000 in
theorem lightP_any (t:Int) (F:Option Addr) (fn fc:Nat) (fs:List (ByteArray × ByteArray)) (w:World) (hF:EvtAt w F fn fs) :
  Calls Tryz.prog 14 #[.agg #[.int .i64 t,.slice F fn fc]] w fun e w'=>LightE fs e∧Below w.heap.size w w':=by
 have hb1:Below w.heap.size w (w.alloc (.cells #[.int .i64 t,.slice F fn fc] 33)):=(Below.refl _ _).alloc (zG _) _
 have hB1:=Blk.new w 33 #[.int .i64 t,.slice F fn fc]
 have hz1:w.heap.size<(w.alloc (.cells #[.int .i64 t,.slice F fn fc] 33)).heap.size:=by simp
 have hfew:=hF.few
 have hlen:=hF.len
 have HF:=zh hF
 have Hb1:=zh hb1
 have HB1:=zh hB1
 have Hlen:=zh hlen
 clear hF hb1 hB1 hlen
 go_enter Tryz.func14,Tryz.ntmps14
 go_wp2_with fail
 generalize hw1:(w.alloc (.cells #[.int .i64 t,.slice F fn fc] 33))=w1 at *
 clear hw1
 go_loopw [3,4] (fun v i wr=>∃ (j:Nat) (z:Int),j≤fn∧i=.int .i64 (j:Nat)∧v=.int .i64 z∧0≤z∧z≤3000∧Hid (z<1000→((szF (fs.take j):Nat):Int)=z)∧Below w1.heap.size w1 wr) (fun _ i _=>fn - (intOf i).toNat)
 case atStart=>exact ⟨0,0,Nat.zero_le _,rfl,rfl,by omega,by omega,zh (fun _=>rfl),Below.refl _ _⟩
 case round =>
  obtain ⟨j,z,hj,rfl,rfl,hz0,hz3,HZ,hb⟩:=hrel
  have Hb:=zh hb
  have hls:=(hb.cell (p:=⟨w.heap.size,1,none⟩) (by show w.heap.size < _; exact hz1)).trans (HB1.out.cell 1)
  simp at hls
  by_cases hlt:j<fn
  ·have hji:(j:Int)<(fn:Int):=by omega
   have hji0:(0:Int)≤(j:Int):=by omega
   by_cases h20:(j:Int)<20
   ·by_cases hzz:z<1000
    ·have hjl:j<fs.length:=by rw [Hlen.out]; exact hlt
     obtain ⟨tb,tq,rfl,htb,hd1,hd2⟩:=fields_at HF.out.rd (k:=j) hjl
     have hc1:=((Hb1.out.trans (hb.mono Hb1.out.size)).cell (p:=⟨tb,tq+j * 2,none⟩) htb).trans hd1
     have hc2:=((Hb1.out.trans (hb.mono Hb1.out.size)).cell (p:=⟨tb,tq+j * 2+1,none⟩) htb).trans hd2
     have HS:Hid (szF (fs.take (j+1))=szF (fs.take j)+(fs[j].1.size+fs[j].2.size)):=zh (by rw [List.take_succ_eq_append_getElem hjl,szF_snoc])
     clear hb hlt hd1 hd2
     generalize fs[j].1=s1 at *
     generalize fs[j].2=s2 at *
     go_upto_region 5 with (fail)
     refine wp_region_ph_tail 19 (specOf []) (fun wx=>wx=wr.drew) (fun _=>True) (by kernel_rfl) (by kernel_rfl) (turns_of (by kernel_rfl)) rfl trivial ?_
     refine ph_fix 1 ?_ rfl (by rfl) (by rfl) (fun wx hC=>?_) ?_
     rotate_left
     ·subst hC
      go_simp
      all_goals with_reducible rfl
     try simp only [Act.put,zD,zE,zF]
     refine ph_fix 2 ?_ rfl (by rfl) (by rfl) (fun wx hC=>?_) ?_
     rotate_left
     ·subst hC
      go_simp
      all_goals with_reducible rfl
     try simp only [Act.put,zD,zE,zF]
     refine ph_fix 3 ?_ rfl (by rfl) (by rfl) (fun wx hC=>?_) ?_
     rotate_left
     ·subst hC
      go_simp
      all_goals with_reducible rfl
     try simp only [Act.put,zD,zE,zF]
     refine ph_fix 4 ?_ rfl (by rfl) (by rfl) (fun wx hC=>?_) ?_
     rotate_left
     ·subst hC
      go_simp
      all_goals with_reducible rfl
     try simp only [Act.put,zD,zE,zF]
     refine ph_fix 5 ?_ rfl (by rfl) (by rfl) (fun wx hC=>?_) ?_
     rotate_left
     ·subst hC
      go_simp
      all_goals with_reducible rfl
     try simp only [Act.put,zD,zE,zF]
     refine ph_fix 6 ?_ rfl (by rfl) (by rfl) (fun wx hC=>?_) ?_
     rotate_left
     ·subst hC
      go_simp
      all_goals with_reducible rfl
     try simp only [Act.put,zD,zE,zF]
     refine ph_fix 7 ?_ rfl (by rfl) (by rfl) (fun wx hC=>?_) ?_
     rotate_left
     ·subst hC
      go_simp
      all_goals with_reducible rfl
     try simp only [Act.put,zD,zE,zF]
     refine ph_fix 8 ?_ rfl (by rfl) (by rfl) (fun wx hC=>?_) ?_
     rotate_left
     ·subst hC
      go_simp
      all_goals with_reducible rfl
     try simp only [Act.put,zD,zE,zF]
     refine ph_fix 9 ?_ rfl (by rfl) (by rfl) (fun wx hC=>?_) ?_
     rotate_left
     ·subst hC
      go_simp
      all_goals with_reducible rfl
     try simp only [Act.put,zD,zE,zF]
     refine ph_fix 10 ?_ rfl (by rfl) (by rfl) (fun wx hC=>?_) ?_
     rotate_left
     ·subst hC
      go_simp
      all_goals with_reducible rfl
     try simp only [Act.put,zD,zE,zF]
     refine ph_fix 11 ?_ rfl (by rfl) (by rfl) (fun wx hC=>?_) ?_
     rotate_left
     ·subst hC
      go_simp
      all_goals with_reducible rfl
     try simp only [Act.put,zD,zE,zF]
     refine ph_fix 12 ?_ rfl (by rfl) (by rfl) (fun wx hC=>?_) ?_
     rotate_left
     ·subst hC
      go_simp
      all_goals with_reducible rfl
     try simp only [Act.put,zD,zE,zF]
     refine ph_fix 13 ?_ rfl (by rfl) (by rfl) (fun wx hC=>?_) ?_
     rotate_left
     ·subst hC
      go_simp
      all_goals with_reducible rfl
     try simp only [Act.put,zD,zE,zF]
     refine ph_fix 14 ?_ rfl (by rfl) (by rfl) (fun wx hC=>?_) ?_
     rotate_left
     ·subst hC
      go_simp
      all_goals with_reducible rfl
     try simp only [Act.put,zD,zE,zF]
     refine ph_fix 15 ?_ rfl (by rfl) (by rfl) (fun wx hC=>?_) ?_
     rotate_left
     ·subst hC
      go_simp
      all_goals with_reducible rfl
     try simp only [Act.put,zD,zE,zF]
     refine ph_fix 16 ?_ rfl (by rfl) (by rfl) (fun wx hC=>?_) ?_
     rotate_left
     ·subst hC
      go_simp
      all_goals with_reducible rfl
     try simp only [Act.put,zD,zE,zF]
     refine ph_fix 17 ?_ rfl (by rfl) (by rfl) (fun wx hC=>?_) ?_
     rotate_left
     ·subst hC
      go_simp
      all_goals with_reducible rfl
     try simp only [Act.put,zD,zE,zF]
     refine ph_fix 18 ?_ rfl (by rfl) (by rfl) (fun wx hC=>?_) ?_
     rotate_left
     ·subst hC
      go_simp
      all_goals with_reducible rfl
     try simp only [Act.put,zD,zE,zF]
     refine ph_fix 19 ?_ rfl (by rfl) (by rfl) (fun wx hC=>?_) ?_
     rotate_left
     ·subst hC
      go_simp
      all_goals with_reducible rfl
     try simp only [Act.put,zD,zE,zF]
     refine ph_nil (fun w9 hC hI=>?_)
     subst hC
     clear hI
     go_wp2
     go_roundw
     case rel=>exact ⟨j+1,_,by omega,by go_num,rfl,by omega,by omega,zh (fun hz=>by have h1:=HZ.out (by omega); have h2:=HS.out; omega),Hb.out.drew⟩
     case measure=>simp [intOf]; omega
    ·have hzz':(1000:Int)≤z:=by omega
     clear hb hlt
     go_wp2
     go_ret
     exact ⟨⟨_,rfl,fun hb h20=>by first | (exact absurd hb (by decide)) | exact absurd (show z<1000 by simpa using hb) (by omega)⟩,Hb1.out.trans (Hb.out.mono Hb1.out.size)⟩
   ·have h20':(20:Int)≤(j:Int):=by omega
    clear hb hlt
    go_wp2
    go_ret
    exact ⟨⟨_,rfl,fun hb h20=>by
     have hz:z<1000:=by simpa using hb
     have h1:=HZ.out hz
     rw [List.take_of_length_le (by have:=Hlen.out; omega)] at h1
     omega⟩,Hb1.out.trans (Hb.out.mono Hb1.out.size)⟩
  ·have hji:(fn:Int)≤(j:Int):=by omega
   clear hb hlt
   go_wp2
   go_ret
   exact ⟨⟨_,rfl,fun hb h20=>by
    have hz:z<1000:=by simpa using hb
    have h1:=HZ.out hz
    rw [List.take_of_length_le (by have:=Hlen.out; omega)] at h1
    omega⟩,Hb1.out.trans (Hb.out.mono Hb1.out.size)⟩
end Go.Proofs.YtlfpfkallgkjdaaGreat.Gi
end
