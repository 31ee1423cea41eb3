/- alert.New, none, first, drop, put: the walks (printed by gen_ala.py). -/
import Derived.Test.YtlfpfkallgkjdaaGreatQAlertRunsRow28
import Derived.Test.YtlfpfkallgkjdaaGreatQAlertRunsRow0
import Derived.Test.YtlfpfkallgkjdaaGreatQAlertRunsRow4
set_option linter.unusedSimpArgs false
set_option linter.unusedVariables false
set_option maxRecDepth 20000
section
namespace Go.Proofs.YtlfpfkallgkjdaaGreat.Al
open Go.RowKit Go.Maps Ut Tk Qy Qp Ev Mv
theorem lawI:Keyed Tryz.prog 3:=int_keyed Tryz.underlying3
theorem lawS:Keyed Tryz.prog 9:=string_keyed Tryz.underlying9
def I64 (i:Int):Prop:=(Lit.int .i64 i).wf=true
theorem I64.of {i:Int} (h : 0≤i∧i≤999999):I64 i:=by
 unfold I64
 simp [Lit.wf,IntKind.min,IntKind.max,IntKind.signed,IntKind.bits]
 omega
theorem keyI {i:Int} (h:I64 i):keyOf Tryz.prog 3 (litI.val i)=some (litI.lit i):=keyOf_int_mk Tryz.underlying3 h
theorem keyS {s:ByteArray} (h:s.size≤maxLen):keyOf Tryz.prog 9 (litS.val s)=some (litS.lit s):=Go.WideMaps.keyOf_string_mk Tryz.underlying9 h
theorem eq1_some (b:Nat) (w:World):(binOp .eql 83 (.map (some b)) (.map none)).run Tryz.prog w=.ok (.bool false) w:=by kernel_rfl
theorem eq3_some (b:Nat) (w:World):(binOp .eql 106 (.map (some b)) (.map none)).run Tryz.prog w=.ok (.bool false) w:=by kernel_rfl
theorem eq3_none (w:World):(binOp .eql 106 (.map none) (.map none)).run Tryz.prog w=.ok (.bool true) w:=by kernel_rfl
theorem mk1 (w:World):(Instr.makeMap 83 none).run Tryz.prog w=.ok (.map (some w.heap.size)) (w.alloc (.map #[] 0)):=rfl
theorem mk2 (w:World):(Instr.makeMap 84 none).run Tryz.prog w=.ok (.map (some w.heap.size)) (w.alloc (.map #[] 0)):=rfl
theorem mk3 (w:World):(Instr.makeMap 106 none).run Tryz.prog w=.ok (.map (some w.heap.size)) (w.alloc (.map #[] 0)):=rfl
theorem wpList_del_v {κ:Type} [DecidableEq κ] {P:Program} {k:TypeId} {L:KeyLit κ} {w:World} {ops:Array Oper} {rest:List Oper} {o:Oper} {a:Act} {Q:Exit→Act→World→Prop}
  (hg:o.guard=none) (m x:Operand) (t e:TypeId) (hop:o.op=Op.call { callee:=Callee.builtin Builtin.delete,args:=#[m,x],argTypes:=#[t,k] }) (K:Keyed P k) (ht:P.underlying t=some (.map k e)) (b n:Nat) (f : κ→Option Value)
  (hm:a.eval m=.map (some b)) (h:MapV P k L w b n f) (s : κ) (hx:a.eval x=L.val s) (hkey:keyOf P k (L.val s)=some (L.lit s))
  (hK:∀ w',MapV P k L w' b n (delV f s)→w.grownBy w' (some b)→wpList P ops Q rest (a.put o.dst (.tuple #[])) w'):wpList P ops Q (o :: rest) a w:=by
 obtain ⟨D,h1,h2⟩:=h.ex
 exact wpList_delete_own w hg m x t k hop e K ht rawR b n D hm h1 (L.val s) (L.lit s) hx hkey (fun w' ho htr=>hK w' ⟨⟨_,ho,h2.del s⟩⟩ htr.grown)
structure AlX (w:World) (X cn M1 M2:Nat) (F1:Int→Option Value) (F2:ByteArray→Option Nat) (l:List (Int × Kp)):Prop where
 blk:Blk w X 86 #[.map (some M1),.map (some M2)]
 al:AlM w cn M1 M2 F1 F2 l
theorem blk_sc {w:World} {X:Nat} {T:TypeId} {cs:Array Value} (h:Blk w X T cs):Sc w X:=⟨cs,T,_,h⟩
theorem AlX.notX {w:World} {X cn M1 M2:Nat} {F1:Int→Option Value} {F2:ByteArray→Option Nat} {l:List (Int × Kp)} (h:AlX w X cn M1 M2 F1 F2 l):¬ Own M1 M2 F2 X:=fun ho=>h.al.noSc X ho (blk_sc h.blk)
theorem blk_chg {w w':World} {X:Nat} {T:TypeId} {cs:Array Value} {O:Nat→Prop} (h:Blk w X T cs) (hc:Chg O w w') (hO:∀ b,O b→¬ Sc w b):Blk w' X T cs:=(hc.block X h.lt (fun o=>hO X o (blk_sc h))).trans h
theorem AlX.below {w w':World} {X cn M1 M2:Nat} {F1:Int→Option Value} {F2:ByteArray→Option Nat} {l:List (Int × Kp)} (h:AlX w X cn M1 M2 F1 F2 l) (hb:Below w.heap.size w w'):AlX w' X cn M1 M2 F1 F2 l:=⟨h.blk.below hb h.blk.lt,h.al.below hb⟩
theorem AlX.c0 {w:World} {X cn M1 M2:Nat} {F1:Int→Option Value} {F2:ByteArray→Option Nat} {l:List (Int × Kp)} (h:AlX w X cn M1 M2 F1 F2 l):w.cell? ⟨X,0,none⟩=some (.map (some M1)):=by
 have:=h.blk.cell 0
 simpa using this
theorem AlX.c1 {w:World} {X cn M1 M2:Nat} {F1:Int→Option Value} {F2:ByteArray→Option Nat} {l:List (Int × Kp)} (h:AlX w X cn M1 M2 F1 F2 l):w.cell? ⟨X,1,none⟩=some (.map (some M2)):=by
 have:=h.blk.cell 1
 simpa using this
def NewP (w:World) (e:Ending) (w':World):Prop:=∃ X M1 M2,e=.returned (.pointer (some ⟨X,0,none⟩))∧AlX w' X 0 M1 M2 noV (fun _=>none) []∧Below w.heap.size w w'∧w.heap.size≤M1∧w.heap.size≤M2∧w.heap.size≤X
theorem new_any (w:World):Calls Tryz.prog 9 #[] w (NewP w):=by
 have h1:=mk1
 have h2:=mk2
 go_enter Tryz.func9,Tryz.ntmps9
 go_wp2
 go_ret
 have m1:=MapZ.made Tryz.prog 3 litI w
 have m2:=MapV.made Tryz.prog 9 litS (w.alloc (.map #[] 0))
 have b1:Below w.heap.size w (w.alloc (.map #[] 0)):=(Below.refl _ _).alloc (zG _) _
 have b2:Below (w.alloc (.map #[] 0)).heap.size (w.alloc (.map #[] 0)) ((w.alloc (.map #[] 0)).alloc (.map #[] 0)):=(Below.refl _ _).alloc (zG _) _
 have b3:Below ((w.alloc (.map #[] 0)).alloc (.map #[] 0)).heap.size ((w.alloc (.map #[] 0)).alloc (.map #[] 0)) (((w.alloc (.map #[] 0)).alloc (.map #[] 0)).alloc (.cells #[.map (some w.heap.size),.map (some (w.heap.size+1))] 86)):=(Below.refl _ _).alloc (zG _) _
 have hX:=Blk.new ((w.alloc (.map #[] 0)).alloc (.map #[] 0)) 86 #[.map (some w.heap.size),.map (some (w.heap.size+1))]
 have s1:(w.alloc (.map #[] 0)).heap.size=w.heap.size+1:=by simp
 have s2:((w.alloc (.map #[] 0)).alloc (.map #[] 0)).heap.size=w.heap.size+1+1:=by simp
 rw [s1] at m2
 rw [s2] at hX
 have hal:=AlM.empty _ w.heap.size (w.heap.size+1) ((m1.below b2).below b3) (m2.below b3) (by omega)
 exact ⟨w.heap.size+1+1,w.heap.size,w.heap.size+1,rfl,⟨hX,hal⟩,(b1.trans (b2.mono (by omega))).trans (b3.mono (by omega)),zG _,by omega,by omega⟩
set_option maxHeartbeats 400000 in
theorem none_no {w:World} {X M1:Nat} (c0:w.cell? ⟨X,0,none⟩=some (.map (some M1))):Calls Tryz.prog 33 #[.pointer (some ⟨X,0,none⟩)] w fun e w'=>e=.returned (.bool false)∧w=w':=by
 have e1:=fun b=>eq1_some b w
 go_enter Tryz.func33,Tryz.ntmps33
 go_wp2
 go_ret
 exact ⟨rfl,rfl⟩
theorem KpV.parts {w:World} {k:Kp} {v:Value} (h:KpV w k v):∃ A1 n1 c1 A2 n2 c2 A c,v=.agg #[.string k.text,.int .i64 k.q.kind,.string k.q.name,.slice A1 n1 c1,.slice A2 n2 c2,.slice A k.needs.length c]∧QF w (Sc w) k.q [.int .i64 k.q.kind,.string k.q.name,.slice A1 n1 c1,.slice A2 n2 c2]∧ReadsS w (Sc w) 1 A k.needs.length (bsv k.needs):=by
 obtain ⟨a0,a1,a2,a3,A,c,rfl,h1,h2⟩:=h
 obtain ⟨A1,n1,c1,A2,n2,c2,e⟩:=h1.four
 simp only [List.cons.injEq,and_true] at e
 obtain ⟨rfl,rfl,rfl,rfl⟩:=e
 exact ⟨A1,n1,c1,A2,n2,c2,A,c,rfl,h1,h2⟩
set_option maxHeartbeats 800000 in
theorem first_any {w:World} {k:Kp} {v:Value} (h:KpV w k v):Calls Tryz.prog 66 #[v] w fun e w'=>e=.returned (.string (first k))∧Below w.heap.size w w':=by
 obtain ⟨A1,n1,c1,A2,n2,c2,A,c,rfl,_,hR⟩:=h.parts
 clear h
 generalize k.text=tx
 generalize k.q.kind=qk
 generalize k.q.name=qn
 have hb:=(Below.refl w.heap.size w).alloc (zG _) (.cells #[.string tx,.int .i64 qk,.string qn,.slice A1 n1 c1,.slice A2 n2 c2,.slice A k.needs.length c] 92)
 have Hb:=zh hb
 cases hn:k.needs with
 | nil =>
  rw [hn] at Hb
  have hf:first k=ByteArray.empty:=by unfold Al.first; rw [hn]; rfl
  rw [hf]
  clear hR hf hb hn
  simp only [List.length_nil] at *
  go_enter Tryz.func66,Tryz.ntmps66
  go_wp2
  go_ret
  exact ⟨rfl,Hb.out⟩
 | cons s t =>
  rw [hn] at hR Hb
  have hf:first k=s:=by unfold Al.first; rw [hn]; rfl
  rw [hf]
  obtain ⟨b,o,rfl,hS,hc⟩:=hR.2 (by simp)
  have hbl:=hS.lt
  have h0:=hc 0 (.string s) rfl
  rw [Nat.add_zero] at h0
  have h1:=(hb.cell (p:=⟨b,o,none⟩) hbl).trans h0
  rw [hn] at h1
  generalize hm:(s :: t).length=m at *
  have hm1 : 0<m:=by rw [← hm]; simp
  have hm2:((m:Int) == 0)=false:=beq_eq_false_iff_ne.2 (by omega)
  clear hR hf hb hn hS hc hm
  go_enter Tryz.func66,Tryz.ntmps66
  go_wp2
  go_ret
  exact ⟨rfl,Hb.out⟩
end Go.Proofs.YtlfpfkallgkjdaaGreat.Al
end

section
namespace Go.Proofs.YtlfpfkallgkjdaaGreat.Al
open Go.RowKit Go.Maps Ut Tk Qy Qp Ev Mv
def DropP (w:World) (X cn M1 M2:Nat) (F2:ByteArray→Option Nat) (l:List (Int × Kp)) (i:Int) (e:Ending) (w':World):Prop :=
 e=.returned (.bool (get l i).isSome)∧∃ F1',AlX w' X cn M1 M2 F1' F2 (drop l i)∧Chg (Own M1 M2 F2) w w'
theorem KpV.blk_sc {w:World} {k:Kp} {v:Value} (h:KpV w k v) {O:Nat→Prop} {w':World} (hc:Chg O w w') (hO:∀ b,O b→¬ Sc w b):KpV w' k v:=h.chg hc hO
theorem looks {κ:Type} {P:Program} {k t e:TypeId} {L:KeyLit κ} {w:World} {b n:Nat} {f : κ→Option Value} (h:MapV P k L w b n f) (K:Keyed P k) (ht:P.underlying t=some (.map k e)) {z:Value} (hz:∀ w,(zeroValue e).run P w=.ok z w) (s : κ) (hkey:keyOf P k (L.val s)=some (L.lit s)) {u:Value} (hu:(f s).getD z=u) :
  ∀ wx,Below w.heap.size w wx→(Instr.lookup t (.map (some b)) (L.val s) false).run P wx=.ok u wx:=fun wx hb=>by
 have:=(h.below hb).look K ht (hz wx) s hkey
 rw [hu] at this
 exact this
theorem looksS {P:Program} {k t e:TypeId} {w:World} {b n:Nat} {f:ByteArray→Option Value} (h:MapV P k litS w b n f) (K:Keyed P k) (ht:P.underlying t=some (.map k e)) {z:Value} (hz:∀ w,(zeroValue e).run P w=.ok z w) (s:ByteArray) (hkey:keyOf P k (litS.val s)=some (litS.lit s)) {u:Value} (hu:(f s).getD z=u) :
  ∀ wx,Below w.heap.size w wx→(Instr.lookup t (.map (some b)) (.string s) false).run P wx=.ok u wx:=looks h K ht hz s hkey hu
theorem looksI {P:Program} {k t e:TypeId} {w:World} {b n:Nat} {f:Int→Option Value} (h:MapV P k litI w b n f) (K:Keyed P k) (ht:P.underlying t=some (.map k e)) {z:Value} (hz:∀ w,(zeroValue e).run P w=.ok z w) (s:Int) (hkey:keyOf P k (litI.val s)=some (litI.lit s)) {u:Value} (hu:(f s).getD z=u) :
  ∀ wx,Below w.heap.size w wx→(Instr.lookup t (.map (some b)) (.int .i64 s) false).run P wx=.ok u wx:=looks h K ht hz s hkey hu
set_option maxHeartbeats 3200000 in
theorem drop_any {w:World} {X cn M1 M2:Nat} {F1:Int→Option Value} {F2:ByteArray→Option Nat} {l:List (Int × Kp)} (i:Int) (hi:I64 i) (h:AlX w X cn M1 M2 F1 F2 l) :
  Calls Tryz.prog 37 #[.pointer (some ⟨X,0,none⟩),.int .i64 i] w (DropP w X cn M1 M2 F2 l i):=by
 have q0:=h.c0
 have HKI:=zh (keyI hi)
 have H:=zh h
 cases hg:get l i with
 | none =>
  have hF:=h.al.kn i hg
  have hb:=(Below.refl w.heap.size w).alloc (zG _) (.cells #[.string ⟨#[]⟩,.int .i64 0,.string ⟨#[]⟩,.slice none 0 0,.slice none 0 0,.slice none 0 0] 92)
  have FIN:=zh (show DropP w X cn M1 M2 F2 l i (.returned (.bool false)) _ from ⟨by rw [hg]; rfl,F1,by rw [drop_no hg]; exact h.below hb,Chg.of_new hb⟩)
  clear hb h hg
  go_enter Tryz.func37,Tryz.ntmps37
  go_wp2_with (first
   | (at_lookup; refine wpList_look2_v rfl (.tmp 11) (.tmp 12) 83 92 rfl lawI Tryz.underlying83 (Tryz.zeroValue92 _) M1 l.length F1 rfl H.out.al.m1.v i rfl HKI.out (.agg #[.string ⟨#[]⟩,.int .i64 0,.string ⟨#[]⟩,.slice none 0 0,.slice none 0 0,.slice none 0 0]) false (by rw [hF]; rfl) (by rw [hF]; rfl) ?_)
   | go_in)
  go_ret
  exact FIN.out
 | some k =>
  obtain ⟨v,hFv,hkv⟩:=h.al.kv i k hg
  obtain ⟨m,hm⟩:=h.al.has hg
  obtain ⟨A1,n1,c1,A2,n2,c2,A,c,rfl,_,_⟩:=hkv.parts
  have hko:=h.al.ok _ (get_mem hg)
  have hfs:(first k).size≤65:=hko.first
  have HG:=zh hg
  have HKV:=zh hkv
  have HM:=zh hm
  have hks:keyOf Tryz.prog 9 (litS.val (first k))=some (litS.lit (first k)):=keyS (by unfold maxLen; omega)
  have HKS:=zh hks
  have HFV:Hid (F1 i=some _):=zh hFv
  clear hko hfs hm hkv hg h hks hFv
  generalize hnn:k.needs.length=nn at *
  generalize htx:k.text=tx at *
  generalize hqk:k.q.kind=qk at *
  generalize hqn:k.q.name=qn at *
  clear hnn htx hqk hqn
  have hb:=(Below.refl w.heap.size w).alloc (zG _) (.cells #[.string tx,.int .i64 qk,.string qn,.slice A1 n1 c1,.slice A2 n2 c2,.slice A nn c] 92)
  have hbx:=Blk.new w 92 #[.string tx,.int .i64 qk,.string qn,.slice A1 n1 c1,.slice A2 n2 c2,.slice A nn c]
  have H1:=zh (H.out.below hb)
  have HB:=zh hb
  have HBX:=zh hbx
  have hz:w.heap.size<(w.alloc (.cells #[.string tx,.int .i64 qk,.string qn,.slice A1 n1 c1,.slice A2 n2 c2,.slice A nn c] 92)).heap.size:=by simp
  clear hb hbx
  go_enter Tryz.func37,Tryz.ntmps37
  go_upto_region 4 with (first
   | (at_lookup; refine wpList_look2_v rfl (.tmp 11) (.tmp 12) 83 92 rfl lawI Tryz.underlying83 (Tryz.zeroValue92 _) M1 l.length F1 rfl H.out.al.m1.v i rfl HKI.out (.agg #[.string tx,.int .i64 qk,.string qn,.slice A1 n1 c1,.slice A2 n2 c2,.slice A nn c]) true (by rw [HFV.out]; rfl) (by rw [HFV.out]; rfl) ?_)
   | go_in)
  generalize w.alloc (.cells #[.string tx,.int .i64 qk,.string qn,.slice A1 n1 c1,.slice A2 n2 c2,.slice A nn c] 92)=w1 at *
  clear q0
  have q0:=H1.out.c0
  go_upto_region 5 with (first
   | (at_delete; refine wpList_del_z rfl (.tmp 21) (.tmp 22) 83 92 rfl lawI Tryz.underlying83 M1 l.length F1 rfl H1.out.al.m1 i rfl HKI.out ?_; intro w3 hm3 hg3)
   | go_in)
  clear q0
  rw [HFV.out] at hm3
  simp only [Option.isSome_some,if_true] at hm3
  have hXM:X≠M1:=fun e=>H1.out.notX (.inl e)
  have hgM:w.heap.size≠M1:=fun e=>(H1.out.al.noSc M1 (.inl rfl)) (e ▸ Al.blk_sc HBX.out)
  have hX3:Blk w3 X 86 #[.map (some M1),.map (some M2)]:=(hg3.block X H1.out.blk.lt (fun e=>by injection e with e; exact hXM e)).trans H1.out.blk
  have hB3:Blk w3 w.heap.size 92 #[.string tx,.int .i64 qk,.string qn,.slice A1 n1 c1,.slice A2 n2 c2,.slice A nn c]:=(hg3.block _ hz (fun e=>by injection e with e; exact hgM e)).trans HBX.out
  have hm2:=H1.out.al.m2.kept hg3 (fun e=>by injection e with e; exact H1.out.al.n12 e.symm)
  have C03:Chg (Own M1 M2 F2) w w3:=(Chg.of_new HB.out).trans (O':=Own M1 M2 F2) (Chg.of_grown hg3 (fun b hb=>by injection hb with hb; exact .inl hb.symm)) (fun x hx=>.inl hx)
  have hkv3:=HKV.out.chg C03 H.out.al.noSc
  have hs3:=C03.size
  have Hcells:Hid (∀ wx,Below w3.heap.size w3 wx→wx.cell? ⟨X,1,none⟩=some (.map (some M2))∧wx.cell? ⟨w.heap.size,0,none⟩=some (.string tx)∧wx.cell? ⟨w.heap.size,1,none⟩=some (.int .i64 qk)∧wx.cell? ⟨w.heap.size,2,none⟩=some (.string qn)∧wx.cell? ⟨w.heap.size,3,none⟩=some (.slice A1 n1 c1)∧wx.cell? ⟨w.heap.size,4,none⟩=some (.slice A2 n2 c2)∧wx.cell? ⟨w.heap.size,5,none⟩=some (.slice A nn c)):=zh (fun wx hb=>by
   have k1:=(hX3.below hb hX3.lt).cell 1
   have r:=hB3.below hb hB3.lt
   have r0:=r.cell 0
   have r1:=r.cell 1
   have r2:=r.cell 2
   have r3:=r.cell 3
   have r4:=r.cell 4
   have r5:=r.cell 5
   simp only [zA,zB,zC] at k1 r0 r1 r2 r3 r4 r5
   exact ⟨k1,r0,r1,r2,r3,r4,r5⟩)
  have HLK:=zh (looksS hm2 lawS Tryz.underlying84 Tryz.zeroValue106 (first k) HKS.out (u:=.map (some m)) (by unfold F2v; rw [HM.out]; rfl))
  have CF:Hid (∀ wx,Below w3.heap.size w3 wx→Calls Tryz.prog 66 #[.agg #[.string tx,.int .i64 qk,.string qn,.slice A1 n1 c1,.slice A2 n2 c2,.slice A nn c]] wx fun e w'=>e=.returned (.string (first k))∧Below wx.heap.size wx w'):=zh (fun wx hb=>first_any (hkv3.chg (O:=fun _=>False) (Chg.of_new hb) (fun _ h=>h.elim)))
  have HM3:=zh hm3
  have HG3:=zh hg3
  have HC3:=zh C03
  have HX3:=zh hX3
  generalize hfk:first k=fk at *
  have HFK:=zh hfk
  clear hfk hm3 hg3 C03 hX3 hB3 hm2 hkv3 hXM hgM
  refine wp_region_grow_tail 8 (specOf [(5,⟨Unit,fun _=>.string fk,fun _ _=>True⟩)]) (fun wx=>Below w3.heap.size w3 wx) (fun w1 w2=>Below w1.heap.size w1 w2) (by kernel_rfl) (by kernel_rfl) (stab_cons (fun x wa wb hg h=>trivial) (stab_nil)) ((Below.refl _ _).drew) ?_
  simp only [List.take_succ_cons,List.take_zero,List.drop_succ_cons,List.drop_zero]
  iterate 5
   refine grow_fix _ ?_ rfl (by rfl) (by rfl) (fun wx hC hD=>?_) ?_
   rotate_left
   ·have hSw:=Hcells.out wx hC
    go_simp
    all_goals with_reducible rfl
   try simp only [Act.put,zD,zE,zF]
  refine grow_give 6 _ rfl (by rfl) (by rfl) (fun wx hC hD=>?_) (fun x=>?_)
  ·refine give_enter (f:=?_) (args:=?_) ?_ ?_
   rotate_left 2
   ·have hSw:=Hcells.out wx hC
    go_simp
    all_goals first | with_reducible rfl | (refine ⟨?_,?_⟩ <;> with_reducible rfl)
   refine (CF.out wx hC).mono ?_
   rintro e w9 ⟨rfl,hb9⟩
   exact ⟨_,rfl,hb9,hC.trans (hb9.mono hC.size),(),rfl,trivial⟩
  obtain ⟨⟩:=x
  try simp only [Act.put,zD,zE,zF]
  refine grow_fix 7 ?_ rfl (by rfl) (by rfl) (fun wx hC hD=>?_) ?_
  rotate_left
  ·have hlk:=HLK.out wx hC
   have hSw:=Hcells.out wx hC
   go_simp
   all_goals with_reducible rfl
  try simp only [Act.put,zD,zE,zF]
  refine grow_fix 8 ?_ rfl (by rfl) (by rfl) (fun wx hC hD=>?_) ?_
  rotate_left
  ·have hSw:=Hcells.out wx hC
   go_simp
   all_goals with_reducible rfl
  try simp only [Act.put,zD,zE,zF]
  refine grow_nil (fun w5 hC hF=>?_)
  have hs5:=hC.size
  obtain ⟨f,hf,hfi⟩:=H.out.al.sub fk m HM.out
  have hmM:=H.out.al.n1 fk m HM.out
  have hml:=(mo_v hf).lt
  have k13:∀ b,b<w.heap.size→b≠M1→w5.heap[b]?=w.heap[b]?:=fun b hb hne=>by
   have e1:=HB.out.block b hb
   have e2:=HG3.out.block b (by have:=HB.out.size; omega) (fun e=>by injection e with e; exact hne e)
   have e3:=hC.block b (by have:=HB.out.size; have:=HG3.out.size; omega)
   exact e3.trans (e2.trans e1)
  have hf5:=hf.same (k13 m hml hmM.1)
  have HF5:=zh hf5
  have HFI:=zh hfi
  have HMM:=zh hmM
  have K13:=zh k13
  have HC5:=zh hC
  clear hF hC hf5 hf hfi hmM k13
  try simp only [List.drop_succ_cons,List.drop_zero]
  refine wpList_del_v rfl (.tmp 29) (.tmp 30) 106 100 rfl lawI Tryz.underlying106 m cn f rfl HF5.out i rfl HKI.out (fun w6 hm6 hg6=>?_)
  have hml2:M1<w5.heap.size:=by have:=HM3.out.lt; omega
  have hfin:DropP w X cn M1 M2 F2 l i (.returned (.bool true)) w6:=by
   have hc56:Chg (Own M1 M2 F2) w w6:=(HC3.out.then_new HC5.out).trans (O':=Own M1 M2 F2) (Chg.of_grown hg6 (fun b hb=>by injection hb with hb; exact .inr (.inr ⟨fk,by rw [HM.out,hb]⟩))) (fun x hx=>.inl hx)
   have k6:∀ b,b<w.heap.size→b≠M1→b≠m→w6.heap[b]?=w.heap[b]?:=fun b hb h1 h2=>(hg6.block b (by omega) (fun e=>by injection e with e; exact h2 e)).trans (K13.out b hb h1)
   have hX6:Blk w6 X 86 #[.map (some M1),.map (some M2)]:=blk_chg H.out.blk hc56 H.out.al.noSc
   refine ⟨by rw [HG.out]; rfl,delV F1 i,⟨hX6,?_⟩,hc56⟩
   have hM:=HM.out
   rw [← HFK.out] at hM
   refine H.out.al.del HG.out hM hc56 ?_ (k6 M2 (mo_v H.out.al.m2).lt (fun e=>H.out.al.n12 e.symm) (fun e=>HMM.out.2 e.symm)) ⟨delV f i,hm6,fun j=>?_⟩ (fun s m' hs hs'=>?_)
   ·exact (HM3.out.below HC5.out).kept hg6 (fun e=>by injection e with e; exact HMM.out.1 e.symm)
   ·have:=HFI.out j
    rw [HFK.out]
    show (delV f i j).isSome=true↔j≠i∧Und l fk j
    rw [← this]
    unfold delV
    by_cases e:j=i
    ·simp [e]
    ·simp [e]
   ·exact k6 m' ((H.out.al.sub s m' hs').mo).lt (H.out.al.n1 s m' hs').1 (fun e=>hs (H.out.al.apart s _ m (by rw [← e]; exact hs') hM))
  have FIN:=zh hfin
  clear hfin hm6 hg6
  try simp only [Act.put]
  go_wp2
  go_ret
  exact FIN.out
end Go.Proofs.YtlfpfkallgkjdaaGreat.Al
end

section
namespace Go.Proofs.YtlfpfkallgkjdaaGreat.Al
open Go.RowKit Go.Maps Ut Tk Qy Qp Ev Mv
theorem put_dropped {l:List (Int × Kp)} (hu:UpI l) (i:Int) (k:Kp):put (drop l i) i k=put l i k:=get_one (put_up (drop_up hu i) i k) (put_up hu i k) (fun j=>put_drop hu i k j)
theorem get_dropped {l:List (Int × Kp)} (hu:UpI l) (i:Int):get (drop l i) i=none:=by rw [get_drop hu]; simp
theorem drop_le {l:List (Int × Kp)} (hu:UpI l) (i:Int):(drop l i).length≤l.length:=by
 rw [drop_len hu]
 split <;> omega
def PutP (w:World) (X cn M1 M2:Nat) (F2:ByteArray→Option Nat) (l:List (Int × Kp)) (i:Int) (k:Kp) (e:Ending) (w':World):Prop :=
 e=.returned (.tuple #[])∧∃ F1' F2',AlX w' X (cn+1) M1 M2 F1' F2' (put l i k)∧Chg (Own M1 M2 F2) w w'∧∀ b,Own M1 M2 F2' b→Own M1 M2 F2 b∨w.heap.size≤b
structure Mid (w0 w:World) (X cn M1 M2:Nat) (F1:Int→Option Value) (F2:ByteArray→Option Nat) (l:List (Int × Kp)) (i:Int) (k:Kp) (v:Value) (m:Nat):Prop where
 chg:Chg (Own M1 M2 F2) w0 w
 m1:MapZ Tryz.prog 3 litI w M1 (l.length+1) (putV F1 i v)
 m2:MapV Tryz.prog 9 litS w M2 (cn+1) (F2v (putF F2 (first k) m))
 s:SetM w m cn (Und l (first k))
 oth:∀ s m',s≠first k→F2 s=some m'→w.heap[m']?=w0.heap[m']?
 hm:F2 (first k)=some m∨w0.heap.size≤m
 ne:m≠M1∧m≠M2
section
variable {w0 w w':World} {X cn M1 M2:Nat} {F1:Int→Option Value} {F2:ByteArray→Option Nat} {l:List (Int × Kp)} {i:Int} {k:Kp} {v:Value} {m:Nat}
theorem Mid.below (h:Mid w0 w X cn M1 M2 F1 F2 l i k v m) (hA:AlM w0 cn M1 M2 F1 F2 l) (hb:Below w.heap.size w w'):Mid w0 w' X cn M1 M2 F1 F2 l i k v m :=
 ⟨h.chg.then_new hb,h.m1.below hb,h.m2.below hb,h.s.same (hb.block m (h.s.mo).lt),fun s m' hs hs'=>(hb.block m' (by have:=((hA.sub s m' hs').mo).lt; have:=h.chg.size; omega)).trans (h.oth s m' hs hs'),h.hm,h.ne⟩
theorem Mid.fin (h:Mid w0 w X cn M1 M2 F1 F2 l i k v m) (hA:AlX w0 X cn M1 M2 F1 F2 l) (hi : 0≤i∧i≤999999) (hko:KOk k) (hk:get l i=none) (hv:KpV w0 k v) {f:Int→Option Value} (hf:∀ j,(f j).isSome=true↔Und l (first k) j) {u:Value}
  (hm':MapV Tryz.prog 3 litI w' m (cn+1) (putV f i u)) (hg:w.grownBy w' (some m)):∃ F1' F2',AlX w' X (cn+1) M1 M2 F1' F2' (put l i k)∧Chg (Own M1 M2 F2) w0 w'∧∀ b,Own M1 M2 F2' b→Own M1 M2 F2 b∨w0.heap.size≤b:=by
 have hc:Chg (Own M1 M2 F2) w0 w':=h.chg.trans (O':=fun b=>b=m) (Chg.of_grown hg (fun b hb=>by injection hb with hb; exact hb.symm)) (fun x hx=>by
  rcases h.hm with h1 | h1
  ·exact .inl (.inr (.inr ⟨first k,by rw [h1,hx]⟩))
  ·exact .inr (by rw [hx]; exact h1))
 refine ⟨putV F1 i v,putF F2 (first k) m,⟨blk_chg hA.blk hc hA.al.noSc,?_⟩,hc,fun b hb=>?_⟩
 ·refine hA.al.ins hi hko hk hv hc (h.m1.kept hg (fun e=>by injection e with e; exact h.ne.1 e.symm)) (h.m2.kept hg (fun e=>by injection e with e; exact h.ne.2 e.symm)) ⟨_,hm',fun j=>?_⟩ (fun s m' hs hs'=>?_) h.hm
  ·show (putV f i u j).isSome=true↔j=i∨Und l (first k) j
   rw [← hf j]
   unfold putV
   by_cases e:j=i
   ·simp [e]
   ·simp [e]
  ·refine (hg.block m' (by have:=((hA.al.sub s m' hs').mo).lt; have:=h.chg.size; omega) (fun e=>?_)).trans (h.oth s m' hs hs')
   injection e with e
   subst e
   rcases h.hm with h1 | h1
   ·exact hs (hA.al.apart s _ _ hs' h1)
   ·have:=((hA.al.sub s _ hs').mo).lt
    omega
 ·rcases hb with rfl | rfl | ⟨s,hs⟩
  ·exact .inl (.inl rfl)
  ·exact .inl (.inr (.inl rfl))
  ·unfold putF at hs
   split at hs
   ·injection hs with hs
    subst hs
    rcases h.hm with h1 | h1
    ·exact .inl (.inr (.inr ⟨_,h1⟩))
    ·exact .inr h1
   ·exact .inl (.inr (.inr ⟨s,hs⟩))
end
set_option maxHeartbeats 6400000 in
theorem put_any {w:World} {X cn M1 M2:Nat} {F1:Int→Option Value} {F2:ByteArray→Option Nat} {l:List (Int × Kp)} (i:Int) (k:Kp) (v:Value) (hi : 0≤i∧i≤999999) (hko:KOk k) (hkv:KpV w k v) (h:AlX w X cn M1 M2 F1 F2 l) (hll:l.length≤4294967296) (hcn:cn≤4294967296) :
  Calls Tryz.prog 35 #[.pointer (some ⟨X,0,none⟩),.int .i64 i,v] w (PutP w X cn M1 M2 F2 l i k):=by
 have hI64:=I64.of hi
 have HI:=zh hi
 have HKI:=zh (keyI hI64)
 have HKO:=zh hko
 have hks:keyOf Tryz.prog 9 (litS.val (first k))=some (litS.lit (first k)):=keyS (by have:(first k).size≤65:=hko.first; unfold maxLen; omega)
 have HKS:=zh hks
 obtain ⟨A1,n1,c1,A2,n2,c2,A,c,rfl,_,_⟩:=hkv.parts
 have hmk:=mk3
 generalize hfk:first k=fk at *
 have HFK:=zh hfk
 have HKV:=zh hkv
 clear hko hkv hks hfk hi
 generalize hnn:k.needs.length=nn at *
 generalize htx:k.text=tx at *
 generalize hqk:k.q.kind=qk at *
 generalize hqn:k.q.name=qn at *
 clear hnn htx hqk hqn
 have hb:=(Below.refl w.heap.size w).alloc (zG _) (.cells #[.string tx,.int .i64 qk,.string qn,.slice A1 n1 c1,.slice A2 n2 c2,.slice A nn c] 92)
 have HBX:=zh (Blk.new w 92 #[.string tx,.int .i64 qk,.string qn,.slice A1 n1 c1,.slice A2 n2 c2,.slice A nn c])
 have H1:=zh (h.below hb)
 have HB:=zh hb
 have H:=zh h
 have hz:w.heap.size<(w.alloc (.cells #[.string tx,.int .i64 qk,.string qn,.slice A1 n1 c1,.slice A2 n2 c2,.slice A nn c] 92)).heap.size:=by simp
 clear hb h
 go_enter Tryz.func35,Tryz.ntmps35
 go_upto_region 1 with (fail)
 generalize w.alloc (.cells #[.string tx,.int .i64 qk,.string qn,.slice A1 n1 c1,.slice A2 n2 c2,.slice A nn c] 92)=w1 at *
 go_wp2_with fail
 refine (drop_any i hI64 H1.out).mono ?_
 rintro e w2 ⟨rfl,F1',hX2,hc2⟩
 have hu:=H.out.al.up
 have hl2:=drop_le hu i
 have hgn:=get_dropped hu i
 have hpd:=put_dropped hu i k
 have C02:Chg (Own M1 M2 F2) w w2:=(Chg.of_new HB.out).trans (O':=Own M1 M2 F2) hc2 (fun x hx=>.inl hx)
 have HKV2:=zh (HKV.out.chg C02 H.out.al.noSc)
 have HB2:=zh (blk_chg HBX.out hc2 H1.out.al.noSc)
 have HX2:=zh hX2
 have HC02:=zh C02
 have HGN:=zh hgn
 have HPD:=zh hpd
 have hgs:w.heap.size<w2.heap.size:=by have:=hc2.size; omega
 clear hX2 hc2 C02 hgn hpd hu H1 HKV HBX
 generalize hdl:drop l i=l2 at *
 clear hdl
 have Hc2:Hid (∀ wx,Below w2.heap.size w2 wx→wx.cell? ⟨X,0,none⟩=some (.map (some M1))∧wx.cell? ⟨w.heap.size,0,none⟩=some (.string tx)∧wx.cell? ⟨w.heap.size,1,none⟩=some (.int .i64 qk)∧wx.cell? ⟨w.heap.size,2,none⟩=some (.string qn)∧wx.cell? ⟨w.heap.size,3,none⟩=some (.slice A1 n1 c1)∧wx.cell? ⟨w.heap.size,4,none⟩=some (.slice A2 n2 c2)∧wx.cell? ⟨w.heap.size,5,none⟩=some (.slice A nn c)):=zh (fun wx hb=>by
  have k1:=(HX2.out.blk.below hb HX2.out.blk.lt).cell 0
  have r:=HB2.out.below hb HB2.out.lt
  have r0:=r.cell 0
  have r1:=r.cell 1
  have r2:=r.cell 2
  have r3:=r.cell 3
  have r4:=r.cell 4
  have r5:=r.cell 5
  simp only [zA,zB,zC] at k1 r0 r1 r2 r3 r4 r5
  exact ⟨k1,r0,r1,r2,r3,r4,r5⟩)
 go_upto_region 2 with (fail)
 refine wp_region_grow_tail 6 (specOf []) (fun wx=>Below w2.heap.size w2 wx) (fun w1 w2=>Below w1.heap.size w1 w2) (by kernel_rfl) (by kernel_rfl) (stab_nil) ((Below.refl _ _).drew) ?_
 simp only [List.take_succ_cons,List.take_zero,List.drop_succ_cons,List.drop_zero]
 iterate 6
  refine grow_fix _ ?_ rfl (by rfl) (by rfl) (fun wx hC hD=>?_) ?_
  rotate_left
  ·have hSw:=Hc2.out wx hC
   go_simp
   all_goals with_reducible rfl
  try simp only [Act.put,zD,zE,zF]
 refine grow_nil (fun w3 hC hF=>?_)
 try simp only [List.drop_succ_cons,List.drop_zero]
 have hm1a:=HX2.out.al.m1.below hC
 refine wpList_set_z rfl (.tmp 12) (.tmp 13) (.tmp 14) 83 92 rfl lawI Tryz.underlying83 M1 l2.length F1' rfl hm1a (by unfold maxLen; omega) i (.agg #[.string tx,.int .i64 qk,.string qn,.slice A1 n1 c1,.slice A2 n2 c2,.slice A nn c]) rfl rfl HKI.out (fun w4 hm4 hg4=>?_)
 have hFn:F1' i=none:=HX2.out.al.kn i HGN.out
 rw [hFn] at hm4
 simp only [Option.isSome_none,Bool.false_eq_true,if_false] at hm4
 have hC4:Chg (Own M1 M2 F2) w2 w4:=(Chg.of_new hC).trans (O':=Own M1 M2 F2) (Chg.of_grown hg4 (fun b hb=>by injection hb with hb; exact .inl hb.symm)) (fun x hx=>.inl hx)
 have k4:∀ b,b<w2.heap.size→b≠M1→w4.heap[b]?=w2.heap[b]?:=fun b hb hne=>(hg4.block b (by have:=hC.size; omega) (fun e=>by injection e with e; exact hne e)).trans (hC.block b hb)
 have hX4:=blk_chg HX2.out.blk hC4 HX2.out.al.noSc
 have hB4:=blk_chg HB2.out hC4 HX2.out.al.noSc
 have hKV4:=HKV2.out.chg hC4 HX2.out.al.noSc
 have hm24:=HX2.out.al.m2.same (k4 M2 (mo_v HX2.out.al.m2).lt (fun e=>HX2.out.al.n12 e.symm))
 have HM4:=zh hm4
 have HC4:=zh hC4
 have K4:=zh k4
 have HM24:=zh hm24
 have hs4:=hC4.size
 have Hc4:Hid (∀ wx,Below w4.heap.size w4 wx→wx.cell? ⟨X,1,none⟩=some (.map (some M2))∧wx.cell? ⟨w.heap.size,0,none⟩=some (.string tx)∧wx.cell? ⟨w.heap.size,1,none⟩=some (.int .i64 qk)∧wx.cell? ⟨w.heap.size,2,none⟩=some (.string qn)∧wx.cell? ⟨w.heap.size,3,none⟩=some (.slice A1 n1 c1)∧wx.cell? ⟨w.heap.size,4,none⟩=some (.slice A2 n2 c2)∧wx.cell? ⟨w.heap.size,5,none⟩=some (.slice A nn c)):=zh (fun wx hb=>by
  have k1:=(hX4.below hb hX4.lt).cell 1
  have r:=hB4.below hb hB4.lt
  have r0:=r.cell 0
  have r1:=r.cell 1
  have r2:=r.cell 2
  have r3:=r.cell 3
  have r4:=r.cell 4
  have r5:=r.cell 5
  simp only [zA,zB,zC] at k1 r0 r1 r2 r3 r4 r5
  exact ⟨k1,r0,r1,r2,r3,r4,r5⟩)
 have CF:Hid (∀ wx,Below w4.heap.size w4 wx→Calls Tryz.prog 66 #[.agg #[.string tx,.int .i64 qk,.string qn,.slice A1 n1 c1,.slice A2 n2 c2,.slice A nn c]] wx fun e w'=>e=.returned (.string fk)∧Below wx.heap.size wx w'):=zh (fun wx hb=>by
  have:=first_any (hKV4.chg (O:=fun _=>False) (Chg.of_new hb) (fun _ h=>h.elim))
  rwa [HFK.out] at this)
 clear hF hC hm1a hm4 hC4 k4 hX4 hB4 hKV4 hm24 hg4 hFn
 try simp only [Act.put,zD,zE,zF]
 have he3s:=eq3_some
 have he3n:=eq3_none
 by_cases hF2:∃ m,F2 fk=some m
 ·obtain ⟨m,hF2⟩:=hF2
  have HLK:=zh (looksS HM24.out lawS Tryz.underlying84 Tryz.zeroValue106 fk HKS.out (u:=.map (some m)) (by unfold F2v; rw [hF2]; rfl))
  have HF2:=zh hF2
  clear hF2
  go_upto_region 3 with (fail)
  refine wp_region_grow (specOf [(5,⟨Unit,fun _=>.string fk,fun _ _=>True⟩)]) (fun wx=>Below (World.heap w4).size w4 wx) (fun w1 w2=>Below w1.heap.size w1 w2) (by kernel_rfl) (by kernel_rfl) (stab_cons (fun x wa wb hg h=>trivial) (stab_nil)) (Below.refl _ _).drew ?_
  iterate 5
   refine grow_fix _ ?_ rfl (by rfl) (by rfl) (fun wx hC hD=>?_) ?_
   rotate_left
   ·have hSw:=Hc4.out wx hC
    go_simp
    all_goals with_reducible rfl
   try simp only [Act.put,zD,zE,zF]
  refine grow_give 6 _ rfl (by rfl) (by rfl) (fun wx hC hD=>?_) (fun x=>?_)
  ·refine give_enter (f:=?_) (args:=?_) ?_ ?_
   rotate_left 2
   ·have hSw:=Hc4.out wx hC
    go_simp
    all_goals first | with_reducible rfl | (refine ⟨?_,?_⟩ <;> with_reducible rfl)
   refine (CF.out wx hC).mono ?_
   rintro e w9 ⟨rfl,hb9⟩
   exact ⟨_,rfl,hb9,hC.trans (hb9.mono hC.size),(),rfl,trivial⟩
  obtain ⟨⟩:=x
  try simp only [Act.put,zD,zE,zF]
  refine grow_fix 7 ?_ rfl (by rfl) (by rfl) (fun wx hC hD=>?_) ?_
  rotate_left
  ·have hlk:=HLK.out wx hC
   have hSw:=Hc4.out wx hC
   go_simp
   all_goals with_reducible rfl
  try simp only [Act.put,zD,zE,zF]
  refine grow_fix 8 ?_ rfl (by rfl) (by rfl) (fun wx hC hD=>?_) ?_
  rotate_left
  ·have hSw:=Hc4.out wx hC
   go_simp
   all_goals with_reducible rfl
  try simp only [Act.put,zD,zE,zF]
  refine grow_nil (fun w5 hC hF=>?_)
  have hm5:Mid w2 w5 X cn M1 M2 F1' F2 l2 i k (.agg #[.string tx,.int .i64 qk,.string qn,.slice A1 n1 c1,.slice A2 n2 c2,.slice A nn c]) m:=by
   have hmn:=HX2.out.al.n1 fk m HF2.out
   refine ⟨HC4.out.then_new hC,HM4.out.below hC,?_,?_,fun s m' hs hs'=>?_,by rw [HFK.out]; exact .inl HF2.out,hmn⟩
   ·refine ((HM24.out.below hC).more (Nat.le_succ _)).congr (fun s=>?_)
    unfold F2v putF
    rw [HFK.out]
    by_cases e:s=fk
    ·rw [if_pos e,e,HF2.out]
    ·rw [if_neg e]
   ·rw [HFK.out]
    exact ((HX2.out.al.sub fk m HF2.out).same (K4.out m ((HX2.out.al.sub fk m HF2.out).mo).lt hmn.1)).same (hC.block m (by have:=((HX2.out.al.sub fk m HF2.out).mo).lt; omega))
   ·exact (hC.block m' (by have:=((HX2.out.al.sub s m' hs').mo).lt; omega)).trans (K4.out m' ((HX2.out.al.sub s m' hs').mo).lt (HX2.out.al.n1 s m' hs').1)
  have HMID:=zh hm5
  have Hc5:Hid (∀ wx,Below w5.heap.size w5 wx→wx.cell? ⟨X,1,none⟩=some (.map (some M2))∧wx.cell? ⟨w.heap.size,0,none⟩=some (.string tx)∧wx.cell? ⟨w.heap.size,1,none⟩=some (.int .i64 qk)∧wx.cell? ⟨w.heap.size,2,none⟩=some (.string qn)∧wx.cell? ⟨w.heap.size,3,none⟩=some (.slice A1 n1 c1)∧wx.cell? ⟨w.heap.size,4,none⟩=some (.slice A2 n2 c2)∧wx.cell? ⟨w.heap.size,5,none⟩=some (.slice A nn c)):=zh (fun wx hb=>Hc4.out wx (hC.trans (hb.mono hC.size)))
  have CF5:Hid (∀ wx,Below w5.heap.size w5 wx→Calls Tryz.prog 66 #[.agg #[.string tx,.int .i64 qk,.string qn,.slice A1 n1 c1,.slice A2 n2 c2,.slice A nn c]] wx fun e w'=>e=.returned (.string fk)∧Below wx.heap.size wx w'):=zh (fun wx hb=>CF.out wx (hC.trans (hb.mono hC.size)))
  clear hF hC hm5 HLK CF Hc4
  have HLK2:=zh (looksS HMID.out.m2 lawS Tryz.underlying84 Tryz.zeroValue106 fk HKS.out (u:=.map (some m)) (by unfold F2v putF; rw [HFK.out]; simp))
  go_upto_region 5 with (fail)
  refine wp_region_grow_tail 9 (specOf [(5,⟨Unit,fun _=>.string fk,fun _ _=>True⟩)]) (fun wx=>Below w5.heap.size w5 wx) (fun w1 w2=>Below w1.heap.size w1 w2) (by kernel_rfl) (by kernel_rfl) (stab_cons (fun x wa wb hg h=>trivial) (stab_nil)) ((Below.refl _ _).drew) ?_
  simp only [List.take_succ_cons,List.take_zero,List.drop_succ_cons,List.drop_zero]
  iterate 5
   refine grow_fix _ ?_ rfl (by rfl) (by rfl) (fun wx hC hD=>?_) ?_
   rotate_left
   ·have hSw:=Hc5.out wx hC
    go_simp
    all_goals with_reducible rfl
   try simp only [Act.put,zD,zE,zF]
  refine grow_give 6 _ rfl (by rfl) (by rfl) (fun wx hC hD=>?_) (fun x=>?_)
  ·refine give_enter (f:=?_) (args:=?_) ?_ ?_
   rotate_left 2
   ·have hSw:=Hc5.out wx hC
    go_simp
    all_goals first | with_reducible rfl | (refine ⟨?_,?_⟩ <;> with_reducible rfl)
   refine (CF5.out wx hC).mono ?_
   rintro e w9 ⟨rfl,hb9⟩
   exact ⟨_,rfl,hb9,hC.trans (hb9.mono hC.size),(),rfl,trivial⟩
  obtain ⟨⟩:=x
  try simp only [Act.put,zD,zE,zF]
  refine grow_fix 7 ?_ rfl (by rfl) (by rfl) (fun wx hC hD=>?_) ?_
  rotate_left
  ·have hlk:=HLK2.out wx hC
   have hSw:=Hc5.out wx hC
   go_simp
   all_goals with_reducible rfl
  try simp only [Act.put,zD,zE,zF]
  iterate 2
   refine grow_fix _ ?_ rfl (by rfl) (by rfl) (fun wx hC hD=>?_) ?_
   rotate_left
   ·have hSw:=Hc5.out wx hC
    go_simp
    all_goals with_reducible rfl
   try simp only [Act.put,zD,zE,zF]
  refine grow_nil (fun w9 hC hF=>?_)
  have hM9:=HMID.out.below HX2.out.al hC
  obtain ⟨f,hf,hfi⟩:=hM9.s
  try simp only [List.drop_succ_cons,List.drop_zero]
  refine wpList_set_v rfl (.tmp 36) (.tmp 37) (.tmp 38) 106 100 rfl lawI Tryz.underlying106 m cn f rfl hf (by unfold maxLen; omega) i (.agg #[]) rfl rfl HKI.out (fun w10 hm10 hg10=>?_)
  have FIN:Hid (PutP w X cn M1 M2 F2 l i k (.returned (.tuple #[])) w10):=zh (by
   obtain ⟨F1o,F2o,g1,g2,g3⟩:=hM9.fin HX2.out HI.out HKO.out HGN.out HKV2.out hfi hm10 hg10
   rw [HPD.out] at g1
   exact ⟨rfl,F1o,F2o,g1,HC02.out.trans g2 (fun x hx=>.inl hx),fun b hb=>(g3 b hb).imp id (fun h=>by omega)⟩)
  clear hF hC hM9 hf hfi hm10 hg10
  try simp only [Act.put,zD,zE,zF]
  go_wp2
  go_end0
  exact FIN.out
 ·have hF2n:F2 fk=none:=by
   cases e:F2 fk with
   | none=>rfl
   | some m=>exact absurd ⟨m,e⟩ hF2
  have HLK:=zh (looksS HM24.out lawS Tryz.underlying84 Tryz.zeroValue106 fk HKS.out (u:=.map none) (by unfold F2v; rw [hF2n]; rfl))
  have HF2:=zh hF2n
  clear hF2 hF2n
  go_upto_region 3 with (fail)
  refine wp_region_grow (specOf [(5,⟨Unit,fun _=>.string fk,fun _ _=>True⟩)]) (fun wx=>Below (World.heap w4).size w4 wx) (fun w1 w2=>Below w1.heap.size w1 w2) (by kernel_rfl) (by kernel_rfl) (stab_cons (fun x wa wb hg h=>trivial) (stab_nil)) (Below.refl _ _).drew ?_
  iterate 5
   refine grow_fix _ ?_ rfl (by rfl) (by rfl) (fun wx hC hD=>?_) ?_
   rotate_left
   ·have hSw:=Hc4.out wx hC
    go_simp
    all_goals with_reducible rfl
   try simp only [Act.put,zD,zE,zF]
  refine grow_give 6 _ rfl (by rfl) (by rfl) (fun wx hC hD=>?_) (fun x=>?_)
  ·refine give_enter (f:=?_) (args:=?_) ?_ ?_
   rotate_left 2
   ·have hSw:=Hc4.out wx hC
    go_simp
    all_goals first | with_reducible rfl | (refine ⟨?_,?_⟩ <;> with_reducible rfl)
   refine (CF.out wx hC).mono ?_
   rintro e w9 ⟨rfl,hb9⟩
   exact ⟨_,rfl,hb9,hC.trans (hb9.mono hC.size),(),rfl,trivial⟩
  obtain ⟨⟩:=x
  try simp only [Act.put,zD,zE,zF]
  refine grow_fix 7 ?_ rfl (by rfl) (by rfl) (fun wx hC hD=>?_) ?_
  rotate_left
  ·have hlk:=HLK.out wx hC
   have hSw:=Hc4.out wx hC
   go_simp
   all_goals with_reducible rfl
  try simp only [Act.put,zD,zE,zF]
  refine grow_fix 8 ?_ rfl (by rfl) (by rfl) (fun wx hC hD=>?_) ?_
  rotate_left
  ·have hSw:=Hc4.out wx hC
   go_simp
   all_goals with_reducible rfl
  try simp only [Act.put,zD,zE,zF]
  refine grow_nil (fun w5 hC hF=>?_)
  have HC5:=zh hC
  have Hc5:Hid (∀ wx,Below w5.heap.size w5 wx→wx.cell? ⟨X,1,none⟩=some (.map (some M2))∧wx.cell? ⟨w.heap.size,0,none⟩=some (.string tx)∧wx.cell? ⟨w.heap.size,1,none⟩=some (.int .i64 qk)∧wx.cell? ⟨w.heap.size,2,none⟩=some (.string qn)∧wx.cell? ⟨w.heap.size,3,none⟩=some (.slice A1 n1 c1)∧wx.cell? ⟨w.heap.size,4,none⟩=some (.slice A2 n2 c2)∧wx.cell? ⟨w.heap.size,5,none⟩=some (.slice A nn c)):=zh (fun wx hb=>Hc4.out wx (hC.trans (hb.mono hC.size)))
  have CF5:Hid (∀ wx,Below w5.heap.size w5 wx→Calls Tryz.prog 66 #[.agg #[.string tx,.int .i64 qk,.string qn,.slice A1 n1 c1,.slice A2 n2 c2,.slice A nn c]] wx fun e w'=>e=.returned (.string fk)∧Below wx.heap.size wx w'):=zh (fun wx hb=>CF.out wx (hC.trans (hb.mono hC.size)))
  clear hF hC HLK CF Hc4
  go_upto_region 4 with (fail)
  refine wp_region_grow_tail 7 (specOf [(5,⟨Unit,fun _=>.string fk,fun _ _=>True⟩),(6,⟨Nat,fun m=>.map (some m),fun m wz=>MapV Tryz.prog 3 litI wz m 0 noV∧w5.heap.size≤m⟩)]) (fun wx=>Below w5.heap.size w5 wx) (fun w1 w2=>Below w1.heap.size w1 w2) (by kernel_rfl) (by kernel_rfl) (stab_cons (fun x wa wb hg h=>trivial) (stab_cons (fun x wa wb hg h=>⟨h.1.below hg,h.2⟩) (stab_nil))) ((Below.refl _ _).drew) ?_
  simp only [List.take_succ_cons,List.take_zero,List.drop_succ_cons,List.drop_zero]
  iterate 5
   refine grow_fix _ ?_ rfl (by rfl) (by rfl) (fun wx hC hD=>?_) ?_
   rotate_left
   ·have hSw:=Hc5.out wx hC
    go_simp
    all_goals with_reducible rfl
   try simp only [Act.put,zD,zE,zF]
  refine grow_give 6 _ rfl (by rfl) (by rfl) (fun wx hC hD=>?_) (fun x=>?_)
  ·refine give_enter (f:=?_) (args:=?_) ?_ ?_
   rotate_left 2
   ·have hSw:=Hc5.out wx hC
    go_simp
    all_goals first | with_reducible rfl | (refine ⟨?_,?_⟩ <;> with_reducible rfl)
   refine (CF5.out wx hC).mono ?_
   rintro e w9 ⟨rfl,hb9⟩
   exact ⟨_,rfl,hb9,hC.trans (hb9.mono hC.size),(),rfl,trivial⟩
  obtain ⟨⟩:=x
  try simp only [Act.put,zD,zE,zF]
  refine grow_give 7 _ rfl (by rfl) (by rfl) (fun wx hC hD=>?_) (fun x=>?_)
  ·refine give_value (u:=?_) (w':=?_) ?_ ?_ ?_
   rotate_left 2
   ·have hSw:=Hc5.out wx hC
    go_simp
    all_goals first | with_reducible rfl | (refine ⟨?_,?_⟩ <;> with_reducible rfl)
   ·exact (Below.refl _ _).alloc (zG _) _
   ·exact ⟨hC.alloc hC.size _,wx.heap.size,rfl,MapV.made _ _ _ _,hC.size⟩
  rename Nat=>x6
  try simp only [Act.put,zD,zE,zF]
  refine grow_nil (fun w6 hC hF=>?_)
  have hmv:=upd_hit (hF 6) (by decide)
  have hC6:=HC5.out.trans (hC.mono HC5.out.size)
  have hm26:=HM24.out.below hC6
  try simp only [List.drop_succ_cons,List.drop_zero]
  refine wpList_set_v rfl (.tmp 26) (.tmp 28) (.tmp 29) 84 106 rfl lawS Tryz.underlying84 M2 cn (F2v F2) rfl hm26 (by unfold maxLen; omega) fk (.map (some x6)) rfl rfl HKS.out (fun w7 hm7 hg7=>?_)
  rw [F2v_put] at hm7
  have hxM:@Ne Nat x6 M1∧@Ne Nat x6 M2:=by
   have h1:=(mo_v HX2.out.al.m1.v).lt
   have h2:=(mo_v HX2.out.al.m2).lt
   have h3:=hmv.2
   have h4:=HC5.out.size
   exact ⟨fun e=>by omega,fun e=>by omega⟩
  have hs7:=hg7.size
  have hs6:=hC6.size
  have hM2l:M2<w2.heap.size:=(mo_v HX2.out.al.m2).lt
  have hm7':Mid w2 w7 X cn M1 M2 F1' F2 l2 i k (.agg #[.string tx,.int .i64 qk,.string qn,.slice A1 n1 c1,.slice A2 n2 c2,.slice A nn c]) x6:=by
   refine ⟨(HC4.out.then_new hC6).trans (O':=Own M1 M2 F2) (Chg.of_grown hg7 (fun b hb=>by injection hb with hb; exact .inr (.inl hb.symm))) (fun x hx=>.inl hx),(HM4.out.below hC6).kept hg7 (fun e=>by injection e with e; exact HX2.out.al.n12 e),by rw [HFK.out]; exact hm7,⟨noV,?_,fun j=>?_⟩,fun s m' hs hs'=>?_,.inr (by have:=hmv.2; have:=HC5.out.size; omega),hxM⟩
   ·exact (hmv.1.kept hg7 (fun e=>by injection e with e; exact hxM.2 e)).more (Nat.zero_le _)
   ·rw [HFK.out]
    exact ⟨fun h=>(nomatch h),fun h=>absurd h (HX2.out.al.nos fk HF2.out j)⟩
   ·have hlt:=((HX2.out.al.sub s m' hs').mo).lt
    have hn:=HX2.out.al.n1 s m' hs'
    exact ((hg7.block m' (by omega) (fun e=>by injection e with e; exact hn.2 e)).trans (hC6.block m' (by omega))).trans (K4.out m' hlt hn.1)
  have HMID:=zh hm7'
  have Hc7:Hid (∀ wx,Below w7.heap.size w7 wx→wx.cell? ⟨X,1,none⟩=some (.map (some M2))∧wx.cell? ⟨w.heap.size,0,none⟩=some (.string tx)∧wx.cell? ⟨w.heap.size,1,none⟩=some (.int .i64 qk)∧wx.cell? ⟨w.heap.size,2,none⟩=some (.string qn)∧wx.cell? ⟨w.heap.size,3,none⟩=some (.slice A1 n1 c1)∧wx.cell? ⟨w.heap.size,4,none⟩=some (.slice A2 n2 c2)∧wx.cell? ⟨w.heap.size,5,none⟩=some (.slice A nn c)):=zh (fun wx hb=>by
   have hC7:Chg (Own M1 M2 F2) w2 wx:=hm7'.chg.then_new hb
   have k1:=(blk_chg HX2.out.blk hC7 HX2.out.al.noSc).cell 1
   have r:=blk_chg HB2.out hC7 HX2.out.al.noSc
   have r0:=r.cell 0
   have r1:=r.cell 1
   have r2:=r.cell 2
   have r3:=r.cell 3
   have r4:=r.cell 4
   have r5:=r.cell 5
   simp only [zA,zB,zC] at k1 r0 r1 r2 r3 r4 r5
   exact ⟨k1,r0,r1,r2,r3,r4,r5⟩)
  have CF7:Hid (∀ wx,Below w7.heap.size w7 wx→Calls Tryz.prog 66 #[.agg #[.string tx,.int .i64 qk,.string qn,.slice A1 n1 c1,.slice A2 n2 c2,.slice A nn c]] wx fun e w'=>e=.returned (.string fk)∧Below wx.heap.size wx w'):=zh (fun wx hb=>by
   have hC7:Chg (Own M1 M2 F2) w2 wx:=hm7'.chg.then_new hb
   have:=first_any (HKV2.out.chg hC7 HX2.out.al.noSc)
   rwa [HFK.out] at this)
  clear hF hC hm7' hmv hC6 hm26 hm7 hg7 hs7 hs6 HC5 Hc5 CF5
  try simp only [Act.put,zD,zE,zF]
  have HLK2:=zh (looksS HMID.out.m2 lawS Tryz.underlying84 Tryz.zeroValue106 fk HKS.out (u:=.map (some x6)) (by unfold F2v putF; rw [HFK.out]; simp))
  go_upto_region 5 with (fail)
  refine wp_region_grow_tail 9 (specOf [(5,⟨Unit,fun _=>.string fk,fun _ _=>True⟩)]) (fun wx=>Below w7.heap.size w7 wx) (fun w1 w2=>Below w1.heap.size w1 w2) (by kernel_rfl) (by kernel_rfl) (stab_cons (fun x wa wb hg h=>trivial) (stab_nil)) ((Below.refl _ _).drew) ?_
  simp only [List.take_succ_cons,List.take_zero,List.drop_succ_cons,List.drop_zero]
  iterate 5
   refine grow_fix _ ?_ rfl (by rfl) (by rfl) (fun wx hC hD=>?_) ?_
   rotate_left
   ·have hSw:=Hc7.out wx hC
    go_simp
    all_goals with_reducible rfl
   try simp only [Act.put,zD,zE,zF]
  refine grow_give 6 _ rfl (by rfl) (by rfl) (fun wx hC hD=>?_) (fun x=>?_)
  ·refine give_enter (f:=?_) (args:=?_) ?_ ?_
   rotate_left 2
   ·have hSw:=Hc7.out wx hC
    go_simp
    all_goals first | with_reducible rfl | (refine ⟨?_,?_⟩ <;> with_reducible rfl)
   refine (CF7.out wx hC).mono ?_
   rintro e w9 ⟨rfl,hb9⟩
   exact ⟨_,rfl,hb9,hC.trans (hb9.mono hC.size),(),rfl,trivial⟩
  obtain ⟨⟩:=x
  try simp only [Act.put,zD,zE,zF]
  refine grow_fix 7 ?_ rfl (by rfl) (by rfl) (fun wx hC hD=>?_) ?_
  rotate_left
  ·have hlk:=HLK2.out wx hC
   have hSw:=Hc7.out wx hC
   go_simp
   all_goals with_reducible rfl
  try simp only [Act.put,zD,zE,zF]
  iterate 2
   refine grow_fix _ ?_ rfl (by rfl) (by rfl) (fun wx hC hD=>?_) ?_
   rotate_left
   ·have hSw:=Hc7.out wx hC
    go_simp
    all_goals with_reducible rfl
   try simp only [Act.put,zD,zE,zF]
  refine grow_nil (fun w9 hC hF=>?_)
  have hM9:=HMID.out.below HX2.out.al hC
  obtain ⟨f,hf,hfi⟩:=hM9.s
  try simp only [List.drop_succ_cons,List.drop_zero]
  refine wpList_set_v rfl (.tmp 36) (.tmp 37) (.tmp 38) 106 100 rfl lawI Tryz.underlying106 x6 cn f rfl hf (by unfold maxLen; omega) i (.agg #[]) rfl rfl HKI.out (fun w10 hm10 hg10=>?_)
  have FIN:Hid (PutP w X cn M1 M2 F2 l i k (.returned (.tuple #[])) w10):=zh (by
   obtain ⟨F1o,F2o,g1,g2,g3⟩:=hM9.fin HX2.out HI.out HKO.out HGN.out HKV2.out hfi hm10 hg10
   rw [HPD.out] at g1
   exact ⟨rfl,F1o,F2o,g1,HC02.out.trans g2 (fun x hx=>.inl hx),fun b hb=>(g3 b hb).imp id (fun h=>by omega)⟩)
  clear hF hC hM9 hf hfi hm10 hg10
  try simp only [Act.put,zD,zE,zF]
  go_wp2
  go_end0
  exact FIN.out
end Go.Proofs.YtlfpfkallgkjdaaGreat.Al
end
