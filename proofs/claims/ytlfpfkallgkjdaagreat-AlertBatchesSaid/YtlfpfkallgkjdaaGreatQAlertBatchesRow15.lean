/- What an event is near: plain. (No program in sight.) -/
import Derived.Deep.CutRange
import Derived.Test.YtlfpfkallgkjdaaGreatQAlertBatchesRow3
import Derived.Test.YtlfpfkallgkjdaaGreatQAlertBatchesRow10
import Derived.Test.YtlfpfkallgkjdaaGreatQAlertBatchesRow28
import Derived.Test.YtlfpfkallgkjdaaGreatQAlertBatchesRow0
import Derived.Test.YtlfpfkallgkjdaaGreatQAlertBatchesRow1
import Derived.Test.YtlfpfkallgkjdaaGreatQAlertBatchesRow25
import Derived.Test.YtlfpfkallgkjdaaGreatQAlertBatchesRow4
set_option linter.unusedSimpArgs false
set_option linter.unusedVariables false
set_option maxRecDepth 40000
section
namespace Go.Proofs.YtlfpfkallgkjdaaGreat.Al
open Go.RowKit Ut Tk Qy Ev
theorem based_tx (t:ByteArray):∀ (fs:List Fl) (b:Nat),(∃ p,(t,p)∈(basedL b fs).flatMap rawO)↔∃ f∈fs,∃ x∈words f.2.data.toList,t=termT f.1 x
 | [],b=>by simp [basedL]
 | f :: fs,b=>by
  simp only [basedL,List.flatMap_cons,List.mem_append,exists_or,based_tx t fs]
  constructor
  ·rintro (⟨p,hp⟩ | ⟨g,hg,h⟩)
   ·unfold rawO at hp
    obtain ⟨y,hy,e⟩:=List.mem_map.1 hp
    injection e with e1 _
    exact ⟨f,List.mem_cons_self ..,y.1,List.fst_mem_of_mem_zipIdx hy,e1.symm⟩
   ·exact ⟨g,List.mem_cons_of_mem _ hg,h⟩
  ·rintro ⟨g,hg,x,hx,e⟩
   rcases List.mem_cons.1 hg with rfl | hg
   ·left
    obtain ⟨i,hi,rfl⟩:=List.mem_iff_getElem.1 hx
    refine ⟨b+i,?_⟩
    unfold rawO
    refine List.mem_map.2 ⟨((words g.2.data.toList)[i],b+i),?_,by rw [e]⟩
    rw [List.mem_iff_getElem]
    exact ⟨i,by simpa using hi,by simp⟩
   ·exact .inr ⟨g,hg,x,hx,e⟩
def hasT (fs:List Fl) (t:ByteArray):Bool:=(addAll (raw fs)).any (fun x=>decide (x.1=t))
theorem hasT_mem (fs:List Fl) (t:ByteArray):hasT fs t=true↔∃ x∈addAll (raw fs),x.1=t:=by
 unfold hasT
 rw [List.any_eq_true]
 simp
theorem hasT_tx (fs:List Fl) (t:ByteArray):hasT fs t=true↔∃ f∈fs,∃ x∈words f.2.data.toList,t=termT f.1 x:=by
 rw [← based_tx t fs 0,hasT_mem]
 show _↔∃ p,(t,p)∈raw fs
 have hm:=(isTm_all (raw fs)).mem
 constructor
 ·rintro ⟨x,hx,rfl⟩
  obtain ⟨h1,h2⟩:=(hm x).1 hx
  obtain ⟨y,q,hq⟩:=List.exists_cons_of_ne_nil h1
  have hy:y∈(List.filter (fun y=>decide (y.1=x.1)) (raw fs)).map (·.2):=by rw [← h2,hq]; simp
  obtain ⟨z,hz,rfl⟩:=List.mem_map.1 hy
  obtain ⟨g1,g2⟩:=List.mem_filter.1 hz
  have g3:=of_decide_eq_true g2
  exact ⟨z.2,by rw [← g3]; exact g1⟩
 ·rintro ⟨p,hp⟩
  refine ⟨(t,(List.filter (fun y=>decide (y.1=t)) (raw fs)).map (·.2)),(hm _).2 ⟨fun e=>?_,rfl⟩,rfl⟩
  have:(t,p)∈List.filter (fun y=>decide (y.1=t)) (raw fs):=List.mem_filter.2 ⟨hp,by simp⟩
  have h2:p∈(List.filter (fun y=>decide (y.1=t)) (raw fs)).map (·.2):=List.mem_map.2 ⟨_,this,rfl⟩
  have e2:(List.filter (fun y=>decide (y.1=t)) (raw fs)).map (·.2)=[]:=e
  rw [e2] at h2
  cases h2
theorem needs_term:∀ q,∀ t∈needs q,∃ a b,termOk a b=true∧t=termV a b:=by
 refine Q.ind (fun k nm ws l ih t ht=>?_)
 rw [needs_eq] at ht
 split at ht
 ·rw [mem_addL] at ht
  rcases ht with ht | ht
  ·cases ht
  ·unfold termsL at ht
   obtain ⟨b,hb,ht⟩:=List.mem_flatMap.1 ht
   unfold termL at ht
   by_cases ho:termOk nm b=true
   ·rw [if_pos ho] at ht
    exact ⟨nm,b,ho,by simpa using ht⟩
   ·rw [if_neg ho] at ht; cases ht
 ·split at ht
  ·rw [mem_needsIn] at ht
   rcases ht with ht | ⟨q,hq,ht⟩
   ·cases ht
   ·exact ih q hq t ht
  ·cases ht
theorem needs_ne (q:Q):ByteArray.empty ∉ needs q:=fun h=>by
 obtain ⟨a,b,_,e⟩:=needs_term q _ h
 have h1:=congrArg ByteArray.size e
 unfold termV at h1
 rw [str_size] at h1
 unfold term at h1
 simp at h1
theorem needs_short (q:Q):∀ t∈needs q,t.size≤65:=fun t h=>by
 obtain ⟨a,b,ho,e⟩:=needs_term q _ h
 rw [e]
 exact (termV_size a b ho).1
theorem near_match (fs:List Fl) (q:Q) (h:matchB fs q=true):(needs q).all (hasT fs)=true:=by
 refine List.all_eq_true.2 (fun t ht=>?_)
 obtain ⟨a,b,ho,rfl,hm⟩:=needs_hit fs q h t ht
 rw [hasT_tx]
 rw [matchB_eq] at hm
 simp only [reduceCtorEq,if_false,if_true,true_or,show ¬ (2:Int)=1 by decide] at hm
 unfold leafB at hm
 obtain ⟨f,hf,h2⟩:=List.any_eq_true.1 hm
 rw [Bool.and_eq_true,beq_iff_eq] at h2
 have h3:=h2.2
 unfold leafT at h3
 simp only [show ¬ (2:Int)=3 by decide,if_false,if_true,Bool.and_eq_true,decide_eq_true_eq] at h3
 obtain ⟨_,i,hi,hs⟩:=(phr_pos _ _).1 h3.2
 have hg:=stands_get _ [b] i 0 hs (by simp)
 simp only [Nat.add_zero,List.getElem_cons_zero] at hg
 refine ⟨f,hf,b.data.toList,List.mem_of_getElem? hg,?_⟩
 unfold termT termV
 rw [h2.1]
end Go.Proofs.YtlfpfkallgkjdaaGreat.Al
end

section
namespace Go.Proofs.YtlfpfkallgkjdaaGreat.Al
open Go.RowKit Go.Maps Ut Tk Qy Qp Ev Mv
def Sc (w:World) (b:Nat):Prop:=∃ cs T fr,w.heap[b]?=some (.cells cs T fr)
def Mo (w:World) (b:Nat):Prop:=∃ es ck,w.heap[b]?=some (.map es ck)
theorem Sc.lt {w:World} {b:Nat} (h:Sc w b):b<w.heap.size:=by
 obtain ⟨cs,T,fr,h⟩:=h
 exact (Array.getElem?_eq_some_iff.1 h).1
theorem Mo.lt {w:World} {b:Nat} (h:Mo w b):b<w.heap.size:=by
 obtain ⟨es,ck,h⟩:=h
 exact (Array.getElem?_eq_some_iff.1 h).1
theorem Sc.same {w w':World} {b:Nat} (h:Sc w b) (e:w'.heap[b]?=w.heap[b]?):Sc w' b:=by
 obtain ⟨cs,T,fr,h⟩:=h
 exact ⟨cs,T,fr,e.trans h⟩
theorem Mo.same {w w':World} {b:Nat} (h:Mo w b) (e:w'.heap[b]?=w.heap[b]?):Mo w' b:=by
 obtain ⟨cs,T,h⟩:=h
 exact ⟨cs,T,e.trans h⟩
theorem Mo.not {w:World} {b:Nat} (h:Mo w b):¬ Sc w b:=fun ⟨cs,T,fr,h2⟩=>by
 obtain ⟨es,ck,h1⟩:=h
 rw [h1] at h2
 injection h2 with h2
 cases h2
theorem mo_v {κ:Type} {P:Program} {k:TypeId} {L:KeyLit κ} {w:World} {b n:Nat} {f : κ→Option Value} (h:MapV P k L w b n f):Mo w b:=h.obj
theorem sc_cell {w:World} {b o:Nat} {u:Value} (h:w.cell? ⟨b,o,none⟩=some u):Sc w b:=by
 unfold World.cell? at h
 split at h
 ·rename_i c t f hb
  exact ⟨c,t,f,hb⟩
 ·cases h
theorem reads_sc {w:World} {S:Nat→Prop} {k n:Nat} {A:Option Addr} {xs:List Value} (h:ReadsS w S k A n xs) (hk : 0<k):ReadsS w (Sc w) k A n xs:=by
 refine ⟨h.1,fun hn=>?_⟩
 obtain ⟨b,o,e,hb,hc⟩:=h.2 hn
 have hx : 0<xs.length:=by rw [h.1]; exact Nat.mul_pos hn hk
 have:=hc 0 xs[0] (List.getElem?_eq_getElem hx)
 exact ⟨b,o,e,sc_cell this,hc⟩
theorem qf_sc {w:World} {S:Nat→Prop} {q:Q} {vs:List Value} (h:QF w S q vs):QF w (Sc w) q vs:=by
 induction h with
 | mk vss hn hw hm hv h4 hl _ ih=>exact .mk vss hn (reads_sc hw (by decide)) hm hv h4 (reads_sc hl (by decide)) ih
theorem qf_chg {w w':World} {O:Nat→Prop} {q:Q} {vs:List Value} (h:QF w (Sc w) q vs) (hc:Chg O w w') (hO:∀ b,O b→¬ Sc w b):QF w' (Sc w') q vs :=
 (h.keep (fun b o hb=>cell_same (hc.block b hb.lt (fun e=>hO b e hb)) o)).mono (fun b hb=>hb.same (hc.block b hb.lt (fun e=>hO b e hb)))
theorem reads_chg {w w':World} {O:Nat→Prop} {k n:Nat} {A:Option Addr} {xs:List Value} (h:ReadsS w (Sc w) k A n xs) (hc:Chg O w w') (hO:∀ b,O b→¬ Sc w b):ReadsS w' (Sc w') k A n xs :=
 (h.keep (fun b o hb=>cell_same (hc.block b hb.lt (fun e=>hO b e hb)) o)).mono (fun b hb=>hb.same (hc.block b hb.lt (fun e=>hO b e hb)))
structure KOk (k:Kp):Prop where
 prs:PrsR k.text.data.toList 0 (some k.q)
 nd:k.needs=needs k.q
theorem KOk.q {k:Kp} (h:KOk k):QOk k.q:=(prs_ok h.prs).2.2
theorem KOk.short {k:Kp} (h:KOk k):∀ t∈k.needs,t.size≤65:=by rw [h.nd]; exact needs_short k.q
theorem KOk.few {k:Kp} (h:KOk k):k.needs.length≤1048576:=by
 rw [h.nd]
 exact Nat.le_trans (needs_len k.q) h.q.wq
theorem KOk.first {k:Kp} (h:KOk k):(first k).size≤65:=by
 have:=h.short
 unfold Al.first
 cases hn:k.needs with
 | nil=>simp
 | cons s t=>rw [hn] at this; exact this s (by simp)
def KpV (w:World) (k:Kp) (v:Value):Prop:=∃ a0 a1 a2 a3 A c,v=.agg #[.string k.text,a0,a1,a2,a3,.slice A k.needs.length c]∧QF w (Sc w) k.q [a0,a1,a2,a3]∧ReadsS w (Sc w) 1 A k.needs.length (bsv k.needs)
theorem KpV.chg {w w':World} {O:Nat→Prop} {k:Kp} {v:Value} (h:KpV w k v) (hc:Chg O w w') (hO:∀ b,O b→¬ Sc w b):KpV w' k v:=by
 obtain ⟨a0,a1,a2,a3,A,c,e,h1,h2⟩:=h
 exact ⟨a0,a1,a2,a3,A,c,e,qf_chg h1 hc hO,reads_chg h2 hc hO⟩
def SetM (w:World) (m cn:Nat) (p:Int→Prop):Prop:=∃ f,MapV Tryz.prog 3 litI w m cn f∧∀ i,(f i).isSome=true↔p i
theorem SetM.same {w w':World} {m cn:Nat} {p:Int→Prop} (h:SetM w m cn p) (e:w'.heap[m]?=w.heap[m]?):SetM w' m cn p:=by
 obtain ⟨f,h1,h2⟩:=h
 exact ⟨f,h1.same e,h2⟩
theorem SetM.more {w:World} {m cn cn':Nat} {p:Int→Prop} (h:SetM w m cn p) (hn:cn≤cn'):SetM w m cn' p:=by
 obtain ⟨f,h1,h2⟩:=h
 exact ⟨f,h1.more hn,h2⟩
theorem SetM.iff {w:World} {m cn:Nat} {p p':Int→Prop} (h:SetM w m cn p) (e:∀ i,p i↔p' i):SetM w m cn p':=by
 obtain ⟨f,h1,h2⟩:=h
 exact ⟨f,h1,fun i=>(h2 i).trans (e i)⟩
theorem SetM.mo {w:World} {m cn:Nat} {p:Int→Prop} (h:SetM w m cn p):Mo w m:=by
 obtain ⟨f,h1,_⟩:=h
 exact mo_v h1
def F2v (F2:ByteArray→Option Nat):ByteArray→Option Value:=fun s=>(F2 s).map (fun m=>.map (some m))
def putF (F2:ByteArray→Option Nat) (s:ByteArray) (m:Nat):ByteArray→Option Nat:=fun t=>if t=s then some m else F2 t
theorem F2v_put (F2:ByteArray→Option Nat) (s:ByteArray) (m:Nat):putV (F2v F2) s (.map (some m))=F2v (putF F2 s m):=by
 funext t
 unfold putV F2v putF
 split <;> rfl
def Own (M1 M2:Nat) (F2:ByteArray→Option Nat) (b:Nat):Prop:=b=M1∨b=M2∨∃ s,F2 s=some b
structure AlM (w:World) (cn M1 M2:Nat) (F1:Int→Option Value) (F2:ByteArray→Option Nat) (l:List (Int × Kp)):Prop where
 up:UpI l
 rng:∀ x∈l,0≤x.1∧x.1≤999999
 ok:∀ x∈l,KOk x.2
 m1:MapZ Tryz.prog 3 litI w M1 l.length F1
 kv:∀ i k,get l i=some k→∃ v,F1 i=some v∧KpV w k v
 kn:∀ i,get l i=none→F1 i=none
 m2:MapV Tryz.prog 9 litS w M2 cn (F2v F2)
 sub:∀ s m,F2 s=some m→SetM w m cn (Und l s)
 nos:∀ s,F2 s=none→∀ i,¬ Und l s i
 apart:∀ s t m,F2 s=some m→F2 t=some m→s=t
 n12:M1≠M2
 n1:∀ s m,F2 s=some m→m≠M1∧m≠M2
section
variable {w w':World} {cn M1 M2:Nat} {F1:Int→Option Value} {F2:ByteArray→Option Nat} {l:List (Int × Kp)}
theorem AlM.mo (h:AlM w cn M1 M2 F1 F2 l):∀ b,Own M1 M2 F2 b→Mo w b:=by
 rintro b (rfl | rfl | ⟨s,hs⟩)
 ·exact mo_v h.m1.v
 ·exact mo_v h.m2
 ·exact (h.sub s b hs).mo
theorem AlM.noSc (h:AlM w cn M1 M2 F1 F2 l):∀ b,Own M1 M2 F2 b→¬ Sc w b:=fun b hb=>(h.mo b hb).not
theorem AlM.iff (h:AlM w cn M1 M2 F1 F2 l) (i:Int):(F1 i).isSome=(get l i).isSome:=by
 cases hg:get l i with
 | none=>rw [h.kn i hg]; rfl
 | some k =>
  obtain ⟨v,e,_⟩:=h.kv i k hg
  rw [e]; rfl
theorem MapZ.same {κ:Type} {P:Program} {k:TypeId} {L:KeyLit κ} {b n:Nat} {f : κ→Option Value} (h:MapZ P k L w b n f) (e:w'.heap[b]?=w.heap[b]?):MapZ P k L w' b n f:=by
 obtain ⟨D,⟨es,clock,hb,r⟩,h2⟩:=h.ex
 exact ⟨D,⟨es,clock,e.trans hb,r⟩,h2⟩
theorem AlM.chg {O:Nat→Prop} (h:AlM w cn M1 M2 F1 F2 l) (hc:Chg O w w') (hO:∀ b,O b→¬ Sc w b) (hM:∀ b,O b→¬ Own M1 M2 F2 b):AlM w' cn M1 M2 F1 F2 l:=by
 have e:∀ b,Own M1 M2 F2 b→w'.heap[b]?=w.heap[b]?:=fun b hb=>hc.block b (h.mo b hb).lt (fun o=>hM b o hb)
 exact ⟨h.up,h.rng,h.ok,MapZ.same h.m1 (e _ (.inl rfl)),fun i k hk=>by
  obtain ⟨v,h1,h2⟩:=h.kv i k hk
  exact ⟨v,h1,h2.chg hc hO⟩,h.kn,h.m2.same (e _ (.inr (.inl rfl))),fun s m hs=>(h.sub s m hs).same (e _ (.inr (.inr ⟨s,hs⟩))),h.nos,h.apart,h.n12,h.n1⟩
theorem AlM.below (h:AlM w cn M1 M2 F1 F2 l) (hb:Below w.heap.size w w'):AlM w' cn M1 M2 F1 F2 l:=h.chg (O:=fun _=>False) (Chg.of_new hb) (fun _ h=>h.elim) (fun _ h=>h.elim)
theorem AlM.more (h:AlM w cn M1 M2 F1 F2 l) {cn':Nat} (hn:cn≤cn'):AlM w cn' M1 M2 F1 F2 l :=
 ⟨h.up,h.rng,h.ok,h.m1,h.kv,h.kn,h.m2.more hn,fun s m hs=>(h.sub s m hs).more hn,h.nos,h.apart,h.n12,h.n1⟩
theorem AlM.has (h:AlM w cn M1 M2 F1 F2 l) {i:Int} {k:Kp} (hk:get l i=some k):∃ m,F2 (first k)=some m:=by
 cases hs:F2 (first k) with
 | some m=>exact ⟨m,rfl⟩
 | none=>exact absurd ⟨k,hk,rfl⟩ (h.nos _ hs i)
theorem mem_drop {x:Int × Kp} {i:Int} (h:x∈drop l i):x∈l:=by
 unfold drop at h
 split at h
 ·rcases List.mem_append.1 h with h | h
  ·exact List.mem_of_mem_take h
  ·exact List.mem_of_mem_drop h
 ·exact h
theorem mem_put {x:Int × Kp} {i:Int} {k:Kp} (h:x∈put l i k):x=(i,k)∨x∈l:=by
 unfold put at h
 rcases List.mem_append.1 h with h | h
 ·exact .inr (List.mem_of_mem_take h)
 ·rcases List.mem_cons.1 h with h | h
  ·exact .inl h
  ·exact .inr (List.mem_of_mem_drop h)
theorem drop_no {i:Int} (h:get l i=none):drop l i=l:=by unfold drop; rw [h]; rfl
theorem AlM.del {i:Int} {k:Kp} {m:Nat} (h:AlM w cn M1 M2 F1 F2 l) (hk:get l i=some k) (hm:F2 (first k)=some m) (hc:Chg (Own M1 M2 F2) w w')
  (e1:MapZ Tryz.prog 3 litI w' M1 (l.length - 1) (delV F1 i)) (e2:w'.heap[M2]?=w.heap[M2]?) (e3:SetM w' m cn (fun j=>j≠i∧Und l (first k) j)) (e4:∀ s m',s≠first k→F2 s=some m'→w'.heap[m']?=w.heap[m']?) :
  AlM w' cn M1 M2 (delV F1 i) F2 (drop l i):=by
 have hlen:(drop l i).length=l.length - 1:=by rw [drop_len h.up,hk]; rfl
 refine ⟨drop_up h.up i,fun x hx=>h.rng x (mem_drop hx),fun x hx=>h.ok x (mem_drop hx),by rw [hlen]; exact e1,fun j k' hj=>?_,fun j hj=>?_,h.m2.same e2,fun s m' hs=>?_,fun s hs j hj=>?_,h.apart,h.n12,h.n1⟩
 ·rw [get_drop h.up] at hj
  split at hj
  ·cases hj
  ·rename_i hne
   obtain ⟨v,h1,h2⟩:=h.kv j k' hj
   exact ⟨v,by unfold delV; rw [if_neg hne]; exact h1,h2.chg hc h.noSc⟩
 ·rw [get_drop h.up] at hj
  unfold delV
  split at hj
  ·rename_i e
   rw [if_pos e]
  ·rename_i hne
   rw [if_neg hne]
   exact h.kn j hj
 ·by_cases e:s=first k
  ·subst e
   rw [hm] at hs
   injection hs with hs
   subst hs
   exact e3.iff (fun j=>(und_drop h.up i _ j).symm)
  ·refine ((h.sub s m' hs).same (e4 s m' e hs)).iff (fun j=>?_)
   rw [und_drop h.up]
   constructor
   ·intro hu
    refine ⟨fun e2=>?_,hu⟩
    obtain ⟨k',h1,h2⟩:=hu
    rw [e2,hk] at h1
    injection h1 with h1
    exact e (by rw [← h2,← h1])
   ·exact fun hu=>hu.2
 ·rw [und_drop h.up] at hj
  exact h.nos s hs j hj.2
theorem AlM.ins {i:Int} {k:Kp} {v:Value} {m:Nat} (h:AlM w cn M1 M2 F1 F2 l) (hi : 0≤i∧i≤999999) (hko:KOk k) (hk:get l i=none) (hv:KpV w k v) (hc:Chg (Own M1 M2 F2) w w')
  (e1:MapZ Tryz.prog 3 litI w' M1 (l.length+1) (putV F1 i v)) (e2:MapV Tryz.prog 9 litS w' M2 (cn+1) (F2v (putF F2 (first k) m))) (e3:SetM w' m (cn+1) (fun j=>j=i∨Und l (first k) j))
  (e4:∀ s m',s≠first k→F2 s=some m'→w'.heap[m']?=w.heap[m']?) (hm:F2 (first k)=some m∨w.heap.size≤m) :
  AlM w' (cn+1) M1 M2 (putV F1 i v) (putF F2 (first k) m) (put l i k):=by
 have hlen:(put l i k).length=l.length+1:=by rw [put_len h.up,hk]; rfl
 have hnm:∀ s,s≠first k→F2 s≠some m:=fun s hs e=>by
  rcases hm with hm | hm
  ·exact hs (h.apart _ _ _ e hm)
  ·have:=((h.sub s m e).mo).lt
   omega
 refine ⟨put_up h.up i k,fun x hx=>?_,fun x hx=>?_,by rw [hlen]; exact e1,fun j k' hj=>?_,fun j hj=>?_,e2,fun s m' hs=>?_,fun s hs j hj=>?_,fun s t m' hs ht=>?_,h.n12,fun s m' hs=>?_⟩
 ·rcases mem_put hx with rfl | hx
  ·exact hi
  ·exact h.rng x hx
 ·rcases mem_put hx with rfl | hx
  ·exact hko
  ·exact h.ok x hx
 ·rw [get_put h.up] at hj
  unfold putV
  split at hj
  ·rename_i e
   injection hj with hj
   subst hj
   rw [if_pos e]
   exact ⟨v,rfl,hv.chg hc h.noSc⟩
  ·rename_i hne
   obtain ⟨u,h1,h2⟩:=h.kv j k' hj
   exact ⟨u,by rw [if_neg hne]; exact h1,h2.chg hc h.noSc⟩
 ·rw [get_put h.up] at hj
  split at hj
  ·cases hj
  ·rename_i hne
   unfold putV
   rw [if_neg hne]
   exact h.kn j hj
 ·unfold putF at hs
  split at hs
  ·rename_i e
   injection hs with hs
   subst e hs
   refine e3.iff (fun j=>?_)
   rw [und_put h.up]
   constructor
   ·rintro (rfl | hu)
    ·exact .inl ⟨rfl,rfl⟩
    ·by_cases e:j=i
     ·exact .inl ⟨e,rfl⟩
     ·exact .inr ⟨e,hu⟩
   ·rintro (⟨e,_⟩ | ⟨_,hu⟩)
    ·exact .inl e
    ·exact .inr hu
  ·rename_i hne
   refine (((h.sub s m' hs).same (e4 s m' hne hs)).more (Nat.le_succ _)).iff (fun j=>?_)
   rw [und_put h.up]
   constructor
   ·intro hu
    refine .inr ⟨fun e=>?_,hu⟩
    obtain ⟨k',h1,_⟩:=hu
    rw [e,hk] at h1
    cases h1
   ·rintro (⟨_,e⟩ | ⟨_,hu⟩)
    ·exact absurd e.symm hne
    ·exact hu
 ·unfold putF at hs
  split at hs
  ·cases hs
  ·rename_i hne
   rw [und_put h.up] at hj
   rcases hj with ⟨_,e⟩ | ⟨_,hu⟩
   ·exact hne e.symm
   ·exact h.nos s hs j hu
 ·unfold putF at hs ht
  split at hs
  ·rename_i e
   split at ht
   ·rename_i e'
    rw [e,e']
   ·rename_i hne
    injection hs with hs
    subst hs
    exact absurd ht (hnm t hne)
  ·rename_i hne
   split at ht
   ·injection ht with ht
    subst ht
    exact absurd hs (hnm s hne)
   ·exact h.apart s t m' hs ht
 ·unfold putF at hs
  split at hs
  ·injection hs with hs
   subst hs
   rcases hm with hm | hm
   ·exact h.n1 _ _ hm
   ·have h1:=(mo_v h.m1.v).lt
    have h2:=(mo_v h.m2).lt
    constructor <;> omega
  ·exact h.n1 s m' hs
end
theorem AlM.empty (w:World) (M1 M2:Nat) (h1:MapZ Tryz.prog 3 litI w M1 0 noV) (h2:MapV Tryz.prog 9 litS w M2 0 noV) (hn:M1≠M2):AlM w 0 M1 M2 noV (fun _=>none) [] :=
 ⟨List.Pairwise.nil,fun x hx=>(nomatch hx),fun x hx=>(nomatch hx),h1,fun i k h=>(nomatch h),fun i h=>rfl,h2.congr (fun s=>rfl),fun s m h=>(nomatch h),fun s h i hu=>und_nil s i hu,fun s t m h=>(nomatch h),hn,fun s m h=>(nomatch h)⟩
end Go.Proofs.YtlfpfkallgkjdaaGreat.Al
end

section
namespace Go.Proofs.YtlfpfkallgkjdaaGreat.Al
open Go.RowKit Go.Maps Ut Tk Qy Qp Ev Mv
theorem lawI:Keyed Tryz.prog 3:=int_keyed Tryz.underlying3
theorem lawS:Keyed Tryz.prog 9:=string_keyed Tryz.underlying9
def I64 (i:Int):Prop:=(Lit.int .i64 i).wf=true
theorem I64.of {i:Int} (h : 0≤i∧i≤999999):I64 i:=by
 unfold I64
 simp [Lit.wf,IntKind.min,IntKind.max,IntKind.signed,IntKind.bits]
 omega
theorem keyI {i:Int} (h:I64 i):keyOf Tryz.prog 3 (litI.val i)=some (litI.lit i):=keyOf_int_mk Tryz.underlying3 h
theorem keyS {s:ByteArray} (h:s.size≤maxLen):keyOf Tryz.prog 9 (litS.val s)=some (litS.lit s):=Go.WideMaps.keyOf_string_mk Tryz.underlying9 h
theorem eq1_some (b:Nat) (w:World):(binOp .eql 83 (.map (some b)) (.map none)).run Tryz.prog w=.ok (.bool false) w:=by kernel_rfl
theorem eq3_some (b:Nat) (w:World):(binOp .eql 106 (.map (some b)) (.map none)).run Tryz.prog w=.ok (.bool false) w:=by kernel_rfl
theorem eq3_none (w:World):(binOp .eql 106 (.map none) (.map none)).run Tryz.prog w=.ok (.bool true) w:=by kernel_rfl
theorem mk1 (w:World):(Instr.makeMap 83 none).run Tryz.prog w=.ok (.map (some w.heap.size)) (w.alloc (.map #[] 0)):=rfl
theorem mk2 (w:World):(Instr.makeMap 84 none).run Tryz.prog w=.ok (.map (some w.heap.size)) (w.alloc (.map #[] 0)):=rfl
theorem mk3 (w:World):(Instr.makeMap 106 none).run Tryz.prog w=.ok (.map (some w.heap.size)) (w.alloc (.map #[] 0)):=rfl
theorem wpList_del_v {κ:Type} [DecidableEq κ] {P:Program} {k:TypeId} {L:KeyLit κ} {w:World} {ops:Array Oper} {rest:List Oper} {o:Oper} {a:Act} {Q:Exit→Act→World→Prop}
  (hg:o.guard=none) (m x:Operand) (t e:TypeId) (hop:o.op=Op.call { callee:=Callee.builtin Builtin.delete,args:=#[m,x],argTypes:=#[t,k] }) (K:Keyed P k) (ht:P.underlying t=some (.map k e)) (b n:Nat) (f : κ→Option Value)
  (hm:a.eval m=.map (some b)) (h:MapV P k L w b n f) (s : κ) (hx:a.eval x=L.val s) (hkey:keyOf P k (L.val s)=some (L.lit s))
  (hK:∀ w',MapV P k L w' b n (delV f s)→w.grownBy w' (some b)→wpList P ops Q rest (a.put o.dst (.tuple #[])) w'):wpList P ops Q (o :: rest) a w:=by
 obtain ⟨D,h1,h2⟩:=h.ex
 exact wpList_delete_own w hg m x t k hop e K ht rawR b n D hm h1 (L.val s) (L.lit s) hx hkey (fun w' ho htr=>hK w' ⟨⟨_,ho,h2.del s⟩⟩ htr.grown)
structure AlX (w:World) (X cn M1 M2:Nat) (F1:Int→Option Value) (F2:ByteArray→Option Nat) (l:List (Int × Kp)):Prop where
 blk:Blk w X 86 #[.map (some M1),.map (some M2)]
 al:AlM w cn M1 M2 F1 F2 l
theorem blk_sc {w:World} {X:Nat} {T:TypeId} {cs:Array Value} (h:Blk w X T cs):Sc w X:=⟨cs,T,_,h⟩
theorem AlX.notX {w:World} {X cn M1 M2:Nat} {F1:Int→Option Value} {F2:ByteArray→Option Nat} {l:List (Int × Kp)} (h:AlX w X cn M1 M2 F1 F2 l):¬ Own M1 M2 F2 X:=fun ho=>h.al.noSc X ho (blk_sc h.blk)
theorem blk_chg {w w':World} {X:Nat} {T:TypeId} {cs:Array Value} {O:Nat→Prop} (h:Blk w X T cs) (hc:Chg O w w') (hO:∀ b,O b→¬ Sc w b):Blk w' X T cs:=(hc.block X h.lt (fun o=>hO X o (blk_sc h))).trans h
theorem AlX.below {w w':World} {X cn M1 M2:Nat} {F1:Int→Option Value} {F2:ByteArray→Option Nat} {l:List (Int × Kp)} (h:AlX w X cn M1 M2 F1 F2 l) (hb:Below w.heap.size w w'):AlX w' X cn M1 M2 F1 F2 l:=⟨h.blk.below hb h.blk.lt,h.al.below hb⟩
theorem AlX.c0 {w:World} {X cn M1 M2:Nat} {F1:Int→Option Value} {F2:ByteArray→Option Nat} {l:List (Int × Kp)} (h:AlX w X cn M1 M2 F1 F2 l):w.cell? ⟨X,0,none⟩=some (.map (some M1)):=by
 have:=h.blk.cell 0
 simpa using this
theorem AlX.c1 {w:World} {X cn M1 M2:Nat} {F1:Int→Option Value} {F2:ByteArray→Option Nat} {l:List (Int × Kp)} (h:AlX w X cn M1 M2 F1 F2 l):w.cell? ⟨X,1,none⟩=some (.map (some M2)):=by
 have:=h.blk.cell 1
 simpa using this
def NewP (w:World) (e:Ending) (w':World):Prop:=∃ X M1 M2,e=.returned (.pointer (some ⟨X,0,none⟩))∧AlX w' X 0 M1 M2 noV (fun _=>none) []∧Below w.heap.size w w'∧w.heap.size≤M1∧w.heap.size≤M2∧w.heap.size≤X
theorem new_any (w:World):Calls Tryz.prog 9 #[] w (NewP w):=by
 have h1:=mk1
 have h2:=mk2
 go_enter Tryz.func9,Tryz.ntmps9
 go_wp2
 go_ret
 have m1:=MapZ.made Tryz.prog 3 litI w
 have m2:=MapV.made Tryz.prog 9 litS (w.alloc (.map #[] 0))
 have b1:Below w.heap.size w (w.alloc (.map #[] 0)):=(Below.refl _ _).alloc (zG _) _
 have b2:Below (w.alloc (.map #[] 0)).heap.size (w.alloc (.map #[] 0)) ((w.alloc (.map #[] 0)).alloc (.map #[] 0)):=(Below.refl _ _).alloc (zG _) _
 have b3:Below ((w.alloc (.map #[] 0)).alloc (.map #[] 0)).heap.size ((w.alloc (.map #[] 0)).alloc (.map #[] 0)) (((w.alloc (.map #[] 0)).alloc (.map #[] 0)).alloc (.cells #[.map (some w.heap.size),.map (some (w.heap.size+1))] 86)):=(Below.refl _ _).alloc (zG _) _
 have hX:=Blk.new ((w.alloc (.map #[] 0)).alloc (.map #[] 0)) 86 #[.map (some w.heap.size),.map (some (w.heap.size+1))]
 have s1:(w.alloc (.map #[] 0)).heap.size=w.heap.size+1:=by simp
 have s2:((w.alloc (.map #[] 0)).alloc (.map #[] 0)).heap.size=w.heap.size+1+1:=by simp
 rw [s1] at m2
 rw [s2] at hX
 have hal:=AlM.empty _ w.heap.size (w.heap.size+1) ((m1.below b2).below b3) (m2.below b3) (by omega)
 exact ⟨w.heap.size+1+1,w.heap.size,w.heap.size+1,rfl,⟨hX,hal⟩,(b1.trans (b2.mono (by omega))).trans (b3.mono (by omega)),zG _,by omega,by omega⟩
set_option maxHeartbeats 400000 in
theorem none_no {w:World} {X M1:Nat} (c0:w.cell? ⟨X,0,none⟩=some (.map (some M1))):Calls Tryz.prog 33 #[.pointer (some ⟨X,0,none⟩)] w fun e w'=>e=.returned (.bool false)∧w=w':=by
 have e1:=fun b=>eq1_some b w
 go_enter Tryz.func33,Tryz.ntmps33
 go_wp2
 go_ret
 exact ⟨rfl,rfl⟩
theorem KpV.parts {w:World} {k:Kp} {v:Value} (h:KpV w k v):∃ A1 n1 c1 A2 n2 c2 A c,v=.agg #[.string k.text,.int .i64 k.q.kind,.string k.q.name,.slice A1 n1 c1,.slice A2 n2 c2,.slice A k.needs.length c]∧QF w (Sc w) k.q [.int .i64 k.q.kind,.string k.q.name,.slice A1 n1 c1,.slice A2 n2 c2]∧ReadsS w (Sc w) 1 A k.needs.length (bsv k.needs):=by
 obtain ⟨a0,a1,a2,a3,A,c,rfl,h1,h2⟩:=h
 obtain ⟨A1,n1,c1,A2,n2,c2,e⟩:=h1.four
 simp only [List.cons.injEq,and_true] at e
 obtain ⟨rfl,rfl,rfl,rfl⟩:=e
 exact ⟨A1,n1,c1,A2,n2,c2,A,c,rfl,h1,h2⟩
set_option maxHeartbeats 800000 in
theorem first_any {w:World} {k:Kp} {v:Value} (h:KpV w k v):Calls Tryz.prog 66 #[v] w fun e w'=>e=.returned (.string (first k))∧Below w.heap.size w w':=by
 obtain ⟨A1,n1,c1,A2,n2,c2,A,c,rfl,_,hR⟩:=h.parts
 clear h
 generalize k.text=tx
 generalize k.q.kind=qk
 generalize k.q.name=qn
 have hb:=(Below.refl w.heap.size w).alloc (zG _) (.cells #[.string tx,.int .i64 qk,.string qn,.slice A1 n1 c1,.slice A2 n2 c2,.slice A k.needs.length c] 92)
 have Hb:=zh hb
 cases hn:k.needs with
 | nil =>
  rw [hn] at Hb
  have hf:first k=ByteArray.empty:=by unfold Al.first; rw [hn]; rfl
  rw [hf]
  clear hR hf hb hn
  simp only [List.length_nil] at *
  go_enter Tryz.func66,Tryz.ntmps66
  go_wp2
  go_ret
  exact ⟨rfl,Hb.out⟩
 | cons s t =>
  rw [hn] at hR Hb
  have hf:first k=s:=by unfold Al.first; rw [hn]; rfl
  rw [hf]
  obtain ⟨b,o,rfl,hS,hc⟩:=hR.2 (by simp)
  have hbl:=hS.lt
  have h0:=hc 0 (.string s) rfl
  rw [Nat.add_zero] at h0
  have h1:=(hb.cell (p:=⟨b,o,none⟩) hbl).trans h0
  rw [hn] at h1
  generalize hm:(s :: t).length=m at *
  have hm1 : 0<m:=by rw [← hm]; simp
  have hm2:((m:Int) == 0)=false:=beq_eq_false_iff_ne.2 (by omega)
  clear hR hf hb hn hS hc hm
  go_enter Tryz.func66,Tryz.ntmps66
  go_wp2
  go_ret
  exact ⟨rfl,Hb.out⟩
end Go.Proofs.YtlfpfkallgkjdaaGreat.Al
end

section
namespace Go.Proofs.YtlfpfkallgkjdaaGreat.Al
open Go.RowKit Ut Tk Qy
def itv (l:List Int):List Value:=l.map (Value.int .i64)
theorem itv_len (l:List Int):(itv l).length=l.length:=by simp [itv]
theorem itv_get (l:List Int) (k:Nat) (h:k<l.length):(itv l)[k]?=some (.int .i64 l[k]):=by unfold itv; rw [List.getElem?_map,List.getElem?_eq_getElem h]; rfl
theorem bsv_get (l:List ByteArray) (k:Nat) (h:k<l.length):(bsv l)[k]?=some (.string l[k]):=by unfold bsv; rw [List.getElem?_map,List.getElem?_eq_getElem h]; rfl
set_option maxHeartbeats 800000 in
theorem indexStr (TA:Option Addr) (n tc:Nat) (T:List ByteArray) (f:Nat) (lb:Array Value) (p:Nat→Bool) (w:World) (hcf:∀ args wx,(callFunc f args).run Tryz.prog wx=.ok (.enter f args) wx) (hT:Reads w w.heap.size 1 TA n (bsv T)) (hn:T.length=n) (hn2:n≤8796093021952)
  (hf:∀ i (h:i<T.length) wx,Below w.heap.size w wx→Calls Tryz.prog f (#[.string T[i]] ++ lb) wx fun e w'=>e=.returned (.bool (p i))∧Below wx.heap.size wx w') :
  Calls Tryz.prog 77 #[.slice TA n tc,.func (.func f) #[] lb] w fun e w'=>e=.returned (.int .i64 (idxF p n))∧Below w.heap.size w w':=by
 have HT:=zh hT
 have Hn:=zh hn
 have Hf:=zh hf
 clear hT hn hf
 go_enter Tryz.func77,Tryz.ntmps77
 go_wp2
 go_loopw [8] (fun i wr=>∃ k:Nat,k≤n∧i=.int .i64 k∧(∀ j,j<k→p j=false)∧Below w.heap.size w wr) (fun i _=>n - (intOf i).toNat)
 case atStart=>exact ⟨0,Nat.zero_le _,rfl,fun j hj=>by omega,Below.refl _ _⟩
 case round =>
  obtain ⟨k,hk,rfl,hal,hb⟩:=hrel
  have Hal:=zh hal
  have Hb:=zh hb
  clear hal hb
  by_cases hlt:k<n
  ·obtain ⟨tb,tq,rfl,htb,hcl⟩:=HT.out.2 (by omega)
   have hc1:=hcl k _ (bsv_get T k (by rw [Hn.out]; exact hlt))
   have hd1:=(Hb.out.cell (p:=⟨tb,tq+k,none⟩) htb).trans hc1
   have c1:=Hf.out k (by rw [Hn.out]; exact hlt) wr Hb.out
   clear hc1 hcl
   have Hs:Hid (∀ b,p k=b→(b=true→idxF p n=(k:Int))∧(b=false→∀ j,j<k+1→p j=false)):=zh (fun b hb=>⟨fun e=>idxF_hit p n k hlt Hal.out (by rw [hb,e]),fun e j hj=>by
    by_cases hjk:j=k
    ·rw [hjk,hb,e]
    ·exact Hal.out j (by omega)⟩)
   generalize (T[k]'(by rw [Hn.out]; exact hlt))=x at *
   cases hp:p k with
   | true =>
    have Fin:=zh ((Hs.out _ hp).1 rfl)
    rw [hp] at c1
    clear hp Hs
    go_wp2_with fail
    refine c1.mono ?_
    rintro e w2 ⟨rfl,hb2⟩
    have Hb2:=zh (Hb.out.trans (hb2.mono Hb.out.size))
    clear hb2 c1
    go_wp2
    go_ret
    exact ⟨by rw [Fin.out]; rfl,Hb2.out⟩
   | false =>
    have Hn2:=zh ((Hs.out _ hp).2 rfl)
    rw [hp] at c1
    clear hp Hs
    go_wp2_with fail
    refine c1.mono ?_
    rintro e w2 ⟨rfl,hb2⟩
    have Hb2:=zh (Hb.out.trans (hb2.mono Hb.out.size))
    clear hb2 c1
    go_wp2
    go_roundw
    case rel=>exact ⟨k+1,by omega,by go_num,Hn2.out,Hb2.out⟩
    case measure=>simp [intOf]; omega
  ·obtain rfl:k=n:=by omega
   have Fin:=zh (idxF_no p k Hal.out)
   go_wp2
   go_ret
   exact ⟨by rw [Fin.out]; rfl,Hb.out⟩
set_option maxHeartbeats 400000 in
theorem containsStr (TA:Option Addr) (n tc:Nat) (T:List ByteArray) (f:Nat) (lb:Array Value) (p:Nat→Bool) (w:World) (hcf:∀ args wx,(callFunc f args).run Tryz.prog wx=.ok (.enter f args) wx) (hT:Reads w w.heap.size 1 TA n (bsv T)) (hn:T.length=n) (hn2:n≤8796093021952)
  (hf:∀ i (h:i<T.length) wx,Below w.heap.size w wx→Calls Tryz.prog f (#[.string T[i]] ++ lb) wx fun e w'=>e=.returned (.bool (p i))∧Below wx.heap.size wx w') :
  Calls Tryz.prog 41 #[.slice TA n tc,.func (.func f) #[] lb] w fun e w'=>e=.returned (.bool ((List.range n).any p))∧Below w.heap.size w w':=by
 have c1:=indexStr TA n tc T f lb p w hcf hT hn hn2 hf
 have Fin:=zh (idxF_any p n)
 clear hT hn hn2 hf hcf
 generalize idxF p n=z at *
 go_enter Tryz.func41,Tryz.ntmps41
 go_wp2_with fail
 refine c1.mono ?_
 rintro e w1 ⟨rfl,hb1⟩
 have Hb1:=zh hb1
 clear hb1 c1
 go_wp2
 go_ret
 exact ⟨by rw [← Fin.out]; simp,Hb1.out⟩
set_option maxHeartbeats 800000 in
theorem indexInt (TA:Option Addr) (n tc:Nat) (T:List Int) (f:Nat) (lb:Array Value) (p:Nat→Bool) (w:World) (hcf:∀ args wx,(callFunc f args).run Tryz.prog wx=.ok (.enter f args) wx) (hT:Reads w w.heap.size 1 TA n (itv T)) (hn:T.length=n) (hn2:n≤8796093021952)
  (hf:∀ i (h:i<T.length) wx,Below w.heap.size w wx→Calls Tryz.prog f (#[.int .i64 T[i]] ++ lb) wx fun e w'=>e=.returned (.bool (p i))∧Below wx.heap.size wx w') :
  Calls Tryz.prog 80 #[.slice TA n tc,.func (.func f) #[] lb] w fun e w'=>e=.returned (.int .i64 (idxF p n))∧Below w.heap.size w w':=by
 have HT:=zh hT
 have Hn:=zh hn
 have Hf:=zh hf
 clear hT hn hf
 go_enter Tryz.func80,Tryz.ntmps80
 go_wp2
 go_loopw [8] (fun i wr=>∃ k:Nat,k≤n∧i=.int .i64 k∧(∀ j,j<k→p j=false)∧Below w.heap.size w wr) (fun i _=>n - (intOf i).toNat)
 case atStart=>exact ⟨0,Nat.zero_le _,rfl,fun j hj=>by omega,Below.refl _ _⟩
 case round =>
  obtain ⟨k,hk,rfl,hal,hb⟩:=hrel
  have Hal:=zh hal
  have Hb:=zh hb
  clear hal hb
  by_cases hlt:k<n
  ·obtain ⟨tb,tq,rfl,htb,hcl⟩:=HT.out.2 (by omega)
   have hc1:=hcl k _ (itv_get T k (by rw [Hn.out]; exact hlt))
   have hd1:=(Hb.out.cell (p:=⟨tb,tq+k,none⟩) htb).trans hc1
   have c1:=Hf.out k (by rw [Hn.out]; exact hlt) wr Hb.out
   clear hc1 hcl
   have Hs:Hid (∀ b,p k=b→(b=true→idxF p n=(k:Int))∧(b=false→∀ j,j<k+1→p j=false)):=zh (fun b hb=>⟨fun e=>idxF_hit p n k hlt Hal.out (by rw [hb,e]),fun e j hj=>by
    by_cases hjk:j=k
    ·rw [hjk,hb,e]
    ·exact Hal.out j (by omega)⟩)
   generalize (T[k]'(by rw [Hn.out]; exact hlt))=x at *
   cases hp:p k with
   | true =>
    have Fin:=zh ((Hs.out _ hp).1 rfl)
    rw [hp] at c1
    clear hp Hs
    go_wp2_with fail
    refine c1.mono ?_
    rintro e w2 ⟨rfl,hb2⟩
    have Hb2:=zh (Hb.out.trans (hb2.mono Hb.out.size))
    clear hb2 c1
    go_wp2
    go_ret
    exact ⟨by rw [Fin.out]; rfl,Hb2.out⟩
   | false =>
    have Hn2:=zh ((Hs.out _ hp).2 rfl)
    rw [hp] at c1
    clear hp Hs
    go_wp2_with fail
    refine c1.mono ?_
    rintro e w2 ⟨rfl,hb2⟩
    have Hb2:=zh (Hb.out.trans (hb2.mono Hb.out.size))
    clear hb2 c1
    go_wp2
    go_roundw
    case rel=>exact ⟨k+1,by omega,by go_num,Hn2.out,Hb2.out⟩
    case measure=>simp [intOf]; omega
  ·obtain rfl:k=n:=by omega
   have Fin:=zh (idxF_no p k Hal.out)
   go_wp2
   go_ret
   exact ⟨by rw [Fin.out]; rfl,Hb.out⟩
end Go.Proofs.YtlfpfkallgkjdaaGreat.Al
end

section
namespace Go.Proofs.YtlfpfkallgkjdaaGreat.Mx
open Go.RowKit Ut Tk Qy Ev Qp Mv
structure RIx (w:World) (Rr:Nat→Prop) (B:Nat) (A:Option Addr) (n c:Nat) (ds:List Dc):Prop where
 rd:DocsS w Rr (fun b=>Rr b∨b<B) A n ds
 cap:n≤c
 nl:A=none→c=0
 lt:∀ b,Rr b→b<w.heap.size
 bw:B≤w.heap.size
theorem RIx.below {w w':World} {Rr Rr':Nat→Prop} {B:Nat} {A:Option Addr} {n c:Nat} {ds:List Dc} (h:RIx w Rr B A n c ds) (hb:Below w.heap.size w w') (hR:∀ b,Rr b→Rr' b) (hL:∀ b,Rr' b→b<w'.heap.size):RIx w' Rr' B A n c ds :=
 ⟨h.rd.same (fun b hr=>⟨hR b hr,hb.block b (h.lt b hr)⟩) (fun b hr=>⟨hr.imp (hR b) id,hb.block b (hr.elim (h.lt b) (fun q=>Nat.lt_of_lt_of_le q h.bw))⟩),h.cap,h.nl,hL,Nat.le_trans h.bw hb.size⟩
end Go.Proofs.YtlfpfkallgkjdaaGreat.Mx
end
