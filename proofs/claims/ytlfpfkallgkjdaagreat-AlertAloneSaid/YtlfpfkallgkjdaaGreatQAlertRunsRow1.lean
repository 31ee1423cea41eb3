/- Arguments that came in, opened to what the walks ask. -/
import Derived.ProofKit
import Derived.OpenShut
import Derived.ShutString
import Derived.ChangeOld
import Derived.SliceStrings
import Derived.SizedLaws
import Derived.Maps.OwnOps
import Derived.Sort.Walk0
import Derived.Maps.AppendAt
import Derived.BigQuiet
import Derived.OwnWalk
import Derived.Laws.ResultCell
import Derived.Test.YtlfpfkallgkjdaaGreatProg
import Derived.Lib.Hide
import Derived.Deep.Slices
import Derived.Deep.Strs
import Derived.Lib.SmallJoins
import Derived.Test.YtlfpfkallgkjdaaGreatQAlertRunsRow0
import Derived.Test.YtlfpfkallgkjdaaGreatQAlertRunsRow2
import Derived.Test.YtlfpfkallgkjdaaGreatQAlertRunsRow3
import Derived.Test.YtlfpfkallgkjdaaGreatQAlertRunsRow4
import Derived.Test.YtlfpfkallgkjdaaGreatQAlertRunsRow12
import Derived.Test.YtlfpfkallgkjdaaGreatQAlertRunsRow15
import Derived.Test.YtlfpfkallgkjdaaGreatQAlertRunsRow33
import Derived.Test.YtlfpfkallgkjdaaGreatQAlertRunsRow17
set_option linter.unusedSimpArgs false
set_option linter.unusedVariables false
set_option maxRecDepth 20000
section
namespace Go.Proofs.YtlfpfkallgkjdaaGreat
open Go.RowKit Go.ChangeShapes Go.WideShapes Go.ChangeAt
section
variable {H:Type} {enc:TypeId × Value→H} {P:Program} {W:World} {base:Nat} {t e:TypeId} {v:Value} {d:DataW H} {p:List MemPlace}
theorem weights_le {ts:List TypeId} {ds:List (DataW H)} (h:(DataW.weightsEach P ts ds).all (·≤reachBytes)=true) {j:Nat} (ht:ts[j]?=some t) (hd:ds[j]?=some d):∀ n∈d.weights P t,n≤140737488351232:=by
 intro n hn
 have:=List.all_eq_true.1 h _ (DataW.weights_mem_each ht hd n hn)
 have e:reachBytes=140737488351232:=by decide
 rw [← e]
 simpa using this
theorem weightsAll_mem {e:TypeId} {y:DataW H}:∀ {l:List (DataW H)},y∈l→∀ n∈y.weights P e,n∈DataW.weightsAll P e l
 | [],h,_,_=>by cases h
 | x :: l,h,n,hn=>by
  simp only [DataW.weightsAll,List.mem_append]
  rcases List.mem_cons.1 h with rfl | h
  ·exact Or.inl hn
  ·exact Or.inr (weightsAll_mem h n hn)
theorem range_map_getD {α:Type} (l:List α) (x : α) (n:Nat) (h:n≤l.length):(List.range n).map (fun i=>l.getD i x)=l.take n:=by
 apply List.ext_getElem
 ·simp; omega
 ·intro i h1 h2
  simp at h1
  simp [List.getD_eq_getElem?_getD,List.getElem?_eq_getElem (show i<l.length by omega)]
theorem str_in (ht:P.underlying t=some .string) (hv:Value.okWide P W .any base t v) (h:DataW.Trod enc P W 0 (fun _=>true) true t v d p) (hw:∀ n∈d.weights P t,n≤140737488351232) :
  ∃ s,v=.string s∧s.size≤140737488351232:=by
 obtain ⟨s,rfl,rfl,rfl,hs⟩:=Go.ChangeMaps.open_string ht hv h
 refine ⟨s,rfl,?_⟩
 have:=hw s.data.toList.length (by simp [DataW.weights])
 rwa [bsize] at this
end
end Go.Proofs.YtlfpfkallgkjdaaGreat
end

section
namespace Go.Proofs.YtlfpfkallgkjdaaGreat.Mv
open Go.RowKit Go.Maps
theorem owns_tight {H:Type} {P:Program} {k:TypeId} {R:Value→Option (DataW H × List MemPlace)} {w:World} {b n:Nat} {D:DataW H} (h:w.ownsMap P k R b n D):w.ownsMap P k R b (Maps.size D) D:=by
 obtain ⟨es,clock,hb,F,hs,rfl⟩:=h
 exact ⟨es,clock,hb,F,by simp [Maps.size,length_sorted],rfl⟩
structure MapZ {κ:Type} (P:Program) (k:TypeId) (L:KeyLit κ) (w:World) (b n:Nat) (f : κ→Option Value):Prop where
 ex:∃ D,w.ownsMap P k rawR b n D∧TabV L D f∧Maps.size D=n
section
variable {κ:Type} {P:Program} {k:TypeId} {L:KeyLit κ} {w w':World} {b n:Nat} {f g : κ→Option Value}
theorem MapZ.v (h:MapZ P k L w b n f):MapV P k L w b n f:=by
 obtain ⟨D,h1,h2,_⟩:=h.ex
 exact ⟨D,h1,h2⟩
theorem MapZ.made (P:Program) (k:TypeId) (L:KeyLit κ) (w:World):MapZ P k L (w.alloc (.map #[] 0)) w.heap.size 0 noV:=⟨⟨_,World.ownsMap_made w P k rawR,TabV.none,rfl⟩⟩
theorem MapZ.kept {row:Option Nat} (h:MapZ P k L w b n f) (hg:w.grownBy w' row) (hne:some b≠row):MapZ P k L w' b n f:=by
 obtain ⟨D,h1,h2,h3⟩:=h.ex
 exact ⟨⟨D,h1.kept hg hne,h2,h3⟩⟩
theorem MapZ.below (h:MapZ P k L w b n f) (hb:Below w.heap.size w w'):MapZ P k L w' b n f:=h.kept (grow_of_below hb none) (by simp)
theorem MapZ.congr (h:MapZ P k L w b n f) (e:∀ s,f s=g s):MapZ P k L w b n g:=by
 obtain ⟨D,h1,h2,h3⟩:=h.ex
 exact ⟨⟨D,h1,h2.congr e,h3⟩⟩
theorem MapZ.lt (h:MapZ P k L w b n f):b<w.heap.size:=by
 obtain ⟨D,h1,_,_⟩:=h.ex
 exact h1.lt
end
theorem wpList_set_z {κ:Type} [DecidableEq κ] {P:Program} {k:TypeId} {L:KeyLit κ} {w:World} {ops:Array Oper} {rest:List Oper} {o:Oper} {a:Act} {Q:Exit→Act→World→Prop}
  (hg:o.guard=none) (m x v:Operand) (t e:TypeId) (hop:o.op=Op.mapUpdate t m x v) (K:Keyed P k) (ht:P.underlying t=some (.map k e)) (b n:Nat) (f : κ→Option Value)
  (hm:a.eval m=.map (some b)) (h:MapZ P k L w b n f) (hn:n<maxLen) (s : κ) (val:Value) (hx:a.eval x=L.val s) (hv:a.eval v=val) (hkey:keyOf P k (L.val s)=some (L.lit s))
  (hK:∀ w',MapZ P k L w' b (if (f s).isSome then n else n+1) (putV f s val)→w.grownBy w' (some b)→wpList P ops Q rest (a.put o.dst undef) w'):wpList P ops Q (o :: rest) a w:=by
 obtain ⟨D,h1,h2,h3⟩:=h.ex
 refine wpList_mapUpdate_own w hg m x v t hop k e K ht rawR b n D hm h1 hn (L.val s) val (L.lit s) hx hv hkey _ _ (rawR_mk val) (fun w' ho hgr=>hK w' ⟨⟨_,?_,h2.put h1.isMap s val,?_⟩⟩ hgr)
 ·have e1:=size_put (k:=L.lit s) (h1.tidy K) (.held val)
  rw [h2.has,h3] at e1
  have e2:=owns_tight ho
  rw [e1] at e2
  exact e2
 ·have e1:=size_put (k:=L.lit s) (h1.tidy K) (.held val)
  rw [h2.has,h3] at e1
  exact e1
theorem wpList_del_z {κ:Type} [DecidableEq κ] {P:Program} {k:TypeId} {L:KeyLit κ} {w:World} {ops:Array Oper} {rest:List Oper} {o:Oper} {a:Act} {Q:Exit→Act→World→Prop}
  (hg:o.guard=none) (m x:Operand) (t e:TypeId) (hop:o.op=Op.call { callee:=Callee.builtin Builtin.delete,args:=#[m,x],argTypes:=#[t,k] }) (K:Keyed P k) (ht:P.underlying t=some (.map k e)) (b n:Nat) (f : κ→Option Value)
  (hm:a.eval m=.map (some b)) (h:MapZ P k L w b n f) (s : κ) (hx:a.eval x=L.val s) (hkey:keyOf P k (L.val s)=some (L.lit s))
  (hK:∀ w',MapZ P k L w' b (if (f s).isSome then n - 1 else n) (delV f s)→w.grownBy w' (some b)→wpList P ops Q rest (a.put o.dst (.tuple #[])) w'):wpList P ops Q (o :: rest) a w:=by
 obtain ⟨D,h1,h2,h3⟩:=h.ex
 have e1:=size_del (k:=L.lit s) (h1.tidy K)
 rw [h2.has,h3] at e1
 have e2:Maps.size (D.del (L.lit s))=if (f s).isSome then n - 1 else n:=by
  split
  ·rename_i hs; rw [if_pos hs] at e1; omega
  ·rename_i hs; rw [if_neg hs] at e1; omega
 refine wpList_delete_own w hg m x t k hop e K ht rawR b n D hm h1 (L.val s) (L.lit s) hx hkey (fun w' ho htr=>hK w' ⟨⟨_,?_,h2.del s,e2⟩⟩ htr.grown)
 have e3:=owns_tight ho
 rw [e2] at e3
 exact e3
end Go.Proofs.YtlfpfkallgkjdaaGreat.Mv
end

section
namespace Go.Proofs.YtlfpfkallgkjdaaGreat.Al
open Qy
structure Kp where
 text:ByteArray
 q:Q
 needs:List ByteArray
def first (k:Kp):ByteArray:=k.needs.headD ByteArray.empty
def Und (l:List (Int × Kp)) (s:ByteArray) (i:Int):Prop:=∃ k,get l i=some k∧first k=s
theorem und_put {l:List (Int × Kp)} (hu:UpI l) (i:Int) (k:Kp) (s:ByteArray) (j:Int):Und (put l i k) s j↔(j=i∧first k=s)∨(j≠i∧Und l s j):=by
 unfold Und
 rw [get_put hu]
 by_cases h:j=i
 ·simp [h]
 ·simp [h]
theorem und_drop {l:List (Int × Kp)} (hu:UpI l) (i:Int) (s:ByteArray) (j:Int):Und (drop l i) s j↔j≠i∧Und l s j:=by
 unfold Und
 rw [get_drop hu]
 by_cases h:j=i
 ·simp [h]
 ·simp [h]
theorem und_nil (s:ByteArray) (j:Int):¬ Und [] s j:=fun ⟨k,h,_⟩=>by cases h
def nearB (T:ByteArray→Bool) (k:Kp):Bool:=k.needs.all T
def nearL (T:ByteArray→Bool) (l:List (Int × Kp)):List Int:=(l.filter (fun x=>nearB T x.2)).map (·.1)
theorem near_first {T:ByteArray→Bool} {k:Kp} (h:nearB T k=true):first k=ByteArray.empty∨T (first k)=true:=by
 unfold nearB at h
 unfold first
 cases hn:k.needs with
 | nil=>exact .inl rfl
 | cons s t =>
  rw [hn,List.all_cons,Bool.and_eq_true] at h
  exact .inr h.1
theorem nearL_up {T:ByteArray→Bool} {l:List (Int × Kp)} (hu:UpI l):(nearL T l).Pairwise (· < ·):=by
 unfold nearL
 rw [List.pairwise_map]
 exact hu.sublist List.filter_sublist
theorem nearL_mem {T:ByteArray→Bool} {l:List (Int × Kp)} (hu:UpI l) (i:Int):i∈nearL T l↔∃ k,get l i=some k∧nearB T k=true:=by
 unfold nearL
 rw [List.mem_map]
 constructor
 ·rintro ⟨x,hx,rfl⟩
  obtain ⟨h1,h2⟩:=List.mem_filter.1 hx
  exact ⟨x.2,mem_get hu h1,h2⟩
 ·rintro ⟨k,h1,h2⟩
  exact ⟨(i,k),List.mem_filter.2 ⟨get_mem h1,h2⟩,rfl⟩
theorem sort_ids {L R:List Int} (hL:L.Nodup) (hR:R.Pairwise (· < ·)) (h:∀ i,i∈L↔i∈R):(L.mergeSort fun x y=>decide (x≤y))=R:=by
 have hp:(L.mergeSort fun x y=>decide (x≤y)).Perm R:=(List.mergeSort_perm _ _).trans ((List.perm_ext_iff_of_nodup hL (hR.imp (fun {x y} h e=>by omega))).2 h)
 have hs:(L.mergeSort fun x y=>decide (x≤y)).Pairwise (fun x y=>x≤y) :=
  (List.pairwise_mergeSort (le:=fun x y:Int=>decide (x≤y)) (fun a b c h1 h2=>by simp only [decide_eq_true_eq] at *; omega) (fun a b=>by simp only [Bool.or_eq_true,decide_eq_true_eq]; omega) L).imp (fun {x y} h=>of_decide_eq_true h)
 exact hp.eq_of_pairwise (le:=fun x y:Int=>x≤y) (fun a b _ _ h1 h2=>by omega) hs (hR.imp (fun {x y} h=>by omega))
theorem ask_near (T:ByteArray→Bool) (m:Kp→Bool) (l:List (Int × Kp)) (h:∀ x∈l,m x.2=true→nearB T x.2=true):((l.filter (fun x=>nearB T x.2)).filter (fun x=>m x.2)).map (·.1)=(l.filter (fun x=>m x.2)).map (·.1):=by
 congr 1
 rw [List.filter_filter]
 refine List.filter_congr (fun x hx=>?_)
 cases hm:m x.2 with
 | false=>simp
 | true=>simp [h x hx hm]
end Go.Proofs.YtlfpfkallgkjdaaGreat.Al
end

section
namespace Go.Proofs.YtlfpfkallgkjdaaGreat.Al
open Go.RowKit Ut Tk Qy Ev
theorem based_tx (t:ByteArray):∀ (fs:List Fl) (b:Nat),(∃ p,(t,p)∈(basedL b fs).flatMap rawO)↔∃ f∈fs,∃ x∈words f.2.data.toList,t=termT f.1 x
 | [],b=>by simp [basedL]
 | f :: fs,b=>by
  simp only [basedL,List.flatMap_cons,List.mem_append,exists_or,based_tx t fs]
  constructor
  ·rintro (⟨p,hp⟩ | ⟨g,hg,h⟩)
   ·unfold rawO at hp
    obtain ⟨y,hy,e⟩:=List.mem_map.1 hp
    injection e with e1 _
    exact ⟨f,List.mem_cons_self ..,y.1,List.fst_mem_of_mem_zipIdx hy,e1.symm⟩
   ·exact ⟨g,List.mem_cons_of_mem _ hg,h⟩
  ·rintro ⟨g,hg,x,hx,e⟩
   rcases List.mem_cons.1 hg with rfl | hg
   ·left
    obtain ⟨i,hi,rfl⟩:=List.mem_iff_getElem.1 hx
    refine ⟨b+i,?_⟩
    unfold rawO
    refine List.mem_map.2 ⟨((words g.2.data.toList)[i],b+i),?_,by rw [e]⟩
    rw [List.mem_iff_getElem]
    exact ⟨i,by simpa using hi,by simp⟩
   ·exact .inr ⟨g,hg,x,hx,e⟩
def hasT (fs:List Fl) (t:ByteArray):Bool:=(addAll (raw fs)).any (fun x=>decide (x.1=t))
theorem hasT_mem (fs:List Fl) (t:ByteArray):hasT fs t=true↔∃ x∈addAll (raw fs),x.1=t:=by
 unfold hasT
 rw [List.any_eq_true]
 simp
theorem hasT_tx (fs:List Fl) (t:ByteArray):hasT fs t=true↔∃ f∈fs,∃ x∈words f.2.data.toList,t=termT f.1 x:=by
 rw [← based_tx t fs 0,hasT_mem]
 show _↔∃ p,(t,p)∈raw fs
 have hm:=(isTm_all (raw fs)).mem
 constructor
 ·rintro ⟨x,hx,rfl⟩
  obtain ⟨h1,h2⟩:=(hm x).1 hx
  obtain ⟨y,q,hq⟩:=List.exists_cons_of_ne_nil h1
  have hy:y∈(List.filter (fun y=>decide (y.1=x.1)) (raw fs)).map (·.2):=by rw [← h2,hq]; simp
  obtain ⟨z,hz,rfl⟩:=List.mem_map.1 hy
  obtain ⟨g1,g2⟩:=List.mem_filter.1 hz
  have g3:=of_decide_eq_true g2
  exact ⟨z.2,by rw [← g3]; exact g1⟩
 ·rintro ⟨p,hp⟩
  refine ⟨(t,(List.filter (fun y=>decide (y.1=t)) (raw fs)).map (·.2)),(hm _).2 ⟨fun e=>?_,rfl⟩,rfl⟩
  have:(t,p)∈List.filter (fun y=>decide (y.1=t)) (raw fs):=List.mem_filter.2 ⟨hp,by simp⟩
  have h2:p∈(List.filter (fun y=>decide (y.1=t)) (raw fs)).map (·.2):=List.mem_map.2 ⟨_,this,rfl⟩
  have e2:(List.filter (fun y=>decide (y.1=t)) (raw fs)).map (·.2)=[]:=e
  rw [e2] at h2
  cases h2
theorem needs_term:∀ q,∀ t∈needs q,∃ a b,termOk a b=true∧t=termV a b:=by
 refine Q.ind (fun k nm ws l ih t ht=>?_)
 rw [needs_eq] at ht
 split at ht
 ·rw [mem_addL] at ht
  rcases ht with ht | ht
  ·cases ht
  ·unfold termsL at ht
   obtain ⟨b,hb,ht⟩:=List.mem_flatMap.1 ht
   unfold termL at ht
   by_cases ho:termOk nm b=true
   ·rw [if_pos ho] at ht
    exact ⟨nm,b,ho,by simpa using ht⟩
   ·rw [if_neg ho] at ht; cases ht
 ·split at ht
  ·rw [mem_needsIn] at ht
   rcases ht with ht | ⟨q,hq,ht⟩
   ·cases ht
   ·exact ih q hq t ht
  ·cases ht
theorem needs_ne (q:Q):ByteArray.empty ∉ needs q:=fun h=>by
 obtain ⟨a,b,_,e⟩:=needs_term q _ h
 have h1:=congrArg ByteArray.size e
 unfold termV at h1
 rw [str_size] at h1
 unfold term at h1
 simp at h1
theorem needs_short (q:Q):∀ t∈needs q,t.size≤65:=fun t h=>by
 obtain ⟨a,b,ho,e⟩:=needs_term q _ h
 rw [e]
 exact (termV_size a b ho).1
theorem near_match (fs:List Fl) (q:Q) (h:matchB fs q=true):(needs q).all (hasT fs)=true:=by
 refine List.all_eq_true.2 (fun t ht=>?_)
 obtain ⟨a,b,ho,rfl,hm⟩:=needs_hit fs q h t ht
 rw [hasT_tx]
 rw [matchB_eq] at hm
 simp only [reduceCtorEq,if_false,if_true,true_or,show ¬ (2:Int)=1 by decide] at hm
 unfold leafB at hm
 obtain ⟨f,hf,h2⟩:=List.any_eq_true.1 hm
 rw [Bool.and_eq_true,beq_iff_eq] at h2
 have h3:=h2.2
 unfold leafT at h3
 simp only [show ¬ (2:Int)=3 by decide,if_false,if_true,Bool.and_eq_true,decide_eq_true_eq] at h3
 obtain ⟨_,i,hi,hs⟩:=(phr_pos _ _).1 h3.2
 have hg:=stands_get _ [b] i 0 hs (by simp)
 simp only [Nat.add_zero,List.getElem_cons_zero] at hg
 refine ⟨f,hf,b.data.toList,List.mem_of_getElem? hg,?_⟩
 unfold termT termV
 rw [h2.1]
end Go.Proofs.YtlfpfkallgkjdaaGreat.Al
end

section
namespace Go.Proofs.YtlfpfkallgkjdaaGreat.Qy
open Go.RowKit Ut Tk
def bsv (l:List ByteArray):List Value:=l.map Value.string
theorem bsv_snoc (l:List ByteArray) (x:ByteArray):bsv (l ++ [x])=bsv l ++ [.string x]:=by simp [bsv]
theorem contains_own {w:World} {base:Nat} {v:Value} {l:List ByteArray} (x:ByteArray) (h:w.ownsRow base 9 1 v l.length (bsv l)) (hl:l.length≤4194304) :
  Calls Tryz.prog 68 #[v,.string x] w fun e w'=>e=.returned (.bool (Lib.containsS l x))∧w'=w:=by
 rcases h.2 with ⟨rfl,h0⟩ | ⟨g,cap,cur,rfl,_⟩
 ·have:l=[]:=List.length_eq_zero_iff.1 h0
  subst this
  exact Tryz.slices_Contains_string_empty none 0 x w
 ·have hc:=Tryz.slices_Contains_string g 0 l.length cap l x w (zG _) (by omega) (fun j hj=>by
   have h1:=h.cells (g:=g) rfl j (.string (l.getD j ByteArray.empty)) (by unfold bsv; rw [List.getElem?_map,List.getD_eq_getElem?_getD,List.getElem?_eq_getElem hj]; rfl)
   have hadd:(⟨g,0,none⟩:Addr).add j=⟨g,0+j,none⟩:=by unfold Addr.add; split <;> simp_all
   rw [hadd] at h1
   exact h1)
  rw [List.take_length] at hc
  exact hc
structure Nd (w:World) (g:Nat) (v:Value) (l:List ByteArray):Prop where
 box:Blk w g 49 #[v]
 own:w.ownsRow (g+1) 9 1 v l.length (bsv l)
theorem Nd.below {w w':World} {g:Nat} {v:Value} {l:List ByteArray} (h:Nd w g v l) (hb:Below w.heap.size w w'):Nd w' g v l :=
 ⟨h.box.below hb h.box.lt,h.own.kept (grow_of_below hb none) (by cases hv:v.ownBlock <;> simp)⟩
structure Mo (w:World) (g:Nat) (v:Value) (S:Option Addr) (ts:List ByteArray):Prop where
 at_ : 0<ts.length→∃ b o,S=some ⟨b,o,none⟩∧b<w.heap.size∧b≠g∧v.ownBlock≠some b∧∀ j (h:j<ts.length),w.cell? ⟨b,o+j,none⟩=some (.string ts[j])
set_option maxHeartbeats 1600000 in
theorem add_any (g:Nat) (v:Value) (old:List ByteArray) (S:Option Addr) (n c:Nat) (ts:List ByteArray) (w:World) (hN:Nd w g v old) (hM:Mo w g v S ts) (hn:ts.length=n) (hbig:old.length+n≤4194304) :
  Calls Tryz.prog 67 #[.slice S n c,.pointer (some ⟨g,0,none⟩)] w fun e w'=>e=.returned (.tuple #[])∧∃ v',Nd w' g v' (addL old ts)∧Below g w w':=by
 obtain ⟨i0,hi0,hz0,hz1,hz2⟩:=info_parts str_info
 have HN:=zh hN
 have HM:=zh hM
 have Hn:=zh hn
 clear hN hM hn
 go_enter Tryz.func67,Tryz.ntmps67
 go_wp2
 go_loopw [7] (fun i wr=>∃ (k:Nat) (u:Value),k≤n∧i=.int .i64 k∧Nd wr g u (addL old (ts.take k))∧Mo wr g u S ts∧Below g w wr) (fun i _=>n - (intOf i).toNat)
 case atStart=>exact ⟨0,v,Nat.zero_le _,rfl,HN.out,HM.out,Below.refl _ _⟩
 case round =>
  obtain ⟨k,u,hk,rfl,hN,hM,hb⟩:=hrel
  have HN:=zh hN
  have HM:=zh hM
  have Hb:=zh hb
  by_cases hlt:k<n
  ·have hkl:k<ts.length:=by rw [Hn.out]; exact hlt
   obtain ⟨b,o,rfl,hbl,hbg,hub,hc⟩:=hM.at_ (by omega)
   have hck:=hc k hkl
   have hts:=addL_take old ts k hkl
   have hll:(addL old (ts.take k)).length≤4194304 - 1:=by
    have h1:=addL_len (ts.take k) old
    rw [List.length_take] at h1
    omega
   have Hts:=zh hts
   have Hc:=zh hc
   clear hts hc hM hb
   generalize addL old (ts.take k)=l at *
   generalize ts[k]=x at *
   have hbx:=hN.box.cell 0
   simp at hbx
   have cc:=contains_own x hN.own (by omega)
   by_cases hin:Lib.containsS l x=true
   ·rw [hin] at cc
    have hl1:add1 l x=l:=by unfold add1; rw [if_pos hin]
    rw [hl1] at Hts
    clear hN hin hl1
    go_wp2_with (go_at_call 68; refine cc.mono ?_; rintro e wx ⟨rfl,hwx⟩; subst wx)
    go_roundw
    case rel=>exact ⟨k+1,u,by omega,by go_num,by rw [Hts.out]; exact HN.out,HM.out,Hb.out⟩
    case measure=>simp [intOf]; omega
   ·have hin':Lib.containsS l x=false:=by simpa using hin
    rw [hin'] at cc
    have hl1:add1 l x=l ++ [x]:=by unfold add1; rw [if_neg hin]
    rw [hl1] at Hts
    have hgl:=hN.box.lt
    have hbf:=hN.box.frozen 0
    have hown:=hN.own
    have hbxa:=fun o'=>(World.cell?_alloc_lt wr o' ⟨g,0,none⟩ hgl).trans hbx
    clear hN hin hl1 hin'
    go_wp2_with (first
     | (go_at_call 68; refine cc.mono ?_; rintro e wx ⟨rfl,hwx⟩; subst wx)
     | (at_builtin; go_loud (refine wpList_append_own_at _ rfl _ _ 49 rfl (g+1) 9 i0 _ 1 16 Tryz.underlying49 hi0 hz0 hz1 hz2 rfl (by decide) _ _ _ rfl (hown.alloc _) ⟨wr.heap.size,0,none⟩ 1 1 [.string x] rfl rfl ?d1 ?d2 ?d3 ?d4 ?d5 ?_)))
    case d1=>exact World.news_of_block (cs:=#[.string x]) (t:=9) (fr:=(0,0)) (heap_alloc_new wr _)
    case d2=>intro y hy; simp at hy; subst hy; rfl
    case d3=>unfold maxLen; omega
    case d4=>omega
    case d5=>simp; omega
    intro v' w5 hown5 hg5 _ hat
    obtain ⟨g5,q5,rfl⟩:=own_succ hown5
    have g5lt:=(hown5.lt g5 rfl).1
    have hB5:=(HN.out.box.alloc (.cells #[.string x] 9)).grown hg5 (fun e=>by have:=(hown.lt _ e.symm).1; omega)
    have hb50:=hB5.cell 0
    have hbf5:=hB5.frozen 0
    simp at hb50
    have hbl2:b≠wr.heap.size+1:=by omega
    have hg5b:g5≠b:=by
     rintro rfl
     rcases hat with h | h
     ·exact hub h.symm
     ·simp [Value.ownBlock] at h
      omega
    have hcell:∀ j (h:j<ts.length),w5.cell? ⟨b,o+j,none⟩=some (.string ts[j]):=fun j h =>
     hg5.cell ((World.cell?_alloc_lt wr _ ⟨b,o+j,none⟩ hbl).trans (Hc.out j h)) (fun e=>hub e.symm)
    have hz5:=hg5.size
    have hb5:Below g w w5:=(Hb.out.alloc (by omega) (.cells #[.string x] 9)).grown hg5 (by simp; omega) (fun e he=>by have:=(hown.lt _ he).1; omega)
    have hgs:=grownBy_setC w5 g 0 (.slice (some ⟨g5,0,none⟩) (l.length+1) q5)
    have Fin:Hid (Nd (w5.setCell ⟨g,0,none⟩ (.slice (some ⟨g5,0,none⟩) (l.length+1) q5)) g (.slice (some ⟨g5,0,none⟩) (l.length+1) q5) (l ++ [x])):=zh
     ⟨hB5.set_ 0 _,by
      rw [List.length_append,bsv_snoc]
      exact hown5.kept hgs (.inr (by simp [Value.ownBlock]; omega))⟩
    have Fin2:Hid (Mo (w5.setCell ⟨g,0,none⟩ (.slice (some ⟨g5,0,none⟩) (l.length+1) q5)) g (.slice (some ⟨g5,0,none⟩) (l.length+1) q5) (some ⟨b,o,none⟩) ts):=zh
     ⟨fun _=>⟨b,o,rfl,by simp [World.setCell] at hz5 ⊢; omega,hbg,by simp [Value.ownBlock]; exact hg5b,fun j h=>hgs.cell (hcell j h) (fun e=>hbg (Option.some.inj e))⟩⟩
    have Fin3:=zh (hb5.setCell (p:=⟨g,0,none⟩) (zG _) (.slice (some ⟨g5,0,none⟩) (l.length+1) q5))
    clear hb5 hcell hB5 hown5 hg5 hown hgs hbxa hg5b hbl2
    go_wp2
    go_roundw
    case rel=>exact ⟨k+1,_,by omega,by go_num,by rw [Hts.out]; exact Fin.out,Fin2.out,Fin3.out⟩
    case measure=>simp [intOf]; omega
  ·obtain rfl:k=n:=by omega
   have htk:ts.take k=ts:=List.take_of_length_le (by rw [Hn.out]; exact zG _)
   rw [htk] at HN
   clear hN hM hb htk
   go_wp2
   first | go_ret | go_end0
   exact ⟨rfl,u,HN.out,Hb.out⟩
end Go.Proofs.YtlfpfkallgkjdaaGreat.Qy
end

section
namespace Go.Proofs.YtlfpfkallgkjdaaGreat.Mx
open Go.RowKit Ut Tk Qy Ev Qp Mv
section
variable {w:World} {n0 X M cn:Nat} {v:Value} {F:ByteArray→Option Value} {O:Nat→Prop} {ds:List Dc} {sz lo hi:Int} {f:ByteArray→List Po}
end
end Go.Proofs.YtlfpfkallgkjdaaGreat.Mx
end

section
namespace Go.Proofs.YtlfpfkallgkjdaaGreat.Mx
open Go.RowKit Ut Tk Qy Ev Qp Mv
end Go.Proofs.YtlfpfkallgkjdaaGreat.Mx
end

section
namespace Go.Proofs.YtlfpfkallgkjdaaGreat.Mx
open Go.RowKit Ut Tk Qy Ev Qp Mv
theorem results_ct {fn:Func} {p u:Tmp} {ty:TypeId} (h:fn.results=#[.cell p ty,.tmp u]) {tmps:Array Value} {P:Program} {w:World} {a:Addr} {v:Value} (ha:tmps.getD p undef=.pointer (some a)) (hl:(loadVar ty a).run P w=.ok v w) :
  (results fn tmps).run P w=.ok (.tuple #[v,tmps.getD u undef]) w:=by
 rw [results_cell_tmp h,ha]
 have:(asAddr (.pointer (some a))).run P w=.ok a w:=rfl
 rw [this]
 simp only [Result.andThen_ok]
 rw [hl]
 rfl
end Go.Proofs.YtlfpfkallgkjdaaGreat.Mx
end

section
namespace Go.Proofs.YtlfpfkallgkjdaaGreat.Ev
open Go.RowKit Ut Tk Qy Qp
def baseAt:List Fl→Nat→Nat
 | [],_=>0
 | _,0=>0
 | f :: fs,i+1=>(64+(words f.2.data.toList).length)+baseAt fs i
theorem basedL_at:∀ (fs:List Fl) (b i:Nat) (h:i<fs.length),(basedL b fs)[i]'(by rw [basedL_len]; exact h)=(b+baseAt fs i,fs[i])
 | f :: fs,b,0,h=>rfl
 | f :: fs,b,i+1,h=>by
  have:=basedL_at fs (b+(64+(words f.2.data.toList).length)) i (by simpa using h)
  simp only [basedL,List.getElem_cons_succ,this,baseAt]
  rw [Nat.add_assoc]
theorem baseAt_succ:∀ (fs:List Fl) (i:Nat) (h:i<fs.length),baseAt fs (i+1)=baseAt fs i+(words fs[i].2.data.toList).length+64
 | [f],0,h=>by simp [baseAt]; omega
 | f :: g :: fs,0,h=>by simp [baseAt]; omega
 | f :: fs,i+1,h=>by
  have:=baseAt_succ fs i (by simpa using h)
  simp only [baseAt,List.getElem_cons_succ,this]
  omega
theorem baseAt_le:∀ (fs:List Fl) (i:Nat),(∀ f∈fs,f.2.size≤4096)→baseAt fs i≤i * 4160
 | [],i,_=>by cases i <;> simp [baseAt]
 | f :: fs,0,_=>by simp [baseAt]
 | f :: fs,i+1,h=>by
  have h1:=words_len f.2
  have h2:=h f (List.mem_cons_self ..)
  have h3:=baseAt_le fs i (fun g hg=>h g (List.mem_cons_of_mem _ hg))
  simp only [baseAt]
  omega
def rawN (fs:List Fl) (i:Nat):List T1:=((basedL 0 fs).take i).flatMap rawO
theorem rawN_succ (fs:List Fl) (i:Nat) (h:i<fs.length):rawN fs (i+1)=rawN fs i ++ rawO (baseAt fs i,fs[i]):=by
 unfold rawN
 rw [List.take_succ_eq_append_getElem (by rw [basedL_len]; exact h),List.flatMap_append,basedL_at fs 0 i h,Nat.zero_add]
 simp
theorem rawN_all (fs:List Fl):rawN fs fs.length=raw fs:=by
 unfold rawN raw
 rw [List.take_of_length_le (by rw [basedL_len]; exact zG _)]
theorem rawN_len (fs:List Fl) (hsz:∀ f∈fs,f.2.size≤4096):∀ i,i≤fs.length→(rawN fs i).length≤i * 4096
 | 0,_=>by simp [rawN]
 | i+1,h=>by
  have ih:=rawN_len fs hsz i (by omega)
  have h1:=words_len fs[i].2
  have h2:=hsz _ (List.getElem_mem (show i<fs.length by omega))
  rw [rawN_succ fs i (by omega),List.length_append,rawO_len]
  simp only
  omega
theorem addAll_pos (L:List T1):∀ x∈addAll L,x.2.length≤L.length:=fun x hx=>by
 have:=(((isTm_all L).mem x).1 hx).2
 rw [this,List.length_map]
 exact List.length_filter_le _ _
theorem termT_size (a:ByteArray) (x:List UInt8):(termT a x).size=a.size+1+x.length:=by
 have h1:∀ l:List UInt8,(str l).size=l.length:=fun l=>by simp [str,ByteArray.size]
 unfold termT
 rw [h1]
 unfold term
 rw [List.length_append,List.length_cons,bsize]
 omega
end Go.Proofs.YtlfpfkallgkjdaaGreat.Ev
end

section
namespace Go.Proofs.YtlfpfkallgkjdaaGreat.Qp
open Go.RowKit Ut Tk Qy
def qtV (a:Nat) (n:Nat):Value:=if n=0 then .tuple #[.int .i64 0,.bool false] else .tuple #[.int .i64 ((a+n:Nat):Int),.bool true]
theorem qtV_no (a:Nat):qtV a 0=.tuple #[.int .i64 0,.bool false]:=rfl
theorem qtV_yes (a n:Nat) (h:n≠0):qtV a n=.tuple #[.int .i64 ((a+n:Nat):Int),.bool true]:=if_neg h
theorem tup_int {k:IntKind} {a b:Int} {c:Bool} (h:a=b):Ending.returned (.tuple #[.int k a,.bool c])=.returned (.tuple #[.int k b,.bool c]):=by rw [h]
theorem quotedN_drop (l:P) (a:Nat):quotedN (l.drop a)=if atC 34 (l.drop (a+1))<(l.drop (a+1)).length then atC 34 (l.drop (a+1))+2 else 0:=by
 unfold quotedN
 rw [List.tail_drop]; rfl
set_option maxHeartbeats 800000 in
theorem quoted_ref (s:ByteArray) (a:Nat) (w:World) (ha:a<s.size) (hs:s.size≤1048576):Calls Tryz.prog 87 #[.string s,.int .i64 (a:Int)] w fun e w'=>e=.returned (qtV a (quotedN (s.data.toList.drop a)))∧w=w':=by
 have hq:Hid (quotedN (s.data.toList.drop a)=if atC 34 (s.data.toList.drop (a+1))<(s.data.toList.drop (a+1)).length then atC 34 (s.data.toList.drop (a+1))+2 else 0):=zh (quotedN_drop _ _)
 have hl:Hid ((s.data.toList.drop (a+1)).length=s.size - (a+1)):=zh (by rw [List.length_drop,bsize])
 have Hend:=zh (findIdx_of (· == 34) (s.data.toList.drop (a+1)))
 have ha0:(0:Int)≤(a:Int):=by omega
 go_enter Tryz.func87,Tryz.ntmps87
 go_wp2_with fail
 go_loopw [6] (fun i wr=>∃ j:Nat,a+1+j≤s.size∧i=.int .i64 ((a+1+j:Nat):Int)∧w=wr∧Hid (∀ x∈(s.data.toList.drop (a+1)).take j,(x == 34)=false)) (fun i _=>s.size - (intOf i).toNat)
 case atStart=>exact ⟨0,by omega,by go_num,rfl,zh (fun x hx=>by simp at hx)⟩
 case round =>
  obtain ⟨j,hj,rfl,rfl,hal⟩:=hrel
  have g0:(0:Int)≤((a+1+j:Nat):Int):=by omega
  by_cases hlt:a+1+j<s.size
  ·have hg:(s.data.toList.drop (a+1))[j]?=some s[a+1+j]:=by rw [List.getElem?_drop]; exact get_of s _ hlt
   have u0:=u8_eq s[a+1+j] 34
   rw [show (UInt8.toNat 34:Int)=34 from rfl] at u0
   have hjl:j<(s.data.toList.drop (a+1)).length:=by rw [hl.out]; omega
   have hge:(s.data.toList.drop (a+1))[j]=s[a+1+j]:=by
    have:=List.getElem?_eq_getElem hjl
    rw [hg] at this
    injection this with this
    exact this.symm
   by_cases q:s[a+1+j]=34
   ·have t0:((s[a+1+j].toNat:Int) == 34)=true:=by rw [u0]; exact beq_iff_eq.2 q
    have Fin:Hid (quotedN (s.data.toList.drop a)=j+2):=zh (by
     have e:atC 34 (s.data.toList.drop (a+1))=j:=Hend.out j hal.out (by omega) (fun h=>by rw [hge,q]; rfl)
     rw [hq.out,e,if_pos hjl])
    clear hg u0 hjl hge q hal Hend hq hl
    go_wp2_with fail
    go_ret2
    exact ⟨by rw [Fin.out,qtV_yes _ _ (by omega)]; exact tup_int (by omega),rfl⟩
   ·have t0:((s[a+1+j].toNat:Int) == 34)=false:=by rw [u0]; exact beq_eq_false_iff_ne.2 q
    have Hnx:Hid (∀ x∈(s.data.toList.drop (a+1)).take (j+1),(x == 34)=false):=zh (fun x hx=>by
     rw [List.take_succ_eq_append_getElem hjl,List.mem_append] at hx
     rcases hx with hx | hx
     ·exact hal.out x hx
     ·rw [List.mem_singleton] at hx; rw [hx,hge]; exact beq_eq_false_iff_ne.2 q)
    clear hg u0 hjl hge q hal Hend hq hl
    go_wp2_with fail
    go_roundw
    case rel=>exact ⟨j+1,by omega,by go_num,by first | rfl | trivial,Hnx⟩
    case measure=>simp [intOf]; omega
  ·have Fin:Hid (quotedN (s.data.toList.drop a)=0):=zh (by
    have e:atC 34 (s.data.toList.drop (a+1))=j:=Hend.out j hal.out (by rw [hl.out]; omega) (fun h=>absurd h (by rw [hl.out]; omega))
    rw [hq.out,e,if_neg (by rw [hl.out]; omega)])
   clear hal Hend hq hl
   go_wp2_with fail
   go_ret2
   exact ⟨by rw [Fin.out,qtV_no]; rfl,rfl⟩
theorem plain_ref (c:UInt8) (w:World):Calls Tryz.prog 88 #[.int .u8 (c.toNat:Int)] w fun e w'=>e=.returned (.bool (!ends c))∧w=w':=by
 have u0:=u8_eq c 32
 have u1:=u8_eq c 9
 have u2:=u8_eq c 40
 have u3:=u8_eq c 41
 have u4:=u8_eq c 34
 simp only [show (UInt8.toNat 34:Int)=34 from rfl,show (UInt8.toNat 41:Int)=41 from rfl,show (UInt8.toNat 40:Int)=40 from rfl,show (UInt8.toNat 32:Int)=32 from rfl,show (UInt8.toNat 9:Int)=9 from rfl] at u0 u1 u2 u3 u4
 have he:ends c=(((c.toNat:Int) == 32) || ((c.toNat:Int) == 9) || ((c.toNat:Int) == 40) || ((c.toNat:Int) == 41) || ((c.toNat:Int) == 34)):=by
  rw [u0,u1,u2,u3,u4]; rfl
 rw [he]
 clear u0 u1 u2 u3 u4 he
 generalize (c.toNat:Int)=z
 by_cases h0:z=32
 ·subst h0
  go_enter Tryz.func88,Tryz.ntmps88
  go_wp2
  go_ret
  exact ⟨rfl,rfl⟩
 by_cases h1:z=9
 ·subst h1
  go_enter Tryz.func88,Tryz.ntmps88
  go_wp2
  go_ret
  exact ⟨rfl,rfl⟩
 by_cases h2:z=40
 ·subst h2
  go_enter Tryz.func88,Tryz.ntmps88
  go_wp2
  go_ret
  exact ⟨rfl,rfl⟩
 by_cases h3:z=41
 ·subst h3
  go_enter Tryz.func88,Tryz.ntmps88
  go_wp2
  go_ret
  exact ⟨rfl,rfl⟩
 by_cases h4:z=34
 ·subst h4
  go_enter Tryz.func88,Tryz.ntmps88
  go_wp2
  go_ret
  exact ⟨rfl,rfl⟩
 have t0:(z != 32)=true:=by simpa using h0
 have t1:(z != 9)=true:=by simpa using h1
 have t2:(z != 40)=true:=by simpa using h2
 have t3:(z != 41)=true:=by simpa using h3
 have t4:(z != 34)=true:=by simpa using h4
 go_enter Tryz.func88,Tryz.ntmps88
 go_wp2
 go_ret
 exact ⟨by simp [h0,h1,h2,h3,h4],rfl⟩
end Go.Proofs.YtlfpfkallgkjdaaGreat.Qp
end

section
namespace Go.Proofs.YtlfpfkallgkjdaaGreat.Qy
open Go.RowKit Go.ChangeShapes Go.WideShapes Go.ChangeAt Go.Deep Go.Joins
section
variable {H:Type} {enc:TypeId × Value→H} {P:Program} {W:World} {t e:TypeId}
theorem flat_len {k:Nat}:∀ {vss:List (List Value)} (_:∀ v∈vss,v.length=k),vss.flatten.length=vss.length * k
 | [],_=>by simp
 | v :: vss,h=>by
  rw [List.flatten_cons,List.length_append,h v (by simp),flat_len (fun x hx=>h x (List.mem_cons_of_mem _ hx)),List.length_cons,Nat.add_mul,Nat.one_mul,Nat.add_comm]
theorem slice_at {k fuel:Nat} {v:Value} {x:DataW H × List MemPlace} (ht:P.underlying t=some (.slice e)) (hc:P.cellsOf e=k) (hk : 0<k) (h:DataW.trod enc P W 0 (fun _=>true) true fuel t [v]=some x) :
  ∃ (A:Option Addr) (len cap:Nat) (vss:List (List Value)) (ds spare:List (DataW H)),v=.slice A len cap∧len≤cap∧vss.length=len∧(∀ u∈vss,u.length=k)∧Reads W W.heap.size k A len vss.flatten∧ds.length=len ∧
   (x.1=.slice ds spare∨(len=0∧ds=[]))∧∀ i (h1:i<vss.length) (h2:i<ds.length),∃ n y,DataW.trod enc P W 0 (fun _=>true) true n e vss[i]=some y∧y.1=ds[i]:=by
 rcases open_slice ht h with ⟨hcs,_⟩ | ⟨a,len,cap,m,n,D,Pl,hcs,_,hl,hm,hmm,rfl,hx⟩
 ·simp only [List.cons.injEq,and_true] at hcs
  exact ⟨none,0,0,[],[],[],hcs,zG _,rfl,by simp,Reads.none_,rfl,.inr ⟨rfl,rfl⟩,fun i h1=>absurd h1 (by simp)⟩
 ·simp only [List.cons.injEq,and_true] at hcs
  have hlm:len≤m:=by rw [hmm]; split <;> omega
  have each:∀ i:Nat,∃ cs':List Value,i<len→W.cells? 0 (a.add (i * P.cellsOf e)) (P.cellsOf e)=some cs'∧DataW.trod enc P W 0 (fun _=>true) true n e cs'=some (D i,Pl i):=fun i=>by
   by_cases hi:i<len
   ·obtain ⟨cs',h1,h2⟩:=hx i (by omega)
    exact ⟨cs',fun _=>⟨h1,h2⟩⟩
   ·exact ⟨[],fun h=>absurd h hi⟩
  obtain ⟨f,hf⟩:=Classical.skolem.1 each
  rw [hc] at hf
  have hlen:((List.range len).map f).length=len:=by simp
  have h4:∀ u∈(List.range len).map f,u.length=k:=fun u hu=>by
   obtain ⟨i,hi,rfl⟩:=List.mem_map.1 hu
   exact (World.cells?_some (hf i (by simpa using hi)).1).2.1
  refine ⟨some a,len,cap,(List.range len).map f,(List.range len).map D,_,hcs,hl,hlen,h4,?_,by simp,.inl rfl,fun i h1 h2=>?_⟩
  ·have hfl:((List.range len).map f).flatten.length=len * k:=by rw [flat_len h4,hlen]
   refine ⟨hfl,fun hn=>?_⟩
   obtain ⟨b,o,sp⟩:=a
   have hc0:=(World.cells?_some (hf 0 hn).1).2.2 0 hk
   have hl0:=(World.cells?_some (hf 0 hn).1).2.1
   rw [List.getElem?_eq_getElem (by omega)] at hc0
   have hsp:sp=none:=by simpa [Addr.add] using World.cell?_spot hc0
   subst hsp
   have hadd:∀ o' j,(⟨b,o',none⟩:Addr).add j=⟨b,o'+j,none⟩:=fun o' j=>by unfold Addr.add; split <;> simp_all
   have hbl:b<W.heap.size:=by
    have:=World.block_lt_of_cell? W _ hc0
    simpa [block_of_add] using this
   refine ⟨b,o,rfl,hbl,fun j u hu=>?_⟩
   have hj:j<len * k:=by
    have:=(List.getElem?_eq_some_iff.1 hu).1
    rw [hfl] at this
    exact this
   have hi:j / k<len:=(Nat.div_lt_iff_lt_mul hk).2 hj
   have hr:j % k<k:=Nat.mod_lt _ hk
   have ej:j=j / k * k+j % k:=by rw [Nat.mul_comm]; exact (Nat.div_add_mod j k).symm
   have hg:=flat_get h4 (j / k) (j % k) (by rw [hlen]; exact hi) hr
   rw [← ej] at hg
   rw [hg] at hu
   have hc:=(World.cells?_some (hf (j / k) hi).1).2.2 (j % k) hr
   rw [hadd,hadd,Nat.add_assoc,← ej] at hc
   rw [hc,← hu]
   simp
  ·have hi:i<len:=by rw [hlen] at h1; exact h1
   refine ⟨n,(D i,Pl i),?_,by simp⟩
   have:=(hf i hi).2
   simpa using this
theorem weights_part {fs:Array Field} {parts:List (DataW H)} {j:Nat} {u:TypeId} {d:DataW H} (ht:P.underlying t=some (.struct fs)) (hw:∀ n∈(DataW.agg parts).weights P t,n≤140737488351232)
  (h1:(fs.toList.map (·.type))[j]?=some u) (h2:parts[j]?=some d):∀ n∈d.weights P u,n≤140737488351232:=by
 intro n hn
 apply hw
 simp only [DataW.weights,ht]
 exact DataW.weights_mem_each h1 h2 n hn
theorem weights_elem {ds spare:List (DataW H)} {d:DataW H} (ht:P.underlying t=some (.slice e)) (hw:∀ n∈(DataW.slice ds spare).weights P t,n≤140737488351232) (hd:d∈ds):∀ n∈d.weights P e,n≤140737488351232:=by
 intro n hn
 apply hw
 simp only [DataW.weights,ht]
 exact List.mem_cons_of_mem _ (List.mem_append_left _ (weightsAll_mem hd n hn))
theorem weights_len {ds spare:List (DataW H)} (ht:P.underlying t=some (.slice e)) (hw:∀ n∈(DataW.slice ds spare).weights P t,n≤140737488351232):ds.length * P.bytesOf e≤140737488351232:=by
 have:=hw ((ds.length+spare.length) * P.bytesOf e) (by
  simp only [DataW.weights,ht]
  exact List.mem_cons_self)
 rw [Nat.add_mul] at this
 omega
end
end Go.Proofs.YtlfpfkallgkjdaaGreat.Qy
end
