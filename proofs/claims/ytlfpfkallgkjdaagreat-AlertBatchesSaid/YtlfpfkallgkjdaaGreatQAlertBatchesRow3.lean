/- Maps in memory of a known length: set, delete, len. (No walk.) -/
import Derived.Maps.OwnOps
import Derived.Sort.Walk0
import Derived.Laws.ResultCell
import Derived.Deep.QuietTactic
import Derived.BigQuiet
import Derived.Test.YtlfpfkallgkjdaaGreatProg
import Derived.Lib.Hide
import Derived.Deep.Slices
import Derived.Deep.Strs
import Derived.Lib.SmallJoins
import Derived.RegionTactic
import Derived.ChangeAlike
import Derived.Test.YtlfpfkallgkjdaaGreatQAlertBatchesRow2
import Derived.Test.YtlfpfkallgkjdaaGreatQAlertBatchesRow4
import Derived.Test.YtlfpfkallgkjdaaGreatQAlertBatchesRow1
import Derived.Test.YtlfpfkallgkjdaaGreatQAlertBatchesRow14
import Derived.Test.YtlfpfkallgkjdaaGreatQAlertBatchesRow20
import Derived.Test.YtlfpfkallgkjdaaGreatQAlertBatchesRow0
import Derived.Test.YtlfpfkallgkjdaaGreatQAlertBatchesRow21
import Derived.Test.YtlfpfkallgkjdaaGreatQAlertBatchesRow33
set_option linter.unusedSimpArgs false
set_option linter.unusedVariables false
set_option maxRecDepth 20000
section
namespace Go.Proofs.YtlfpfkallgkjdaaGreat.Mv
open Go.RowKit Go.Maps
theorem owns_tight {H:Type} {P:Program} {k:TypeId} {R:Value→Option (DataW H × List MemPlace)} {w:World} {b n:Nat} {D:DataW H} (h:w.ownsMap P k R b n D):w.ownsMap P k R b (Maps.size D) D:=by
 obtain ⟨es,clock,hb,F,hs,rfl⟩:=h
 exact ⟨es,clock,hb,F,by simp [Maps.size,length_sorted],rfl⟩
structure MapZ {κ:Type} (P:Program) (k:TypeId) (L:KeyLit κ) (w:World) (b n:Nat) (f : κ→Option Value):Prop where
 ex:∃ D,w.ownsMap P k rawR b n D∧TabV L D f∧Maps.size D=n
section
variable {κ:Type} {P:Program} {k:TypeId} {L:KeyLit κ} {w w':World} {b n:Nat} {f g : κ→Option Value}
theorem MapZ.v (h:MapZ P k L w b n f):MapV P k L w b n f:=by
 obtain ⟨D,h1,h2,_⟩:=h.ex
 exact ⟨D,h1,h2⟩
theorem MapZ.made (P:Program) (k:TypeId) (L:KeyLit κ) (w:World):MapZ P k L (w.alloc (.map #[] 0)) w.heap.size 0 noV:=⟨⟨_,World.ownsMap_made w P k rawR,TabV.none,rfl⟩⟩
theorem MapZ.kept {row:Option Nat} (h:MapZ P k L w b n f) (hg:w.grownBy w' row) (hne:some b≠row):MapZ P k L w' b n f:=by
 obtain ⟨D,h1,h2,h3⟩:=h.ex
 exact ⟨⟨D,h1.kept hg hne,h2,h3⟩⟩
theorem MapZ.below (h:MapZ P k L w b n f) (hb:Below w.heap.size w w'):MapZ P k L w' b n f:=h.kept (grow_of_below hb none) (by simp)
theorem MapZ.congr (h:MapZ P k L w b n f) (e:∀ s,f s=g s):MapZ P k L w b n g:=by
 obtain ⟨D,h1,h2,h3⟩:=h.ex
 exact ⟨⟨D,h1,h2.congr e,h3⟩⟩
theorem MapZ.lt (h:MapZ P k L w b n f):b<w.heap.size:=by
 obtain ⟨D,h1,_,_⟩:=h.ex
 exact h1.lt
end
theorem wpList_set_z {κ:Type} [DecidableEq κ] {P:Program} {k:TypeId} {L:KeyLit κ} {w:World} {ops:Array Oper} {rest:List Oper} {o:Oper} {a:Act} {Q:Exit→Act→World→Prop}
  (hg:o.guard=none) (m x v:Operand) (t e:TypeId) (hop:o.op=Op.mapUpdate t m x v) (K:Keyed P k) (ht:P.underlying t=some (.map k e)) (b n:Nat) (f : κ→Option Value)
  (hm:a.eval m=.map (some b)) (h:MapZ P k L w b n f) (hn:n<maxLen) (s : κ) (val:Value) (hx:a.eval x=L.val s) (hv:a.eval v=val) (hkey:keyOf P k (L.val s)=some (L.lit s))
  (hK:∀ w',MapZ P k L w' b (if (f s).isSome then n else n+1) (putV f s val)→w.grownBy w' (some b)→wpList P ops Q rest (a.put o.dst undef) w'):wpList P ops Q (o :: rest) a w:=by
 obtain ⟨D,h1,h2,h3⟩:=h.ex
 refine wpList_mapUpdate_own w hg m x v t hop k e K ht rawR b n D hm h1 hn (L.val s) val (L.lit s) hx hv hkey _ _ (rawR_mk val) (fun w' ho hgr=>hK w' ⟨⟨_,?_,h2.put h1.isMap s val,?_⟩⟩ hgr)
 ·have e1:=size_put (k:=L.lit s) (h1.tidy K) (.held val)
  rw [h2.has,h3] at e1
  have e2:=owns_tight ho
  rw [e1] at e2
  exact e2
 ·have e1:=size_put (k:=L.lit s) (h1.tidy K) (.held val)
  rw [h2.has,h3] at e1
  exact e1
theorem wpList_del_z {κ:Type} [DecidableEq κ] {P:Program} {k:TypeId} {L:KeyLit κ} {w:World} {ops:Array Oper} {rest:List Oper} {o:Oper} {a:Act} {Q:Exit→Act→World→Prop}
  (hg:o.guard=none) (m x:Operand) (t e:TypeId) (hop:o.op=Op.call { callee:=Callee.builtin Builtin.delete,args:=#[m,x],argTypes:=#[t,k] }) (K:Keyed P k) (ht:P.underlying t=some (.map k e)) (b n:Nat) (f : κ→Option Value)
  (hm:a.eval m=.map (some b)) (h:MapZ P k L w b n f) (s : κ) (hx:a.eval x=L.val s) (hkey:keyOf P k (L.val s)=some (L.lit s))
  (hK:∀ w',MapZ P k L w' b (if (f s).isSome then n - 1 else n) (delV f s)→w.grownBy w' (some b)→wpList P ops Q rest (a.put o.dst (.tuple #[])) w'):wpList P ops Q (o :: rest) a w:=by
 obtain ⟨D,h1,h2,h3⟩:=h.ex
 have e1:=size_del (k:=L.lit s) (h1.tidy K)
 rw [h2.has,h3] at e1
 have e2:Maps.size (D.del (L.lit s))=if (f s).isSome then n - 1 else n:=by
  split
  ·rename_i hs; rw [if_pos hs] at e1; omega
  ·rename_i hs; rw [if_neg hs] at e1; omega
 refine wpList_delete_own w hg m x t k hop e K ht rawR b n D hm h1 (L.val s) (L.lit s) hx hkey (fun w' ho htr=>hK w' ⟨⟨_,?_,h2.del s,e2⟩⟩ htr.grown)
 have e3:=owns_tight ho
 rw [e2] at e3
 exact e3
end Go.Proofs.YtlfpfkallgkjdaaGreat.Mv
end

section
namespace Go.Proofs.YtlfpfkallgkjdaaGreat.Al
open Qy
structure Kp where
 text:ByteArray
 q:Q
 needs:List ByteArray
def first (k:Kp):ByteArray:=k.needs.headD ByteArray.empty
def Und (l:List (Int × Kp)) (s:ByteArray) (i:Int):Prop:=∃ k,get l i=some k∧first k=s
theorem und_put {l:List (Int × Kp)} (hu:UpI l) (i:Int) (k:Kp) (s:ByteArray) (j:Int):Und (put l i k) s j↔(j=i∧first k=s)∨(j≠i∧Und l s j):=by
 unfold Und
 rw [get_put hu]
 by_cases h:j=i
 ·simp [h]
 ·simp [h]
theorem und_drop {l:List (Int × Kp)} (hu:UpI l) (i:Int) (s:ByteArray) (j:Int):Und (drop l i) s j↔j≠i∧Und l s j:=by
 unfold Und
 rw [get_drop hu]
 by_cases h:j=i
 ·simp [h]
 ·simp [h]
theorem und_nil (s:ByteArray) (j:Int):¬ Und [] s j:=fun ⟨k,h,_⟩=>by cases h
def nearB (T:ByteArray→Bool) (k:Kp):Bool:=k.needs.all T
def nearL (T:ByteArray→Bool) (l:List (Int × Kp)):List Int:=(l.filter (fun x=>nearB T x.2)).map (·.1)
theorem near_first {T:ByteArray→Bool} {k:Kp} (h:nearB T k=true):first k=ByteArray.empty∨T (first k)=true:=by
 unfold nearB at h
 unfold first
 cases hn:k.needs with
 | nil=>exact .inl rfl
 | cons s t =>
  rw [hn,List.all_cons,Bool.and_eq_true] at h
  exact .inr h.1
theorem nearL_up {T:ByteArray→Bool} {l:List (Int × Kp)} (hu:UpI l):(nearL T l).Pairwise (· < ·):=by
 unfold nearL
 rw [List.pairwise_map]
 exact hu.sublist List.filter_sublist
theorem nearL_mem {T:ByteArray→Bool} {l:List (Int × Kp)} (hu:UpI l) (i:Int):i∈nearL T l↔∃ k,get l i=some k∧nearB T k=true:=by
 unfold nearL
 rw [List.mem_map]
 constructor
 ·rintro ⟨x,hx,rfl⟩
  obtain ⟨h1,h2⟩:=List.mem_filter.1 hx
  exact ⟨x.2,mem_get hu h1,h2⟩
 ·rintro ⟨k,h1,h2⟩
  exact ⟨(i,k),List.mem_filter.2 ⟨get_mem h1,h2⟩,rfl⟩
theorem sort_ids {L R:List Int} (hL:L.Nodup) (hR:R.Pairwise (· < ·)) (h:∀ i,i∈L↔i∈R):(L.mergeSort fun x y=>decide (x≤y))=R:=by
 have hp:(L.mergeSort fun x y=>decide (x≤y)).Perm R:=(List.mergeSort_perm _ _).trans ((List.perm_ext_iff_of_nodup hL (hR.imp (fun {x y} h e=>by omega))).2 h)
 have hs:(L.mergeSort fun x y=>decide (x≤y)).Pairwise (fun x y=>x≤y) :=
  (List.pairwise_mergeSort (le:=fun x y:Int=>decide (x≤y)) (fun a b c h1 h2=>by simp only [decide_eq_true_eq] at *; omega) (fun a b=>by simp only [Bool.or_eq_true,decide_eq_true_eq]; omega) L).imp (fun {x y} h=>of_decide_eq_true h)
 exact hp.eq_of_pairwise (le:=fun x y:Int=>x≤y) (fun a b _ _ h1 h2=>by omega) hs (hR.imp (fun {x y} h=>by omega))
theorem ask_near (T:ByteArray→Bool) (m:Kp→Bool) (l:List (Int × Kp)) (h:∀ x∈l,m x.2=true→nearB T x.2=true):((l.filter (fun x=>nearB T x.2)).filter (fun x=>m x.2)).map (·.1)=(l.filter (fun x=>m x.2)).map (·.1):=by
 congr 1
 rw [List.filter_filter]
 refine List.filter_congr (fun x hx=>?_)
 cases hm:m x.2 with
 | false=>simp
 | true=>simp [h x hx hm]
end Go.Proofs.YtlfpfkallgkjdaaGreat.Al
end

section
namespace Go.Proofs.YtlfpfkallgkjdaaGreat.Qy
open Go.RowKit Ut Tk
theorem phr_pos (T:List (List UInt8)) (ws:List ByteArray) : 0<(phr T ws).length↔ws≠[]∧∃ i,i<T.length∧stands T ws i=true:=by
 unfold phr
 by_cases h:ws=[]
 ·rw [if_pos h]; simp [h]
 ·rw [if_neg h]
  unfold phrTo
  rw [List.length_pos_iff_exists_mem]
  simp [List.mem_filter,h]
theorem stands_get (T:List (List UInt8)) (ws:List ByteArray) (i j:Nat) (h:stands T ws i=true) (hj:j<ws.length):T[i+j]?=some ws[j].data.toList:=by
 unfold stands at h
 rw [beq_iff_eq] at h
 have e:=congrArg (fun l=>l[j]?) h
 simp only [List.getElem?_take,if_pos hj,List.getElem?_drop,List.getElem?_map,List.getElem?_eq_getElem hj,Option.map_some] at e
 exact e
theorem stands_one (T:List (List UInt8)) (b:ByteArray) (i:Nat) (h:T[i]?=some b.data.toList):stands T [b] i=true:=by
 obtain ⟨hi,e⟩:=List.getElem?_eq_some_iff.1 h
 unfold stands
 rw [beq_iff_eq]
 have:=standsTo_succ T [b] i 0 (by omega) (by simp)
 rw [standsTo_zero] at this
 simp only [Nat.add_zero,List.getElem_cons_zero,Bool.true_and,e,beq_self_eq_true] at this
 unfold standsTo at this
 rw [beq_iff_eq] at this
 simpa using this
theorem phr_one {T:List (List UInt8)} {ws:List ByteArray} {b:ByteArray} (h : 0<(phr T ws).length) (hb:b∈ws) : 0<(phr T [b]).length:=by
 obtain ⟨_,i,hi,hs⟩:=(phr_pos T ws).1 h
 obtain ⟨j,hj,rfl⟩:=List.getElem_of_mem hb
 have hg:=stands_get T ws i j hs hj
 exact (phr_pos T _).2 ⟨by simp,i+j,(List.getElem?_eq_some_iff.1 hg).1,stands_one T _ _ hg⟩
theorem leaf_one {k:Int} {nm b:ByteArray} {ws:List ByteArray} {fs:List (ByteArray × ByteArray)} (hk:k=4∨k=2) (h:leafB k nm ws fs=true) (hb:b∈ws):leafB 2 nm [b] fs=true:=by
 unfold leafB at *
 rw [List.any_eq_true] at *
 obtain ⟨f,hf,h⟩:=h
 rw [Bool.and_eq_true] at h
 refine ⟨f,hf,?_⟩
 rw [Bool.and_eq_true]
 refine ⟨h.1,?_⟩
 have hp : 0<(phr (Tk.words f.2.data.toList) ws).length:=by
  have h2:=h.2
  unfold leafT at h2
  rcases hk with rfl | rfl
  ·simpa using h2
  ·simp at h2; exact h2.2
 have:=phr_one hp hb
 unfold leafT
 simp [this]
theorem mem_needsIn:∀ (l:List Q) acc x,x∈needsIn acc l↔x∈acc∨∃ q∈l,x∈needs q
 | [],acc,x=>by simp [needsIn]
 | q :: l,acc,x=>by
  rw [needsIn,mem_needsIn l,mem_addL]
  simp [or_assoc]
theorem needs_hit (fs:List (ByteArray × ByteArray)):∀ q,matchB fs q=true→∀ t∈needs q,∃ a b,termOk a b=true∧t=termV a b∧matchB fs (.mk 2 a [b] [])=true:=by
 refine Q.ind (fun k nm ws l ih hm t ht=>?_)
 rw [matchB_eq] at hm
 rw [needs_eq] at ht
 by_cases h:k=4∨(k=2∧ws.length=1)
 ·rw [if_pos h] at ht
  have h1:k≠1:=by omega
  rw [if_neg h1,if_pos (by omega)] at hm
  rw [mem_addL] at ht
  rcases ht with ht | ht
  ·cases ht
  ·unfold termsL at ht
   obtain ⟨b,hb,ht⟩:=List.mem_flatMap.1 ht
   unfold termL at ht
   by_cases ho:termOk nm b=true
   ·rw [if_pos ho] at ht
    refine ⟨nm,b,ho,by simpa using ht,?_⟩
    rw [matchB_eq]
    have:=leaf_one (by omega) hm hb
    simp [this]
   ·rw [if_neg ho] at ht; cases ht
 ·rw [if_neg h] at ht
  by_cases h5:k=5
  ·subst h5
   rw [if_pos rfl,mem_needsIn] at ht
   rcases ht with ht | ⟨q,hq,ht⟩
   ·cases ht
   ·refine ih q hq ?_ t ht
    simp at hm
    exact hm q hq
  ·rw [if_neg h5] at ht; cases ht
theorem termV_size (a b:ByteArray) (h:termOk a b=true):(termV a b).size≤65∧b.size≤32:=by
 unfold termOk at h
 rw [Bool.and_eq_true] at h
 have h1:a.data.toList.length≤32:=by
  have:=h.1
  unfold isN at this
  simp only [Bool.and_eq_true,decide_eq_true_eq] at this
  exact this.1.2
 have h2:b.data.toList.length≤32:=by
  refine Classical.byContradiction fun hc=>?_
  have:=isW_len _ (by omega : 32<b.data.toList.length)
  rw [h.2] at this
  cases this
 refine ⟨?_,by rw [bsize] at h2; exact h2⟩
 unfold termV
 rw [str_size]
 unfold term
 simp only [List.length_append,List.length_cons]
 omega
end Go.Proofs.YtlfpfkallgkjdaaGreat.Qy
end

section
namespace Go.Proofs.YtlfpfkallgkjdaaGreat.Al
open Go.RowKit Ut Tk Qy Qp
def SP (l:List P):Nat:=(l.map (fun s=>s.length+4)).sum
theorem SP_cons (s:P) (l:List P):SP (s :: l)=s.length+4+SP l:=by simp [SP]
theorem pieces_sum:∀ (n:Nat) (s:P) (l:List P),s.length≤n→pieces s=some l→SP l≤5 * s.length:=by
 intro n
 induction n with
 | zero =>
  intro s l h e
  have:s=[]:=List.length_eq_zero_iff.1 (by omega)
  subst this
  rw [pieces_nil] at e
  injection e with e
  subst e
  simp [SP]
 | succ n ih =>
  intro s l h e
  cases s with
  | nil =>
   rw [pieces_nil] at e
   injection e with e
   subst e
   simp [SP]
  | cons c t =>
   rw [List.length_cons] at h ⊢
   by_cases hb:Qp.blank c=true
   ·rw [pieces_blank c t hb] at e
    have:=ih t l (by omega) e
    omega
   ·have hb':Qp.blank c=false:=by simpa using hb
    rw [pieces_cons c t hb'] at e
    by_cases h0:pieceN (c :: t)=0
    ·rw [if_pos h0] at e; cases e
    ·rw [if_neg h0] at e
     obtain ⟨l',h1,h2⟩:=Option.map_eq_some_iff.1 e
     subst h2
     have h3:=ih _ l' (by rw [List.length_drop,List.length_cons]; omega) h1
     have h4:=pieceN_le (c :: t)
     rw [List.length_drop,List.length_cons] at h3
     rw [List.length_cons] at h4
     rw [SP_cons,List.length_take,List.length_cons,Nat.min_eq_left h4]
     omega
theorem wqs_snoc (a:List Q) (q:Q):wqs (a ++ [q])=wqs a+wq q:=by
 rw [wqs_append]
 simp [wqs]
theorem oneQ_le (k:Int) (a:List Q):wq (oneQ k a)≤1+wqs a:=by
 match a with
 | [q] =>
  show wq q≤1+wqs [q]
  simp [wqs]
 | []=>simp [oneQ,wq_eq,wqs]
 | q :: q' :: a=>simp [oneQ,wq_eq]
theorem wordsQ_le (nm:P) (l:List P) (q:Q) (h:wordsQ nm l=some q):wq q≤1+l.length:=by
 unfold wordsQ at h
 split at h
 ·cases h
 ·split at h
  ·injection h with h
   subst h
   simp [wq_eq,wqs]
  ·injection h with h
   subst h
   simp [wq_eq,wqs]
theorem leafQ_le (s:P) (q:Q) (h:leafQ s=some q):wq q≤2+s.length:=by
 unfold leafQ at h
 have hr:=rest_len s
 split at h
 ·injection h with h
  subst h
  simp [wq_eq,wqs]
  omega
 ·split at h
  ·cases h
  ·split at h
   ·have h1:=wordsQ_le _ _ q h
    have:=words_few (((restOf s).take ((restOf s).length - 1)).drop 1)
    rw [List.length_drop,List.length_take] at this
    omega
   ·split at h
    ·split at h
     ·injection h with h
      subst h
      simp [wq_eq,wqs]
     ·split at h
      ·injection h with h
       subst h
       have:=words_few (restOf s).dropLast
       rw [List.length_dropLast] at this
       simp only [wq_eq,wqs,List.length_map]
       omega
      ·cases h
    ·have h1:=wordsQ_le _ _ q h
     have:=words_few (restOf s)
     omega
def Sml (m:Md) (l:List P) (q:Q) (r:List P):Prop :=
 match m with
 | .part=>wq q+SP r+2≤SP l
 | .and a=>wq q+SP r+1≤wqs a+SP l
 | .andT a=>wq q+SP r≤1+wqs a+SP l
 | .or a=>wq q+SP r≤wqs a+SP l
 | .orT a=>wq q+SP r≤1+wqs a+SP l
theorem R.small {m:Md} {l:List P} {o:Option (Q × List P)} (h:R m l o):∀ q r,o=some (q,r)→Sml m l q r:=by
 induction h with
 | pnil=>intro q r e; cases e
 | pnot hs h ih =>
  intro q r e
  obtain ⟨⟨q',r'⟩,h1,h2⟩:=Option.map_eq_some_iff.1 e
  simp only [Prod.mk.injEq] at h2
  obtain ⟨rfl,rfl⟩:=h2
  have:=ih q' r' h1
  unfold Sml at this ⊢
  simp only at this ⊢
  rw [SP_cons]
  have e2:wq (notQ q')=1+wq q':=by simp [notQ,wq_eq,wqs]
  omega
 | @plp s t o hs h ih =>
  intro q r e
  match o,e,h,ih with
  | some (q',s' :: r'),e,h,ih =>
   by_cases hp':s'=RP
   ·have e2:closed (some (q',s' :: r'))=some (q',r'):=if_pos hp'
    rw [e2] at e
    simp only [Option.some.injEq,Prod.mk.injEq] at e
    obtain ⟨rfl,rfl⟩:=e
    have:=ih q' _ rfl
    unfold Sml at this ⊢
    simp only [SP_cons,wqs] at this ⊢
    omega
   ·have e2:closed (some (q',s' :: r'))=none:=if_neg hp'
    rw [e2] at e
    cases e
  | some (q',[]),e,_,_=>cases e
  | none,e,_,_=>cases e
 | pbad hs=>intro q r e; cases e
 | pleaf hs =>
  intro q r e
  obtain ⟨q',h1,h2⟩:=Option.map_eq_some_iff.1 e
  simp only [Prod.mk.injEq] at h2
  obtain ⟨rfl,rfl⟩:=h2
  have:=leafQ_le _ _ h1
  unfold Sml
  simp only [SP_cons]
  omega
 | and0 h ih=>intro q r e; cases e
 | and1 h h2 ih ih2 =>
  intro q r e
  have h3:=ih _ _ rfl
  have h4:=ih2 q r e
  unfold Sml at h3 h4 ⊢
  simp only [wqs_snoc] at h3 h4 ⊢
  omega
 | @andE a l h =>
  intro q r e
  simp only [Option.some.injEq,Prod.mk.injEq] at e
  obtain ⟨rfl,rfl⟩:=e
  have:=oneQ_le 5 a
  unfold Sml
  simp only
  omega
 | andA hs h ih =>
  intro q r e
  have:=ih q r e
  unfold Sml at this ⊢
  simp only [SP_cons] at this ⊢
  omega
 | andN hs hn h ih =>
  intro q r e
  have:=ih q r e
  unfold Sml at this ⊢
  simp only at this ⊢
  omega
 | or0 h ih=>intro q r e; cases e
 | or1 h h2 ih ih2 =>
  intro q r e
  have h3:=ih _ _ rfl
  have h4:=ih2 q r e
  unfold Sml at h3 h4 ⊢
  simp only [wqs_snoc,wqs] at h3 h4 ⊢
  omega
 | @orE a l h =>
  intro q r e
  simp only [Option.some.injEq,Prod.mk.injEq] at e
  obtain ⟨rfl,rfl⟩:=e
  have:=oneQ_le 6 a
  unfold Sml
  simp only
  omega
 | orO hs h ih =>
  intro q r e
  have:=ih q r e
  unfold Sml at this ⊢
  simp only [SP_cons] at this ⊢
  omega
theorem QTx.all {b:Nat} {k:Int} {l:List Q} (h:∀ x∈l,QTx b x):QTx b (oneQ k l):=by
 match l,h with
 | [q],h=>exact h q (by simp)
 | [],h=>exact .mk (by simp) (by simp) (by simp)
 | q :: q' :: a,h=>exact .mk (by simp) (by simp) h
theorem str_sz (s:P):(str s).size=s.length:=str_size s
theorem wordsQ_tx (nm:P) (l:List P) (q:Q) (hn:nm.length≤1048576) (hl:∀ x∈l,x.length≤1048576) (h:wordsQ nm l=some q):QTx 1048576 q:=by
 have hw:∀ x∈l.map str,x.size≤1048576:=fun x hx=>by
  obtain ⟨y,hy,rfl⟩:=List.mem_map.1 hx
  rw [str_sz]
  exact hl y hy
 unfold wordsQ at h
 split at h
 ·cases h
 ·split at h
  ·injection h with h
   subst h
   exact .mk (by rw [str_sz]; exact hn) hw (by simp)
  ·injection h with h
   subst h
   exact .mk (by rw [str_sz]; exact hn) hw (by simp)
theorem words_short (s:P):∀ x∈words s,x.length≤1048576:=fun x hx=>by
 have:=(words_word s x hx).2
 omega
theorem name_len (s:P):(nameOf s).length≤s.length+3:=by
 unfold nameOf
 split
 ·rw [List.length_take]; omega
 ·simp [msg]
theorem leafQ_tx (s:P) (q:Q) (hs:s.length≤1024) (h:leafQ s=some q):QTx 1048576 q:=by
 have hn:=name_len s
 unfold leafQ at h
 split at h
 ·injection h with h
  subst h
  exact .mk (by simp) (by simp) (by simp)
 ·split at h
  ·cases h
  ·split at h
   ·exact wordsQ_tx _ _ q (by omega) (words_short _) h
   ·split at h
    ·split at h
     ·injection h with h
      subst h
      exact .mk (by rw [str_sz]; omega) (by simp) (by simp)
     ·split at h
      ·injection h with h
       subst h
       refine .mk (by rw [str_sz]; omega) (fun x hx=>?_) (by simp)
       obtain ⟨y,hy,rfl⟩:=List.mem_map.1 hx
       rw [str_sz]
       exact words_short _ y hy
      ·cases h
    ·exact wordsQ_tx _ _ q (by omega) (words_short _) h
def acc:Md→List Q
 | .part=>[]
 | .and a=>a
 | .or a=>a
 | .andT a=>a
 | .orT a=>a
theorem R.tx {m:Md} {l:List P} {o:Option (Q × List P)} (h:R m l o):(∀ x∈l,x.length≤1024)→(∀ x∈acc m,QTx 1048576 x)→∀ q r,o=some (q,r)→QTx 1048576 q∧∀ x∈r,x.length≤1024:=by
 induction h with
 | pnil=>intro _ _ q r e; cases e
 | pnot hs h ih =>
  intro hl ha q r e
  obtain ⟨⟨q',r'⟩,h1,h2⟩:=Option.map_eq_some_iff.1 e
  simp only [Prod.mk.injEq] at h2
  obtain ⟨rfl,rfl⟩:=h2
  obtain ⟨g1,g2⟩:=ih (fun x hx=>hl x (List.mem_cons_of_mem _ hx)) ha q' r' h1
  exact ⟨.mk (by simp) (by simp) (fun x hx=>by rw [List.mem_singleton] at hx; rw [hx]; exact g1),g2⟩
 | @plp s t o hs h ih =>
  intro hl ha q r e
  match o,e,h,ih with
  | some (q',s' :: r'),e,h,ih =>
   by_cases hp':s'=RP
   ·have e2:closed (some (q',s' :: r'))=some (q',r'):=if_pos hp'
    rw [e2] at e
    simp only [Option.some.injEq,Prod.mk.injEq] at e
    obtain ⟨rfl,rfl⟩:=e
    obtain ⟨g1,g2⟩:=ih (fun x hx=>hl x (List.mem_cons_of_mem _ hx)) (by simp [acc]) q' _ rfl
    exact ⟨g1,fun x hx=>g2 x (List.mem_cons_of_mem _ hx)⟩
   ·have e2:closed (some (q',s' :: r'))=none:=if_neg hp'
    rw [e2] at e
    cases e
  | some (q',[]),e,_,_=>cases e
  | none,e,_,_=>cases e
 | pbad hs=>intro _ _ q r e; cases e
 | pleaf hs =>
  intro hl ha q r e
  obtain ⟨q',h1,h2⟩:=Option.map_eq_some_iff.1 e
  simp only [Prod.mk.injEq] at h2
  obtain ⟨rfl,rfl⟩:=h2
  exact ⟨leafQ_tx _ _ (hl _ (List.mem_cons_self ..)) h1,fun x hx=>hl x (List.mem_cons_of_mem _ hx)⟩
 | and0 h ih=>intro _ _ q r e; cases e
 | and1 h h2 ih ih2 =>
  intro hl ha q r e
  obtain ⟨g1,g2⟩:=ih hl (by simp [acc]) _ _ rfl
  exact ih2 g2 (fun x hx=>by
   rcases List.mem_append.1 hx with hx | hx
   ·exact ha x hx
   ·rw [List.mem_singleton] at hx; rw [hx]; exact g1) q r e
 | @andE a l h =>
  intro hl ha q r e
  simp only [Option.some.injEq,Prod.mk.injEq] at e
  obtain ⟨rfl,rfl⟩:=e
  exact ⟨QTx.all ha,hl⟩
 | andA hs h ih =>
  intro hl ha q r e
  exact ih (fun x hx=>hl x (List.mem_cons_of_mem _ hx)) ha q r e
 | andN hs hn h ih =>
  intro hl ha q r e
  exact ih hl ha q r e
 | or0 h ih=>intro _ _ q r e; cases e
 | or1 h h2 ih ih2 =>
  intro hl ha q r e
  obtain ⟨g1,g2⟩:=ih hl (by simp [acc]) _ _ rfl
  exact ih2 g2 (fun x hx=>by
   rcases List.mem_append.1 hx with hx | hx
   ·exact ha x hx
   ·rw [List.mem_singleton] at hx; rw [hx]; exact g1) q r e
 | @orE a l h =>
  intro hl ha q r e
  simp only [Option.some.injEq,Prod.mk.injEq] at e
  obtain ⟨rfl,rfl⟩:=e
  exact ⟨QTx.all ha,hl⟩
 | orO hs h ih =>
  intro hl ha q r e
  exact ih (fun x hx=>hl x (List.mem_cons_of_mem _ hx)) ha q r e
theorem QTx.more {b b':Nat} {q:Q} (h:QTx b q) (hb:b≤b'):QTx b' q:=by
 induction h with
 | mk h1 h2 h3 ih=>exact .mk (by omega) (fun x hx=>by have:=h2 x hx; omega) ih
theorem qw_sz {K:Nat} {q:Q} (h:QW K q):QSz q:=by
 induction h with
 | mk h1 h2 h3 ih=>exact .mk h1 h2 ih
structure QOk (q:Q):Prop where
 tx:QTx 1048576 q
 sz:QSz q
 wq:wq q≤1048576
theorem prs_wide {s:P} {q:Q} (h:PrsR s 0 (some q)):∃ K,K≤16777216∧QW K q:=by
 cases h with
 | @ok l _ h hp hr hm hd =>
  have h1:=pieces_pc s.length s l (zG _) hp
  have h2:=pieces_many s.length s l (zG _) hp
  exact or_wide hr (fun x hx=>by have:=(h1 x hx).2; omega) (by omega)
theorem prs_ok {s:P} {E:Int} {q:Q} (h:PrsR s E (some q)):E=0∧s.length≤1024∧QOk q:=by
 cases h with
 | @ok l _ h hp hr hm hd =>
  obtain ⟨K,_,hK⟩:=prs_wide (.ok h hp hr hm hd)
  have h1:=pieces_pc s.length s l (zG _) hp
  have h2:=pieces_sum s.length s l (zG _) hp
  have h3:=R.small hr q [] rfl
  obtain ⟨h4,_⟩:=R.tx hr (fun x hx=>by have:=(h1 x hx).2; omega) (by simp [acc]) q [] rfl
  unfold Sml at h3
  simp only [wqs] at h3
  exact ⟨rfl,h,h4,qw_sz hK,by omega⟩
theorem prs_none {s:P} {E:Int} (h:PrsR s E none):E≠0:=by cases h <;> decide
end Go.Proofs.YtlfpfkallgkjdaaGreat.Al
end

section
namespace Go.Proofs.YtlfpfkallgkjdaaGreat.Mx
open Go.RowKit Ut Tk Qy Ev Qp Mv
end Go.Proofs.YtlfpfkallgkjdaaGreat.Mx
end

section
namespace Go.Proofs.YtlfpfkallgkjdaaGreat.Mx
open Go.RowKit Ut Tk Qy Ev Qp Mv
theorem results_ct {fn:Func} {p u:Tmp} {ty:TypeId} (h:fn.results=#[.cell p ty,.tmp u]) {tmps:Array Value} {P:Program} {w:World} {a:Addr} {v:Value} (ha:tmps.getD p undef=.pointer (some a)) (hl:(loadVar ty a).run P w=.ok v w) :
  (results fn tmps).run P w=.ok (.tuple #[v,tmps.getD u undef]) w:=by
 rw [results_cell_tmp h,ha]
 have:(asAddr (.pointer (some a))).run P w=.ok a w:=rfl
 rw [this]
 simp only [Result.andThen_ok]
 rw [hl]
 rfl
end Go.Proofs.YtlfpfkallgkjdaaGreat.Mx
end

section
namespace Go.Proofs.YtlfpfkallgkjdaaGreat.Mx
open Go.RowKit Go.Maps Ut Tk Qy Ev Qp Mv Ph
end Go.Proofs.YtlfpfkallgkjdaaGreat.Mx
end

section
namespace Go.Proofs.YtlfpfkallgkjdaaGreat.Mx
open Go.RowKit Ut Tk Qy Ev Qp Mv
theorem reads_gr {w1 w2:World} {A:Option Addr} {k n:Nat} {xs:List Value} (hb:Below w1.heap.size w1 w2) (h:Reads w1 w1.heap.size k A n xs):Reads w2 w2.heap.size k A n xs:=(h.below hb).more hb.size
theorem below_dN {B:Nat} {a w:World} (h:Below B a w) (n:Nat):Below B a (w.drewN n):=⟨h.os,h.tape,h.output,h.size,h.block⟩
structure DocRd (w:World) (A:Option Addr) (n:Nat) (ds:List Dc):Prop where
 ln:ds.length=n
 at_:∀ {i:Nat} (h:i<ds.length),∃ b o F fn f,A=some ⟨b,o,none⟩∧b<w.heap.size∧w.cell? ⟨b,o+i * 3,none⟩=some (.int .i64 ds[i].seq)∧w.cell? ⟨b,o+i * 3+1,none⟩=some (.int .i64 ds[i].at_)∧w.cell? ⟨b,o+i * 3+2,none⟩=some (.slice F fn f)∧Reads w w.heap.size 2 F fn (fldC ds[i].fs)∧ds[i].fs.length=fn∧fn≤8796093021952
theorem DocRd.grow {w w':World} {A:Option Addr} {n:Nat} {ds:List Dc} (h:DocRd w A n ds) (hb:Below w.heap.size w w'):DocRd w' A n ds :=
 ⟨h.ln,fun {i} hi=>by
  obtain ⟨b,o,F,fn,f,e,hlt,c0,c1,c2,r,q⟩:=h.at_ hi
  exact ⟨b,o,F,fn,f,e,Nat.lt_of_lt_of_le hlt hb.size,(hb.cell hlt).trans c0,(hb.cell hlt).trans c1,(hb.cell hlt).trans c2,reads_gr hb r,q⟩⟩
theorem DocRd.of {w:World} {R S:Nat→Prop} {A:Option Addr} {n:Nat} {ds:List Dc} (h:DocsS w R S A n ds) (hR:∀ b,R b→b<w.heap.size) (hS:∀ b,S b→b<w.heap.size):DocRd w A n ds :=
 ⟨h.1,fun {i} hi=>by
  obtain ⟨b,o,F,fn,f,e,hb,c0,c1,c2,r,q1,q2,_⟩:=h.at_ hi
  exact ⟨b,o,F,fn,f,e,hR _ hb,c0,c1,c2,r.reads hS,q1,q2⟩⟩
structure PostRd (w:World) (A:Option Addr) (n:Nat) (l:List Po):Prop where
 ln:l.length=n
 at_:∀ {i:Nat} (h:i<l.length),∃ b o F fn f,A=some ⟨b,o,none⟩∧b<w.heap.size∧w.cell? ⟨b,o+i * 2,none⟩=some (.int .i64 (l[i].1:Nat))∧w.cell? ⟨b,o+i * 2+1,none⟩=some (.slice F fn f)∧Reads w w.heap.size 1 F fn (nC l[i].2)∧l[i].2.length=fn∧fn≤8796093021952
theorem PostRd.grow {w w':World} {A:Option Addr} {n:Nat} {l:List Po} (h:PostRd w A n l) (hb:Below w.heap.size w w'):PostRd w' A n l :=
 ⟨h.ln,fun {i} hi=>by
  obtain ⟨b,o,F,fn,f,e,hlt,c0,c1,r,q⟩:=h.at_ hi
  exact ⟨b,o,F,fn,f,e,Nat.lt_of_lt_of_le hlt hb.size,(hb.cell hlt).trans c0,(hb.cell hlt).trans c1,reads_gr hb r,q⟩⟩
end Go.Proofs.YtlfpfkallgkjdaaGreat.Mx
end

section
namespace Go.Proofs.YtlfpfkallgkjdaaGreat.Qy
open Go.RowKit Go.ChangeShapes Go.WideShapes Go.ChangeAt Go.Deep Go.Joins
section
variable {H:Type} {enc:TypeId × Value→H} {P:Program} {W:World} {t e:TypeId}
theorem flat_len {k:Nat}:∀ {vss:List (List Value)} (_:∀ v∈vss,v.length=k),vss.flatten.length=vss.length * k
 | [],_=>by simp
 | v :: vss,h=>by
  rw [List.flatten_cons,List.length_append,h v (by simp),flat_len (fun x hx=>h x (List.mem_cons_of_mem _ hx)),List.length_cons,Nat.add_mul,Nat.one_mul,Nat.add_comm]
theorem slice_at {k fuel:Nat} {v:Value} {x:DataW H × List MemPlace} (ht:P.underlying t=some (.slice e)) (hc:P.cellsOf e=k) (hk : 0<k) (h:DataW.trod enc P W 0 (fun _=>true) true fuel t [v]=some x) :
  ∃ (A:Option Addr) (len cap:Nat) (vss:List (List Value)) (ds spare:List (DataW H)),v=.slice A len cap∧len≤cap∧vss.length=len∧(∀ u∈vss,u.length=k)∧Reads W W.heap.size k A len vss.flatten∧ds.length=len ∧
   (x.1=.slice ds spare∨(len=0∧ds=[]))∧∀ i (h1:i<vss.length) (h2:i<ds.length),∃ n y,DataW.trod enc P W 0 (fun _=>true) true n e vss[i]=some y∧y.1=ds[i]:=by
 rcases open_slice ht h with ⟨hcs,_⟩ | ⟨a,len,cap,m,n,D,Pl,hcs,_,hl,hm,hmm,rfl,hx⟩
 ·simp only [List.cons.injEq,and_true] at hcs
  exact ⟨none,0,0,[],[],[],hcs,zG _,rfl,by simp,Reads.none_,rfl,.inr ⟨rfl,rfl⟩,fun i h1=>absurd h1 (by simp)⟩
 ·simp only [List.cons.injEq,and_true] at hcs
  have hlm:len≤m:=by rw [hmm]; split <;> omega
  have each:∀ i:Nat,∃ cs':List Value,i<len→W.cells? 0 (a.add (i * P.cellsOf e)) (P.cellsOf e)=some cs'∧DataW.trod enc P W 0 (fun _=>true) true n e cs'=some (D i,Pl i):=fun i=>by
   by_cases hi:i<len
   ·obtain ⟨cs',h1,h2⟩:=hx i (by omega)
    exact ⟨cs',fun _=>⟨h1,h2⟩⟩
   ·exact ⟨[],fun h=>absurd h hi⟩
  obtain ⟨f,hf⟩:=Classical.skolem.1 each
  rw [hc] at hf
  have hlen:((List.range len).map f).length=len:=by simp
  have h4:∀ u∈(List.range len).map f,u.length=k:=fun u hu=>by
   obtain ⟨i,hi,rfl⟩:=List.mem_map.1 hu
   exact (World.cells?_some (hf i (by simpa using hi)).1).2.1
  refine ⟨some a,len,cap,(List.range len).map f,(List.range len).map D,_,hcs,hl,hlen,h4,?_,by simp,.inl rfl,fun i h1 h2=>?_⟩
  ·have hfl:((List.range len).map f).flatten.length=len * k:=by rw [flat_len h4,hlen]
   refine ⟨hfl,fun hn=>?_⟩
   obtain ⟨b,o,sp⟩:=a
   have hc0:=(World.cells?_some (hf 0 hn).1).2.2 0 hk
   have hl0:=(World.cells?_some (hf 0 hn).1).2.1
   rw [List.getElem?_eq_getElem (by omega)] at hc0
   have hsp:sp=none:=by simpa [Addr.add] using World.cell?_spot hc0
   subst hsp
   have hadd:∀ o' j,(⟨b,o',none⟩:Addr).add j=⟨b,o'+j,none⟩:=fun o' j=>by unfold Addr.add; split <;> simp_all
   have hbl:b<W.heap.size:=by
    have:=World.block_lt_of_cell? W _ hc0
    simpa [block_of_add] using this
   refine ⟨b,o,rfl,hbl,fun j u hu=>?_⟩
   have hj:j<len * k:=by
    have:=(List.getElem?_eq_some_iff.1 hu).1
    rw [hfl] at this
    exact this
   have hi:j / k<len:=(Nat.div_lt_iff_lt_mul hk).2 hj
   have hr:j % k<k:=Nat.mod_lt _ hk
   have ej:j=j / k * k+j % k:=by rw [Nat.mul_comm]; exact (Nat.div_add_mod j k).symm
   have hg:=flat_get h4 (j / k) (j % k) (by rw [hlen]; exact hi) hr
   rw [← ej] at hg
   rw [hg] at hu
   have hc:=(World.cells?_some (hf (j / k) hi).1).2.2 (j % k) hr
   rw [hadd,hadd,Nat.add_assoc,← ej] at hc
   rw [hc,← hu]
   simp
  ·have hi:i<len:=by rw [hlen] at h1; exact h1
   refine ⟨n,(D i,Pl i),?_,by simp⟩
   have:=(hf i hi).2
   simpa using this
theorem weights_part {fs:Array Field} {parts:List (DataW H)} {j:Nat} {u:TypeId} {d:DataW H} (ht:P.underlying t=some (.struct fs)) (hw:∀ n∈(DataW.agg parts).weights P t,n≤140737488351232)
  (h1:(fs.toList.map (·.type))[j]?=some u) (h2:parts[j]?=some d):∀ n∈d.weights P u,n≤140737488351232:=by
 intro n hn
 apply hw
 simp only [DataW.weights,ht]
 exact DataW.weights_mem_each h1 h2 n hn
theorem weights_elem {ds spare:List (DataW H)} {d:DataW H} (ht:P.underlying t=some (.slice e)) (hw:∀ n∈(DataW.slice ds spare).weights P t,n≤140737488351232) (hd:d∈ds):∀ n∈d.weights P e,n≤140737488351232:=by
 intro n hn
 apply hw
 simp only [DataW.weights,ht]
 exact List.mem_cons_of_mem _ (List.mem_append_left _ (weightsAll_mem hd n hn))
theorem weights_len {ds spare:List (DataW H)} (ht:P.underlying t=some (.slice e)) (hw:∀ n∈(DataW.slice ds spare).weights P t,n≤140737488351232):ds.length * P.bytesOf e≤140737488351232:=by
 have:=hw ((ds.length+spare.length) * P.bytesOf e) (by
  simp only [DataW.weights,ht]
  exact List.mem_cons_self)
 rw [Nat.add_mul] at this
 omega
end
end Go.Proofs.YtlfpfkallgkjdaaGreat.Qy
end

section
namespace Go.Proofs.YtlfpfkallgkjdaaGreat.Qy
open Go.RowKit Ut Tk
theorem own_keep {w w':World} {B n:Nat} {v:Value} {xs:List Value} {e:TypeId} (h:w.ownsRow B e 1 v n xs) (hb:Below w.heap.size w w'):w'.ownsRow B e 1 v n xs :=
 h.kept (grow_of_below hb none) (by cases hv:v.ownBlock <;> simp)
end Go.Proofs.YtlfpfkallgkjdaaGreat.Qy
end

section
namespace Go.Proofs.YtlfpfkallgkjdaaGreat.Ev
open Go.RowKit Ut Tk Qy Qp Rg
def posB:List ByteArray→ByteArray→Nat
 | [],_=>0
 | x :: l,s=>if ltB x s=true then posB l s+1 else 0
theorem posB_le:∀ (l:List ByteArray) (s:ByteArray),posB l s≤l.length
 | [],_=>zG _
 | x :: l,s=>by
  unfold posB
  split
  ·have:=posB_le l s; simp; omega
  ·simp
theorem posB_lt:∀ {l:List ByteArray} {s:ByteArray} {i:Nat} (h:i<posB l s) (h2:i<l.length),ltB l[i] s=true
 | x :: l,s,i,h,h2=>by
  unfold posB at h
  by_cases c:ltB x s=true
  ·rw [if_pos c] at h
   cases i with
   | zero=>exact c
   | succ i=>exact posB_lt (l:=l) (by omega) (by simpa using h2)
  ·rw [if_neg c] at h; omega
theorem posB_at:∀ {l:List ByteArray} {s:ByteArray} (h:posB l s<l.length),ltB l[posB l s] s=false
 | x :: l,s,h=>by
  by_cases c:ltB x s=true
  ·have e:posB (x :: l) s=posB l s+1:=by rw [posB]; exact if_pos c
   have h2:posB l s<l.length:=by rw [e] at h; simpa using h
   have:=posB_at h2
   simp only [e,List.getElem_cons_succ]
   exact this
  ·have e:posB (x :: l) s=0:=by rw [posB]; exact if_neg c
   simp only [e,List.getElem_cons_zero]
   simpa using c
def keysT (l:List Tm):List ByteArray:=l.map (·.1)
theorem addT_hit:∀ (l:List Tm) (s:ByteArray) (p:Nat) (h:posB (keysT l) s<l.length),l[posB (keysT l) s].1=s→addT l s p=l.take (posB (keysT l) s) ++ [(s,l[posB (keysT l) s].2 ++ [p])] ++ l.drop (posB (keysT l) s+1)
 | x :: l,s,p,h,he=>by
  by_cases c:ltB x.1 s=true
  ·have e:posB (keysT (x :: l)) s=posB (keysT l) s+1:=by show posB (x.1 :: keysT l) s=_; rw [posB]; exact if_pos c
   have h2:posB (keysT l) s<l.length:=by rw [e] at h; simpa using h
   simp only [e,List.getElem_cons_succ] at he ⊢
   have ih:=addT_hit l s p h2 he
   unfold addT
   rw [if_pos c,ih]
   simp
  ·have e:posB (keysT (x :: l)) s=0:=by show posB (x.1 :: keysT l) s=_; rw [posB]; exact if_neg c
   simp only [e,List.getElem_cons_zero] at he ⊢
   unfold addT
   rw [if_neg c,if_pos he]
   simp
theorem addT_miss:∀ (l:List Tm) (s:ByteArray) (p:Nat),(∀ h:posB (keysT l) s<l.length,l[posB (keysT l) s].1≠s)→addT l s p=l.take (posB (keysT l) s) ++ [(s,[p])] ++ l.drop (posB (keysT l) s)
 | [],s,p,_=>rfl
 | x :: l,s,p,h=>by
  by_cases c:ltB x.1 s=true
  ·have e:posB (keysT (x :: l)) s=posB (keysT l) s+1:=by show posB (x.1 :: keysT l) s=_; rw [posB]; exact if_pos c
   have ih:=addT_miss l s p (fun h2=>by
    have:=h (by rw [e]; simpa using h2)
    simp only [e,List.getElem_cons_succ] at this
    exact this)
   simp only [e]
   unfold addT
   rw [if_pos c,ih]
   simp
  ·have e:posB (keysT (x :: l)) s=0:=by show posB (x.1 :: keysT l) s=_; rw [posB]; exact if_neg c
   have:=h (by rw [e]; simp)
   simp only [e,List.getElem_cons_zero] at this ⊢
   unfold addT
   rw [if_neg c,if_neg this]
   simp
set_option maxHeartbeats 1600000 in
theorem rless_any (a b:ByteArray) (w:World) (ha:a.size≤140737488351232) (hb6:b.size≤140737488351232) :
  Calls Tryz.prog 166 #[.string a,.string b] w fun e w'=>e=.returned (.bool (ltB a b))∧Below w.heap.size w w':=by
 have hst:Hid (ltB a b=Op.bytesLess (a.data.toList.drop 0) (b.data.toList.drop 0)):=zh (by unfold ltB; rw [tl,tl,List.drop_zero,List.drop_zero])
 generalize ltB a b=r at *
 go_enter Tryz.func166,Tryz.ntmps166
 go_wp2_with fail
 go_loopw [5] (fun i wr=>∃ k:Nat,k≤a.size∧k≤b.size∧i=.int .i64 (k:Nat)∧Hid (r=Op.bytesLess (a.data.toList.drop k) (b.data.toList.drop k))∧Below w.heap.size w wr) (fun i _=>a.size - (intOf i).toNat)
 case atStart=>exact ⟨0,Nat.zero_le _,Nat.zero_le _,rfl,hst,Below.refl _ _⟩
 case round =>
  obtain ⟨k,hka,hkb,rfl,hS,hb⟩:=hrel
  have Hb:=zh hb
  clear hb hst
  by_cases hlt:k<a.size∧k<b.size
  ·obtain ⟨h1,h2⟩:=hlt
   have hk0:(0:Int)≤(k:Int):=by omega
   have hk1:(k:Int)<(a.size:Int):=by omega
   have hk2:(k:Int)<(b.size:Int):=by omega
   have da:a.data.toList.drop k=a[k] :: a.data.toList.drop (k+1):=List.drop_eq_getElem_cons (by rw [bsize]; exact h1)
   have db:b.data.toList.drop k=b[k] :: b.data.toList.drop (k+1):=List.drop_eq_getElem_cons (by rw [bsize]; exact h2)
   have hS2:=hS.out
   rw [da,db] at hS2
   have hx:=(a[k]).toNat_lt
   have hy:=(b[k]).toNat_lt
   by_cases e:a[k]=b[k]
   ·have hS3:Hid (r=Op.bytesLess (a.data.toList.drop (k+1)) (b.data.toList.drop (k+1))):=zh (by rw [hS2,e,bl_same])
    have hne:(((a[k]).toNat:Int) != ((b[k]).toNat:Int))=false:=by rw [e]; simp
    clear hS hS2 da db
    go_wp2
    go_region
    go_wp2
    go_roundw
    case rel=>exact ⟨k+1,by omega,by omega,by go_num,hS3,Hb.out.drew⟩
    case measure=>simp [intOf]; omega
   ·have hS3:Hid (r=decide ((a[k]).toNat<(b[k]).toNat)):=zh (by rw [hS2,bl_cons _ _ _ _ e])
    have hne:(((a[k]).toNat:Int) != ((b[k]).toNat:Int))=true:=by
     rw [bne_iff_ne]
     intro h
     exact e (UInt8.toNat_inj.1 (by omega))
    clear hS hS2 da db e
    go_wp2
    go_region
    go_wp2
    go_region
    go_wp2
    go_ret
    exact ⟨by rw [hS3.out]; simp,Hb.out.drew.drew⟩
  ·have hS3:Hid (r=decide (a.size<b.size)):=zh (by
    rw [hS.out]
    by_cases h1:k<a.size
    ·have e:k=b.size:=by omega
     have eb:b.data.toList.drop k=[]:=List.drop_eq_nil_of_le (by rw [bsize]; omega)
     rw [eb,List.drop_eq_getElem_cons (by rw [bsize]; exact h1),decide_eq_false (by omega)]
     simp [Op.bytesLess]
    ·have ea:a.data.toList.drop k=[]:=List.drop_eq_nil_of_le (by rw [bsize]; omega)
     rw [ea]
     by_cases h2:k<b.size
     ·rw [List.drop_eq_getElem_cons (by rw [bsize]; exact h2),decide_eq_true (by omega)]
      simp [Op.bytesLess]
     ·have eb:b.data.toList.drop k=[]:=List.drop_eq_nil_of_le (by rw [bsize]; omega)
      rw [eb,decide_eq_false (by omega)]
      simp [Op.bytesLess])
   clear hS
   by_cases h1:k<a.size
   ·have hk1:(k:Int)<(a.size:Int):=by omega
    have hk2:(b.size:Int)≤(k:Int):=by omega
    go_wp2
    go_ret
    exact ⟨by rw [hS3.out]; simp,Hb.out⟩
   ·have hk1:(a.size:Int)≤(k:Int):=by omega
    go_wp2
    go_ret
    exact ⟨by rw [hS3.out]; simp,Hb.out⟩
structure PosR (w:World) (B:Nat) (x:Tr):Prop where
 ex:∃ P pc,x.2.1=.slice P x.2.2.length pc∧Reads w B 1 P x.2.2.length (nC x.2.2)∧x.2.2.length≤pc∧(P=none→pc=0)
 szs:x.1.size≤1048576
 szp:x.2.2.length≤65536
theorem PosR.grow {w w':World} {B B':Nat} {x:Tr} (h:PosR w B x) (hk:Below B w w') (hB:B≤B'):PosR w' B' x:=by
 obtain ⟨P,pc,h1,h2,h3⟩:=h.ex
 exact ⟨⟨P,pc,h1,(h2.below hk).more hB,h3⟩,h.szs,h.szp⟩
structure TmO (w:World) (B:Nat) (A:Option Addr) (n c:Nat) (O:List Tr):Prop where
 rd:Reads w B 2 A n (O.flatMap encO)
 ln:O.length=n
 cap:n≤c
 nl:A=none→c=0
 po:∀ x∈O,PosR w B x
theorem TmO.grow {w w':World} {B B' n c:Nat} {A:Option Addr} {O:List Tr} (h:TmO w B A n c O) (hk:Below B w w') (hB:B≤B'):TmO w' B' A n c O :=
 ⟨(h.rd.below hk).more hB,h.ln,h.cap,h.nl,fun x hx=>(h.po x hx).grow hk hB⟩
theorem TmO.at_ {w:World} {B n c:Nat} {A:Option Addr} {O:List Tr} (h:TmO w B A n c O) {k:Nat} (hk:k<O.length) :
  ∃ b o,A=some ⟨b,o,none⟩∧b<B∧w.cell? ⟨b,o+k * 2,none⟩=some (.string O[k].1)∧w.cell? ⟨b,o+k * 2+1,none⟩=some O[k].2.1:=by
 obtain ⟨b,o,e,hb,hc⟩:=h.rd.2 (by have:=h.ln; omega)
 have f0:=Ss.encs_get (enc:=encO) (k:=2) (fun _=>rfl) O k 0 hk (by omega)
 have f1:=Ss.encs_get (enc:=encO) (k:=2) (fun _=>rfl) O k 1 hk (by omega)
 have c0:=hc _ _ (f0.trans rfl)
 have c1:=hc _ _ (f1.trans rfl)
 rw [← Nat.add_assoc] at c1
 exact ⟨b,o,e,hb,c0,c1⟩
def prj (x:Tr):Tm:=(x.1,x.2.2)
theorem beq_dec (s t:ByteArray):(s.toList == t.toList)=decide (s=t):=by
 by_cases h:s=t
 ·subst h; simp
 ·rw [decide_eq_false h,beq_eq_false_iff_ne]; exact fun e=>h (toList_inj e)
theorem encO_take (O:List Tr) (k:Nat):(O.take k).flatMap encO=(O.flatMap encO).take (k * 2):=by
 induction O generalizing k with
 | nil=>simp
 | cons x O ih =>
  cases k with
  | zero=>simp
  | succ k =>
   rw [List.take_succ_cons,List.flatMap_cons,List.flatMap_cons,ih,show (k+1) * 2=k * 2+2 by omega,show encO x=[.string x.1,x.2.1] from rfl]
   rfl
theorem encO_drop (O:List Tr) (k:Nat):(O.drop k).flatMap encO=(O.flatMap encO).drop (k * 2):=by
 induction O generalizing k with
 | nil=>simp
 | cons x O ih =>
  cases k with
  | zero=>simp
  | succ k =>
   rw [List.drop_succ_cons,List.flatMap_cons,ih,show (k+1) * 2=k * 2+2 by omega,show encO x=[.string x.1,x.2.1] from rfl]
   rfl
theorem encO_one {w:World} {B:Nat} {O:List Tr} (h:∀ x∈O,PosR w B x):∀ u∈O.flatMap encO,u.oneCell'=true:=by
 intro u hu
 obtain ⟨x,hx,hux⟩:=List.mem_flatMap.1 hu
 obtain ⟨P,pc,e,_⟩:=(h x hx).ex
 simp only [encO,List.mem_cons,List.not_mem_nil,or_false] at hux
 rcases hux with rfl | rfl
 ·rfl
 ·rw [e]; rfl
theorem nC_one (l:List Nat):∀ u∈nC l,u.oneCell'=true:=by
 intro u hu
 obtain ⟨n,_,rfl⟩:=List.mem_map.1 hu
 rfl
theorem own_apart {w w':World} {B B' k k' n n':Nat} {T T':TypeId} {v v':Value} {X X':List Value} (h:w.ownsRow B T k v n X) (h':w.ownsRow B' T' k' v' n' X') (hT:T≠T') (hg:w.grownBy w' v'.ownBlock):w'.ownsRow B T k v n X :=
 h.kept hg (by
  cases hv:v.ownBlock with
  | none=>exact .inl rfl
  | some b=>exact .inr (fun e=>hT ((tg_own h hv).one (tg_own h' e.symm))))
theorem rterm_info:(Tryz.prog.info? 166).map (fun i=>(i.zero,i.size,i.bytes))=some (some (.agg #[.string ByteArray.empty,.slice none 0 0]),2,40):=by kernel_rfl
end Go.Proofs.YtlfpfkallgkjdaaGreat.Ev
end
