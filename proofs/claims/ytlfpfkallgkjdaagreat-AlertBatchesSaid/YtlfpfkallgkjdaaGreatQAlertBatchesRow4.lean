/- Kept queries, by rising numbers: plain. (No program in sight.) -/
import Derived.Maps.AppendAt
import Derived.Laws.AppendOwnNone
import Derived.BigQuiet
import Derived.OwnWalk
import Derived.Test.YtlfpfkallgkjdaaGreatQAlertBatchesRow0
import Derived.Test.YtlfpfkallgkjdaaGreatQAlertBatchesRow14
import Derived.Test.YtlfpfkallgkjdaaGreatQAlertBatchesRow28
import Derived.Test.YtlfpfkallgkjdaaGreatQAlertBatchesRow2
import Derived.Test.YtlfpfkallgkjdaaGreatQAlertBatchesRow34
import Derived.Test.YtlfpfkallgkjdaaGreatQAlertBatchesRow33
set_option linter.unusedSimpArgs false
set_option linter.unusedVariables false
set_option maxRecDepth 20000
section
namespace Go.Proofs.YtlfpfkallgkjdaaGreat.Al
section
variable {κ:Type}
abbrev UpI (l:List (Int × κ)):Prop:=l.Pairwise (fun x y=>x.1<y.1)
def pos:List (Int × κ)→Int→Nat
 | [],_=>0
 | x :: l,i=>if x.1<i then pos l i+1 else 0
def get:List (Int × κ)→Int→Option κ
 | [],_=>none
 | x :: l,i=>if x.1=i then some x.2 else get l i
theorem pos_cons (x:Int × κ) (l:List (Int × κ)) (i:Int):pos (x :: l) i=if x.1<i then pos l i+1 else 0:=rfl
theorem get_cons (x:Int × κ) (l:List (Int × κ)) (i:Int):get (x :: l) i=if x.1=i then some x.2 else get l i:=rfl
def put (l:List (Int × κ)) (i:Int) (k : κ):List (Int × κ):=l.take (pos l i) ++ (i,k) :: l.drop (pos l i+(if (get l i).isSome then 1 else 0))
def drop (l:List (Int × κ)) (i:Int):List (Int × κ):=if (get l i).isSome then l.take (pos l i) ++ l.drop (pos l i+1) else l
theorem pos_le:∀ (l:List (Int × κ)) (i:Int),pos l i≤l.length
 | [],i=>zG _
 | x :: l,i=>by
  have ih:=pos_le l i
  unfold pos
  split
  ·rw [List.length_cons]; omega
  ·exact Nat.zero_le _
theorem pos_lt:∀ {l:List (Int × κ)} {i:Int} {k:Nat} (h:k<pos l i) (h2:k<l.length),l[k].1<i
 | [],i,k,h,h2=>by simp at h2
 | x :: l,i,k,h,h2=>by
  unfold pos at h
  split at h
  ·rename_i c
   cases k with
   | zero=>exact c
   | succ k=>exact pos_lt (l:=l) (i:=i) (by omega) (by simpa using h2)
  ·omega
theorem pos_at:∀ {l:List (Int × κ)} {i:Int} (h:pos l i<l.length),¬ l[pos l i].1<i
 | [],i,h=>by simp at h
 | x :: l,i,h=>by
  by_cases c:x.1<i
  ·have e:pos (x :: l) i=pos l i+1:=by rw [pos_cons,if_pos c]
   have h2:pos l i<l.length:=by rw [e] at h; simpa using h
   have:=pos_at (l:=l) (i:=i) h2
   simpa [e] using this
  ·have e:pos (x :: l) i=0:=by rw [pos_cons,if_neg c]
   simpa [e] using c
theorem get_none_lt:∀ {l:List (Int × κ)} {i:Int},(∀ x∈l,i<x.1)→get l i=none
 | [],i,h=>rfl
 | x :: l,i,h=>by
  unfold get
  rw [if_neg (by have:=h x (List.mem_cons_self ..); omega)]
  exact get_none_lt (fun y hy=>h y (List.mem_cons_of_mem _ hy))
theorem get_none_gt:∀ {l:List (Int × κ)} {i:Int},(∀ x∈l,x.1<i)→get l i=none
 | [],i,h=>rfl
 | x :: l,i,h=>by
  unfold get
  rw [if_neg (by have:=h x (List.mem_cons_self ..); omega)]
  exact get_none_gt (fun y hy=>h y (List.mem_cons_of_mem _ hy))
theorem get_app:∀ (a b:List (Int × κ)) (i:Int),get (a ++ b) i=(get a i).or (get b i)
 | [],b,i=>by simp [get]
 | x :: a,b,i=>by
  rw [List.cons_append,get_cons,get_cons]
  split
  ·rfl
  ·exact get_app a b i
theorem get_mem:∀ {l:List (Int × κ)} {i:Int} {k : κ},get l i=some k→(i,k)∈l
 | [],i,k,h=>by cases h
 | x :: l,i,k,h=>by
  unfold get at h
  split at h
  ·rename_i c
   injection h with h
   subst c h
   exact List.mem_cons_self ..
  ·exact List.mem_cons_of_mem _ (get_mem h)
theorem mem_get:∀ {l:List (Int × κ)},UpI l→∀ {x:Int × κ},x∈l→get l x.1=some x.2
 | [],_,x,h=>(by cases h)
 | y :: l,hu,x,h=>by
  obtain ⟨h1,h2⟩:=List.pairwise_cons.1 hu
  unfold get
  rcases List.mem_cons.1 h with rfl | h
  ·rw [if_pos rfl]
  ·rw [if_neg (by have:=h1 x h; omega)]
   exact mem_get h2 h
theorem parts {l:List (Int × κ)} (hu:UpI l) (i:Int):(∀ x∈l.take (pos l i),x.1<i)∧(∀ x∈l.drop (pos l i+(if (get l i).isSome then 1 else 0)),i<x.1)∧((get l i).isSome=true↔∃ h:pos l i<l.length,l[pos l i].1=i):=by
 have hlt:∀ x∈l.take (pos l i),x.1<i:=fun x hx=>by
  obtain ⟨k,hk,rfl⟩:=List.mem_iff_getElem.1 hx
  rw [List.length_take] at hk
  rw [List.getElem_take]
  exact pos_lt (by omega) (by omega)
 have hge:∀ x∈l.drop (pos l i),¬ x.1<i:=fun x hx=>by
  obtain ⟨k,hk,rfl⟩:=List.mem_iff_getElem.1 hx
  rw [List.length_drop] at hk
  rw [List.getElem_drop]
  have h0:=pos_at (l:=l) (i:=i) (by omega)
  rcases Nat.eq_zero_or_pos k with rfl | hp
  ·simpa using h0
  ·have:=List.pairwise_iff_getElem.1 hu (pos l i) (pos l i+k) (by omega) (by omega) (by omega)
   omega
 have hiff:(get l i).isSome=true↔∃ h:pos l i<l.length,l[pos l i].1=i:=by
  constructor
  ·intro h
   cases hg:get l i with
   | none=>rw [hg] at h; cases h
   | some k =>
    obtain ⟨j,hj,e⟩:=List.mem_iff_getElem.1 (get_mem hg)
    have e1:l[j].1=i:=by rw [e]
    have h1:¬ j<pos l i:=fun h=>by have:=pos_lt h hj; omega
    have h2:pos l i<l.length:=by omega
    have h3:=pos_at h2
    refine ⟨h2,?_⟩
    rcases Nat.lt_or_ge (pos l i) j with h4 | h4
    ·have:=List.pairwise_iff_getElem.1 hu (pos l i) j h2 hj h4
     omega
    ·have h5:pos l i=j:=by omega
     simp only [h5]
     exact e1
  ·rintro ⟨h,e⟩
   have:=mem_get hu (List.getElem_mem h)
   rw [e] at this
   rw [this]
   rfl
 refine ⟨hlt,fun x hx=>?_,hiff⟩
 split at hx
 ·rename_i hs
  obtain ⟨h,e⟩:=hiff.1 hs
  obtain ⟨k,hk,rfl⟩:=List.mem_iff_getElem.1 hx
  rw [List.length_drop] at hk
  rw [List.getElem_drop]
  have:=List.pairwise_iff_getElem.1 hu (pos l i) (pos l i+1+k) h (by omega) (by omega)
  omega
 ·rename_i hs
  rw [Nat.add_zero] at hx
  have h1:=hge x hx
  obtain ⟨k,hk,rfl⟩:=List.mem_iff_getElem.1 hx
  rw [List.length_drop] at hk
  rw [List.getElem_drop] at h1 ⊢
  rcases Nat.eq_zero_or_pos k with rfl | hp
  ·have h2:l[pos l i].1≠i:=fun e=>hs (hiff.2 ⟨by omega,e⟩)
   have h3:¬ l[pos l i].1<i:=by simpa using h1
   simp only [Nat.add_zero]
   omega
  ·have h2:=pos_at (l:=l) (i:=i) (by omega)
   have:=List.pairwise_iff_getElem.1 hu (pos l i) (pos l i+k) (by omega) (by omega) (by omega)
   omega
theorem put_up {l:List (Int × κ)} (hu:UpI l) (i:Int) (k : κ):UpI (put l i k):=by
 obtain ⟨h1,h2,_⟩:=parts hu i
 unfold put
 refine List.pairwise_append.2 ⟨hu.sublist (List.take_sublist _ _),List.pairwise_cons.2 ⟨fun y hy=>h2 y hy,hu.sublist (List.drop_sublist _ _)⟩,fun x hx y hy=>?_⟩
 have hx':=h1 x hx
 rcases List.mem_cons.1 hy with rfl | hy
 ·exact hx'
 ·have:=h2 y hy; omega
theorem drop_up {l:List (Int × κ)} (hu:UpI l) (i:Int):UpI (drop l i):=by
 unfold drop
 split
 ·rw [← List.eraseIdx_eq_take_drop_succ]
  exact hu.sublist (List.eraseIdx_sublist _ _)
 ·exact hu
theorem get_split {l:List (Int × κ)} (hu:UpI l) (i j:Int) (hne:j≠i):get l j=(get (l.take (pos l i)) j).or (get (l.drop (pos l i+(if (get l i).isSome then 1 else 0))) j):=by
 obtain ⟨_,_,h3⟩:=parts hu i
 by_cases hs:(get l i).isSome=true
 ·obtain ⟨h,e⟩:=h3.1 hs
  rw [if_pos hs]
  have e1:l=l.take (pos l i) ++ (l[pos l i] :: l.drop (pos l i+1)):=by rw [← List.drop_eq_getElem_cons h,List.take_append_drop]
  have e2:get l j=get (l.take (pos l i) ++ (l[pos l i] :: l.drop (pos l i+1))) j:=congrArg (fun m=>get m j) e1
  rw [e2,get_app]
  congr 1
  show (if l[pos l i].1=j then some l[pos l i].2 else get (l.drop (pos l i+1)) j)=_
  rw [if_neg (by rw [e]; exact fun h=>hne h.symm)]
 ·rw [if_neg hs,Nat.add_zero,← get_app,List.take_append_drop]
theorem get_put {l:List (Int × κ)} (hu:UpI l) (i:Int) (k : κ) (j:Int):get (put l i k) j=if j=i then some k else get l j:=by
 obtain ⟨h1,h2,_⟩:=parts hu i
 unfold put
 rw [get_app]
 by_cases hj:j=i
 ·subst hj
  rw [if_pos rfl,get_none_gt h1]
  show (none.or (if j=j then some k else _))=_
  rw [if_pos rfl]
  rfl
 ·rw [if_neg hj,get_split hu i j hj]
  congr 1
  show (if i=j then some k else _)=_
  rw [if_neg (fun h=>hj h.symm)]
theorem get_drop {l:List (Int × κ)} (hu:UpI l) (i j:Int):get (drop l i) j=if j=i then none else get l j:=by
 obtain ⟨h1,h2,h3⟩:=parts hu i
 by_cases hs:(get l i).isSome=true
 ·unfold drop
  rw [if_pos hs] at h2 ⊢
  rw [get_app]
  by_cases hj:j=i
  ·subst hj
   rw [if_pos rfl,get_none_gt h1,get_none_lt h2]
   rfl
  ·rw [if_neg hj,get_split hu i j hj,if_pos hs]
 ·unfold drop
  rw [if_neg hs]
  by_cases hj:j=i
  ·subst hj
   rw [if_pos rfl]
   cases h:get l j with
   | none=>rfl
   | some k=>rw [h] at hs; exact absurd rfl hs
  ·rw [if_neg hj]
theorem put_len {l:List (Int × κ)} (hu:UpI l) (i:Int) (k : κ):(put l i k).length=if (get l i).isSome then l.length else l.length+1:=by
 obtain ⟨_,_,h3⟩:=parts hu i
 have hle:=pos_le l i
 unfold put
 rw [List.length_append,List.length_cons,List.length_take,List.length_drop]
 split
 ·rename_i hs
  obtain ⟨h,_⟩:=h3.1 hs
  omega
 ·omega
theorem drop_len {l:List (Int × κ)} (hu:UpI l) (i:Int):(drop l i).length=if (get l i).isSome then l.length - 1 else l.length:=by
 obtain ⟨_,_,h3⟩:=parts hu i
 unfold drop
 split
 ·rename_i hs
  obtain ⟨h,_⟩:=h3.1 hs
  rw [List.length_append,List.length_take,List.length_drop]
  omega
 ·rfl
theorem put_drop {l:List (Int × κ)} (hu:UpI l) (i:Int) (k : κ) (j:Int):get (put (drop l i) i k) j=get (put l i k) j:=by
 rw [get_put (drop_up hu i),get_put hu,get_drop hu]
 split <;> rfl
theorem get_one:∀ {l m:List (Int × κ)},UpI l→UpI m→(∀ i,get l i=get m i)→l=m
 | [],[],_,_,_=>rfl
 | [],y :: m,_,_,h=>by have:=h y.1; simp [get] at this
 | x :: l,[],_,_,h=>by have:=h x.1; simp [get] at this
 | x :: l,y :: m,hl,hm,h=>by
  obtain ⟨l1,l2⟩:=List.pairwise_cons.1 hl
  obtain ⟨m1,m2⟩:=List.pairwise_cons.1 hm
  have hx:get (y :: m) x.1=some x.2:=by rw [← h]; simp [get]
  have hy:get (x :: l) y.1=some y.2:=by rw [h]; simp [get]
  have e:x.1=y.1:=by
   rcases List.mem_cons.1 (get_mem hx) with e | e
   ·exact congrArg Prod.fst e
   ·rcases List.mem_cons.1 (get_mem hy) with f | f
    ·exact (congrArg Prod.fst f).symm
    ·have h1:y.1<x.1:=m1 _ e
     have h2:x.1<y.1:=l1 _ f
     omega
  have e2:x.2=y.2:=by
   have:get (y :: m) x.1=some y.2:=by rw [e]; simp [get]
   rw [hx] at this
   injection this
  have exy:x=y:=Prod.ext e e2
  subst exy
  congr 1
  refine get_one l2 m2 (fun i=>?_)
  by_cases hi:x.1=i
  ·subst hi
   rw [get_none_lt l1,get_none_lt m1]
  ·have:=h i
   rwa [get_cons,get_cons,if_neg hi,if_neg hi] at this
end
end Go.Proofs.YtlfpfkallgkjdaaGreat.Al
end

section
namespace Go.Proofs.YtlfpfkallgkjdaaGreat.Rg
open Go.RowKit
theorem add_lit (b o n:Nat):(⟨b,o,none⟩:Addr).add n=⟨b,o+n,none⟩:=by unfold Addr.add; split <;> simp_all
theorem wpList_append_any {P:Program} {w:World} {ops:Array Oper} {rest:List Oper} {o:Oper} {a:Act} {Q:Exit→Act→World→Prop} (hgd:o.guard=none) (s x:Operand) (t:TypeId)
  (ho:o.op=.call { callee:=.builtin .append,args:=#[s,x],argTypes:=#[t,t] })
  (base:Nat) (e:TypeId) (i:TypeInfo) (z:Value) (size bytes:Nat) (ht:P.underlying t=some (.slice e)) (hi:P.info? e=some i) (hz:i.zero=some z)
  (hsize:i.size=size) (hby:i.bytes=bytes) (hzs:z.cells.size=size) (hsz : 0<size)
  (v:Value) (n:Nat) (xs:List Value) (hs:a.eval s=v) (hown:w.ownsRow base e size v n xs) (A:Option Addr) (m c:Nat) (X:List Value) (hx:a.eval x=.slice A m c) (hR:Reads w w.heap.size size A m X) (hnil:A=none→c=0) (h1:∀ u∈X,u.oneCell'=true)
  (h63:n+m≤maxLen) (hbytes:(n+m) * bytes≤140737488355328) (hbase:base≤w.heap.size)
  (h:∀ v' w',w'.ownsRow base e size v' (n+m) (xs ++ X)→w.grownBy w' v.ownBlock→(v'.ownBlock=v.ownBlock∨v'.ownBlock=some w.heap.size)→wpList P ops Q rest (a.put o.dst v') w'):wpList P ops Q (o :: rest) a w:=by
 have hXl:=hR.1
 cases A with
 | none =>
  have hm0:m=0:=by
   by_cases h0 : 0<m
   ·obtain ⟨b,o,e,_⟩:=hR.2 h0; cases e
   ·omega
  subst hm0
  obtain rfl:c=0:=hnil rfl
  have hX:X=[]:=List.length_eq_zero_iff.1 (by omega)
  subst hX
  refine wpList_append_own_none hgd s x t ho base e i size ht hi v n xs hs hown hx ?_
  exact h v w (by simpa using hown) (grow_of_below (Below.refl _ _) _) (.inl rfl)
 | some ad =>
  refine wpList_append_own_at w hgd s x t ho base e i z size bytes ht hi hz hsize hby hzs hsz v n xs hs hown ad m c X hx hXl (fun j u hj=>?_) h1 h63 hbytes hbase (fun v' w' h1 h2 _ h4=>h v' w' h1 h2 h4)
  have hjl:j<m * size:=by
   have:=(List.getElem?_eq_some_iff.1 hj).1
   omega
  have hm0 : 0<m:=by
   rcases Nat.eq_zero_or_pos m with h0 | h0
   ·subst h0; omega
   ·exact h0
  obtain ⟨b,o,e,hb,hc⟩:=hR.2 hm0
  injection e with e
  subst e
  rw [add_lit]
  exact hc j u hj
section
variable {w:World} {B n c p k:Nat} {A:Option Addr} {X:List Value}
theorem reads_take (h:Reads w B k A n X) (hp:p≤n):Reads w B k A p (X.take (p * k)):=by
 have hl:=h.1
 have hle:p * k≤n * k:=Nat.mul_le_mul_right k hp
 refine ⟨by rw [List.length_take]; omega,fun h0=>?_⟩
 obtain ⟨b,o,e,hb,hc⟩:=h.2 (by omega)
 refine ⟨b,o,e,hb,fun j u hj=>hc j u ?_⟩
 rw [List.getElem?_take] at hj
 split at hj
 ·exact hj
 ·cases hj
theorem reads_cut (h:Reads w B k A n X) (hp:p≤n) (hc:n≤c):Reads w B k (if c=p then A else A.map (·.add (p * k))) (n - p) (X.drop (p * k)):=by
 have hl:=h.1
 refine ⟨by rw [List.length_drop,Nat.sub_mul]; omega,fun h0=>?_⟩
 rw [if_neg (by omega)]
 obtain ⟨b,o,rfl,hb,hcl⟩:=h.2 (by omega)
 refine ⟨b,o+p * k,?_,hb,fun j u hj=>?_⟩
 ·show some ((⟨b,o,none⟩:Addr).add (p * k))=_
  rw [add_lit]
 ·rw [List.getElem?_drop] at hj
  have:=hcl _ _ hj
  rwa [← Nat.add_assoc] at this
end
structure Row (T:TypeId) (k B:Nat) (w wr:World) (v:Value) (n:Nat) (X:List Value):Prop where
 own:wr.ownsRow B T k v n X
 bel:Below B w wr
section
variable {T:TypeId} {k B n:Nat} {w wr w':World} {v:Value} {X:List Value}
theorem Row.start (hb:Below B w wr):Row T k B w wr (.slice none 0 0) 0 []:=⟨World.ownsRow_nil _ _ _ _,hb⟩
theorem Row.empty (T:TypeId) (k:Nat) (hk : 0<k) (w:World):Row T k w.heap.size w (w.alloc (.cells #[] T)) (.slice (some ⟨w.heap.size,0,none⟩) 0 0) 0 [] :=
 ⟨World.ownsRow_lit (base:=w.heap.size) (e:=T) (size:=k) w #[] 0 (by simp) (by unfold maxLen; omega) (by simp),(Below.refl _ _).alloc (zG _) _⟩
theorem Row.below (h:Row T k B w wr v n X) (hB:B≤wr.heap.size) (hb:Below wr.heap.size wr w'):Row T k B w w' v n X :=
 ⟨h.own.kept (grow_of_below hb none) (by cases v.ownBlock <;> simp),h.bel.trans (hb.mono hB)⟩
theorem Row.alloc (h:Row T k B w wr v n X) (hB:B≤wr.heap.size) (o:Obj):Row T k B w (wr.alloc o) v n X:=h.below hB ((Below.refl _ _).alloc (zG _) _)
theorem Row.app {w5:World} {v5:Value} {m:Nat} {Y:List Value} (h:Row T k B w wr v n X) (hB:B≤wr.heap.size) (ho:w5.ownsRow B T k v5 (n+m) (X ++ Y)) (hg:wr.grownBy w5 v.ownBlock):Row T k B w w5 v5 (n+m) (X ++ Y) :=
 ⟨ho,h.bel.grown hg hB (fun b hb=>(h.own.lt b hb).1)⟩
theorem own_base {w:World} {B B' n:Nat} {T:TypeId} {v:Value} {xs:List Value} (h:w.ownsRow B T k v n xs) (hB:B'≤B):w.ownsRow B' T k v n xs:=by
 obtain ⟨h1,h2 | ⟨g,cap,cur,q1,q2,q3⟩⟩:=h
 ·exact ⟨h1,.inl h2⟩
 ·exact ⟨h1,.inr ⟨g,cap,cur,q1,by omega,q3⟩⟩
theorem Row.over {w2:World} (h:Row T k B wr w2 v n X) (hw:Below w.heap.size w wr) (hB:w.heap.size≤B):Row T k w.heap.size w w2 v n X:=⟨own_base h.own hB,hw.trans (h.bel.mono hB)⟩
theorem new_row (w:World) (T:TypeId) (cs:List Value) (m:Nat) (hl:cs.length=m * k) (h0 : 0<m):Reads (w.alloc (.cells cs.toArray T)) (w.alloc (.cells cs.toArray T)).heap.size k (some ⟨w.heap.size,0,none⟩) m cs :=
 ⟨hl,fun _=>⟨_,0,rfl,by simp,fun j u hj=>by
  rw [Nat.zero_add,(Blk.new w T cs.toArray).cell j]
  simpa using hj⟩⟩
end
end Go.Proofs.YtlfpfkallgkjdaaGreat.Rg
end

section
namespace Go.Proofs.YtlfpfkallgkjdaaGreat.Mx
open Go.RowKit Ut Tk Qy Ev Qp Mv
end Go.Proofs.YtlfpfkallgkjdaaGreat.Mx
end

section
namespace Go.Proofs.YtlfpfkallgkjdaaGreat.Mx
open Go.RowKit Ut Tk Qy Ev Qp Mv
def Ow (O:Nat→Prop) (w0 w:World):Nat→Prop:=fun b=>O b∨(w0.heap.size≤b∧b<w.heap.size)
theorem Ow.mono {O:Nat→Prop} {w wr w2:World} (h:wr.heap.size≤w2.heap.size):∀ b,Ow O w wr b→Ow O w w2 b:=fun b hb=>by
 rcases hb with hb | ⟨h1,h2⟩
 ·exact .inl hb
 ·exact .inr ⟨h1,Nat.lt_of_lt_of_le h2 h⟩
end Go.Proofs.YtlfpfkallgkjdaaGreat.Mx
end

section
namespace Go.Proofs.YtlfpfkallgkjdaaGreat.Mx
open Go.RowKit Go.Maps Ut Tk Qy Ev Qp Mv
section
variable {w W1 wr:World} {n0 X:Nat} {O:Nat→Prop} {ds D0:List Dc} {b0 j M cn:Nat} {v:Value} {F:ByteArray→Option Value} {sz lo hi:Int} {f:ByteArray→List Po}
end
theorem term_at {w:World} {n0 n:Nat} {A:Option Addr} {O:List Tr} (h:ReadsS w (fun b=>n0≤b∧Tg w 105 b) 2 A n (O.flatMap encO)) (hp:∀ x∈O,x.2.2≠[]∧∃ P pc,x.2.1=.slice P x.2.2.length pc∧x.2.2.length≤pc∧ReadsS w (fun b=>n0≤b∧Tg w 3 b) 1 P x.2.2.length (nC x.2.2)) (hl:O.length=n) {i:Nat} (hi:i<O.length) :
  ∃ bt o P pc,A=some ⟨bt,o,none⟩∧Tg w 105 bt∧w.cell? ⟨bt,o+i * 2,none⟩=some (.string O[i].1)∧w.cell? ⟨bt,o+i * 2+1,none⟩=some (.slice P O[i].2.2.length pc)∧O[i].2.1=.slice P O[i].2.2.length pc:=by
 obtain ⟨b,o,e,hb,hc⟩:=h.2 (by omega)
 have f0:=Ss.encs_get (enc:=encO) (k:=2) (fun _=>rfl) O i 0 hi (by omega)
 have f1:=Ss.encs_get (enc:=encO) (k:=2) (fun _=>rfl) O i 1 hi (by omega)
 have c0:=hc _ _ (f0.trans rfl)
 have c1:=hc _ _ (f1.trans rfl)
 obtain ⟨_,P,pc,e2,_⟩:=hp _ (List.getElem_mem hi)
 rw [← Nat.add_assoc] at c1
 refine ⟨b,o,P,pc,e,hb.2,?_,?_,e2⟩
 ·simpa using c0
 ·rw [← e2]; exact c1
end Go.Proofs.YtlfpfkallgkjdaaGreat.Mx
end

section
namespace Go.Proofs.YtlfpfkallgkjdaaGreat.Mx
open Go.RowKit Ut Tk Qy Ev Qp Mv
section
variable {w:World} {n0 X M cn:Nat} {v:Value} {F:ByteArray→Option Value} {O:Nat→Prop} {ds:List Dc} {sz lo hi:Int} {f:ByteArray→List Po}
end
end Go.Proofs.YtlfpfkallgkjdaaGreat.Mx
end

section
namespace Go.Proofs.YtlfpfkallgkjdaaGreat.Ev
open Go.RowKit Ut Tk Qy Qp
def baseAt:List Fl→Nat→Nat
 | [],_=>0
 | _,0=>0
 | f :: fs,i+1=>(64+(words f.2.data.toList).length)+baseAt fs i
theorem basedL_at:∀ (fs:List Fl) (b i:Nat) (h:i<fs.length),(basedL b fs)[i]'(by rw [basedL_len]; exact h)=(b+baseAt fs i,fs[i])
 | f :: fs,b,0,h=>rfl
 | f :: fs,b,i+1,h=>by
  have:=basedL_at fs (b+(64+(words f.2.data.toList).length)) i (by simpa using h)
  simp only [basedL,List.getElem_cons_succ,this,baseAt]
  rw [Nat.add_assoc]
def rawN (fs:List Fl) (i:Nat):List T1:=((basedL 0 fs).take i).flatMap rawO
theorem rawN_succ (fs:List Fl) (i:Nat) (h:i<fs.length):rawN fs (i+1)=rawN fs i ++ rawO (baseAt fs i,fs[i]):=by
 unfold rawN
 rw [List.take_succ_eq_append_getElem (by rw [basedL_len]; exact h),List.flatMap_append,basedL_at fs 0 i h,Nat.zero_add]
 simp
theorem rawN_all (fs:List Fl):rawN fs fs.length=raw fs:=by
 unfold rawN raw
 rw [List.take_of_length_le (by rw [basedL_len]; exact zG _)]
theorem rawN_len (fs:List Fl) (hsz:∀ f∈fs,f.2.size≤4096):∀ i,i≤fs.length→(rawN fs i).length≤i * 4096
 | 0,_=>by simp [rawN]
 | i+1,h=>by
  have ih:=rawN_len fs hsz i (by omega)
  have h1:=words_len fs[i].2
  have h2:=hsz _ (List.getElem_mem (show i<fs.length by omega))
  rw [rawN_succ fs i (by omega),List.length_append,rawO_len]
  simp only
  omega
theorem addAll_pos (L:List T1):∀ x∈addAll L,x.2.length≤L.length:=fun x hx=>by
 have:=(((isTm_all L).mem x).1 hx).2
 rw [this,List.length_map]
 exact List.length_filter_le _ _
theorem termT_size (a:ByteArray) (x:List UInt8):(termT a x).size=a.size+1+x.length:=by
 have h1:∀ l:List UInt8,(str l).size=l.length:=fun l=>by simp [str,ByteArray.size]
 unfold termT
 rw [h1]
 unfold term
 rw [List.length_append,List.length_cons,bsize]
 omega
end Go.Proofs.YtlfpfkallgkjdaaGreat.Ev
end

section
namespace Go.Proofs.YtlfpfkallgkjdaaGreat.Mx
open Go.RowKit Go.Maps Ut Tk Qy Ev Qp Mv
theorem basedL_mem:∀ (fs:List Fl) (b:Nat) (x:Nat × Fl),x∈basedL b fs→x.2∈fs
 | [],_,_,h=>by cases h
 | f :: fs,b,x,h=>by
  simp only [basedL,List.mem_cons] at h
  rcases h with rfl | h
  ·exact List.mem_cons_self ..
  ·exact List.mem_cons_of_mem _ (basedL_mem fs _ x h)
theorem raw_sz {fs:List Fl} (h:chkE fs=0):∀ y∈raw fs,y.1.size≤65:=by
 intro y hy
 unfold raw at hy
 obtain ⟨x,hx,hy⟩:=List.mem_flatMap.1 hy
 have hf:=(chkE_ok h).2 _ (basedL_mem fs 0 x hx)
 unfold rawO at hy
 obtain ⟨p,hp,rfl⟩:=List.mem_map.1 hy
 have hw:=List.fst_mem_of_mem_zipIdx hp
 have h1:=(words_word _ _ hw).2
 simp only [termT_size]
 omega
theorem raw_len {fs:List Fl} (h:chkE fs=0):(raw fs).length≤65536:=by
 have h1:=rawN_len fs (fun f hf=>((chkE_ok h).2 f hf).2.2) fs.length (zG _)
 rw [rawN_all] at h1
 have:=(chkE_ok h).1
 omega
theorem terms_sz {fs:List Fl} (h:chkE fs=0):∀ t∈addAll (raw fs),t.1.size≤65∧t.2.length≤65536:=by
 intro t ht
 refine ⟨?_,Nat.le_trans (addAll_pos _ t ht) (raw_len h)⟩
 obtain ⟨h1,h2⟩:=((isTm_all (raw fs)).mem t).1 ht
 rw [h2] at h1
 cases e:(raw fs).filter (fun y=>decide (y.1=t.1)) with
 | nil=>rw [e] at h1; exact absurd rfl h1
 | cons y l =>
  have hy:y∈(raw fs).filter (fun y=>decide (y.1=t.1)):=by rw [e]; exact List.mem_cons_self ..
  obtain ⟨h3,h4⟩:=List.mem_filter.1 hy
  rw [← of_decide_eq_true h4]
  exact raw_sz h y h3
theorem lawS:Keyed Tryz.prog 9:=string_keyed Tryz.underlying9
theorem keyS {s:ByteArray} (h:s.size≤maxLen):keyOf Tryz.prog 9 (litS.val s)=some (litS.lit s):=Go.WideMaps.keyOf_string_mk Tryz.underlying9 h
structure Put1 (n0:Nat) (T:TypeId) (k:Nat) (wB wx:World) (u v':Value) (n:Nat) (X:List Value):Prop where
 own:wx.ownsRow n0 T k v' n X
 gr:wB.grownBy wx u.ownBlock
 at_:v'.ownBlock=u.ownBlock∨v'.ownBlock=some wB.heap.size
end Go.Proofs.YtlfpfkallgkjdaaGreat.Mx
end

section
namespace Go.Proofs.YtlfpfkallgkjdaaGreat.Qy
open Go.RowKit Ut Tk
end Go.Proofs.YtlfpfkallgkjdaaGreat.Qy
end

section
namespace Go.Proofs.YtlfpfkallgkjdaaGreat.Qy
open Go.RowKit Ut Tk
structure MoR (w:World) (v:Value) (S:Option Addr) (ts:List ByteArray):Prop where
 at_ : 0<ts.length→∃ b o,S=some ⟨b,o,none⟩∧b<w.heap.size∧v.ownBlock≠some b∧∀ j (h:j<ts.length),w.cell? ⟨b,o+j,none⟩=some (.string ts[j])
theorem MoR.below {w w':World} {v:Value} {S:Option Addr} {ts:List ByteArray} (h:MoR w v S ts) (hb:Below w.heap.size w w'):MoR w' v S ts :=
 ⟨fun hp=>by
  obtain ⟨b,o,e,h1,h2,h3⟩:=h.at_ hp
  exact ⟨b,o,e,Nat.lt_of_lt_of_le h1 hb.size,h2,fun j hj=>(hb.cell (p:=⟨b,o+j,none⟩) h1).trans (h3 j hj)⟩⟩
end Go.Proofs.YtlfpfkallgkjdaaGreat.Qy
end

section
namespace Go.Proofs.YtlfpfkallgkjdaaGreat.Qy
open Go.RowKit Ut Tk
end Go.Proofs.YtlfpfkallgkjdaaGreat.Qy
end
