/- Kept queries, by rising numbers: plain. (No program in sight.) -/
import Derived.Shelf.Strings.Builder1
import Derived.Test.YtlfpfkallgkjdaaGreatQAlertRunsRow0
import Derived.Test.YtlfpfkallgkjdaaGreatQAlertRunsRow4
set_option linter.unusedSectionVars false
set_option linter.unusedSimpArgs false
set_option linter.unusedVariables false
set_option maxRecDepth 20000
section
namespace Go.Proofs.YtlfpfkallgkjdaaGreat.Al
section
variable {κ:Type}
abbrev UpI (l:List (Int × κ)):Prop:=l.Pairwise (fun x y=>x.1<y.1)
def pos:List (Int × κ)→Int→Nat
 | [],_=>0
 | x :: l,i=>if x.1<i then pos l i+1 else 0
def get:List (Int × κ)→Int→Option κ
 | [],_=>none
 | x :: l,i=>if x.1=i then some x.2 else get l i
theorem pos_cons (x:Int × κ) (l:List (Int × κ)) (i:Int):pos (x :: l) i=if x.1<i then pos l i+1 else 0:=rfl
theorem get_cons (x:Int × κ) (l:List (Int × κ)) (i:Int):get (x :: l) i=if x.1=i then some x.2 else get l i:=rfl
def put (l:List (Int × κ)) (i:Int) (k : κ):List (Int × κ):=l.take (pos l i) ++ (i,k) :: l.drop (pos l i+(if (get l i).isSome then 1 else 0))
def drop (l:List (Int × κ)) (i:Int):List (Int × κ):=if (get l i).isSome then l.take (pos l i) ++ l.drop (pos l i+1) else l
theorem pos_le:∀ (l:List (Int × κ)) (i:Int),pos l i≤l.length
 | [],i=>zG _
 | x :: l,i=>by
  have ih:=pos_le l i
  unfold pos
  split
  ·rw [List.length_cons]; omega
  ·exact Nat.zero_le _
theorem pos_lt:∀ {l:List (Int × κ)} {i:Int} {k:Nat} (h:k<pos l i) (h2:k<l.length),l[k].1<i
 | [],i,k,h,h2=>by simp at h2
 | x :: l,i,k,h,h2=>by
  unfold pos at h
  split at h
  ·rename_i c
   cases k with
   | zero=>exact c
   | succ k=>exact pos_lt (l:=l) (i:=i) (by omega) (by simpa using h2)
  ·omega
theorem pos_at:∀ {l:List (Int × κ)} {i:Int} (h:pos l i<l.length),¬ l[pos l i].1<i
 | [],i,h=>by simp at h
 | x :: l,i,h=>by
  by_cases c:x.1<i
  ·have e:pos (x :: l) i=pos l i+1:=by rw [pos_cons,if_pos c]
   have h2:pos l i<l.length:=by rw [e] at h; simpa using h
   have:=pos_at (l:=l) (i:=i) h2
   simpa [e] using this
  ·have e:pos (x :: l) i=0:=by rw [pos_cons,if_neg c]
   simpa [e] using c
theorem get_none_lt:∀ {l:List (Int × κ)} {i:Int},(∀ x∈l,i<x.1)→get l i=none
 | [],i,h=>rfl
 | x :: l,i,h=>by
  unfold get
  rw [if_neg (by have:=h x (List.mem_cons_self ..); omega)]
  exact get_none_lt (fun y hy=>h y (List.mem_cons_of_mem _ hy))
theorem get_none_gt:∀ {l:List (Int × κ)} {i:Int},(∀ x∈l,x.1<i)→get l i=none
 | [],i,h=>rfl
 | x :: l,i,h=>by
  unfold get
  rw [if_neg (by have:=h x (List.mem_cons_self ..); omega)]
  exact get_none_gt (fun y hy=>h y (List.mem_cons_of_mem _ hy))
theorem get_app:∀ (a b:List (Int × κ)) (i:Int),get (a ++ b) i=(get a i).or (get b i)
 | [],b,i=>by simp [get]
 | x :: a,b,i=>by
  rw [List.cons_append,get_cons,get_cons]
  split
  ·rfl
  ·exact get_app a b i
theorem get_mem:∀ {l:List (Int × κ)} {i:Int} {k : κ},get l i=some k→(i,k)∈l
 | [],i,k,h=>by cases h
 | x :: l,i,k,h=>by
  unfold get at h
  split at h
  ·rename_i c
   injection h with h
   subst c h
   exact List.mem_cons_self ..
  ·exact List.mem_cons_of_mem _ (get_mem h)
theorem mem_get:∀ {l:List (Int × κ)},UpI l→∀ {x:Int × κ},x∈l→get l x.1=some x.2
 | [],_,x,h=>(by cases h)
 | y :: l,hu,x,h=>by
  obtain ⟨h1,h2⟩:=List.pairwise_cons.1 hu
  unfold get
  rcases List.mem_cons.1 h with rfl | h
  ·rw [if_pos rfl]
  ·rw [if_neg (by have:=h1 x h; omega)]
   exact mem_get h2 h
theorem parts {l:List (Int × κ)} (hu:UpI l) (i:Int):(∀ x∈l.take (pos l i),x.1<i)∧(∀ x∈l.drop (pos l i+(if (get l i).isSome then 1 else 0)),i<x.1)∧((get l i).isSome=true↔∃ h:pos l i<l.length,l[pos l i].1=i):=by
 have hlt:∀ x∈l.take (pos l i),x.1<i:=fun x hx=>by
  obtain ⟨k,hk,rfl⟩:=List.mem_iff_getElem.1 hx
  rw [List.length_take] at hk
  rw [List.getElem_take]
  exact pos_lt (by omega) (by omega)
 have hge:∀ x∈l.drop (pos l i),¬ x.1<i:=fun x hx=>by
  obtain ⟨k,hk,rfl⟩:=List.mem_iff_getElem.1 hx
  rw [List.length_drop] at hk
  rw [List.getElem_drop]
  have h0:=pos_at (l:=l) (i:=i) (by omega)
  rcases Nat.eq_zero_or_pos k with rfl | hp
  ·simpa using h0
  ·have:=List.pairwise_iff_getElem.1 hu (pos l i) (pos l i+k) (by omega) (by omega) (by omega)
   omega
 have hiff:(get l i).isSome=true↔∃ h:pos l i<l.length,l[pos l i].1=i:=by
  constructor
  ·intro h
   cases hg:get l i with
   | none=>rw [hg] at h; cases h
   | some k =>
    obtain ⟨j,hj,e⟩:=List.mem_iff_getElem.1 (get_mem hg)
    have e1:l[j].1=i:=by rw [e]
    have h1:¬ j<pos l i:=fun h=>by have:=pos_lt h hj; omega
    have h2:pos l i<l.length:=by omega
    have h3:=pos_at h2
    refine ⟨h2,?_⟩
    rcases Nat.lt_or_ge (pos l i) j with h4 | h4
    ·have:=List.pairwise_iff_getElem.1 hu (pos l i) j h2 hj h4
     omega
    ·have h5:pos l i=j:=by omega
     simp only [h5]
     exact e1
  ·rintro ⟨h,e⟩
   have:=mem_get hu (List.getElem_mem h)
   rw [e] at this
   rw [this]
   rfl
 refine ⟨hlt,fun x hx=>?_,hiff⟩
 split at hx
 ·rename_i hs
  obtain ⟨h,e⟩:=hiff.1 hs
  obtain ⟨k,hk,rfl⟩:=List.mem_iff_getElem.1 hx
  rw [List.length_drop] at hk
  rw [List.getElem_drop]
  have:=List.pairwise_iff_getElem.1 hu (pos l i) (pos l i+1+k) h (by omega) (by omega)
  omega
 ·rename_i hs
  rw [Nat.add_zero] at hx
  have h1:=hge x hx
  obtain ⟨k,hk,rfl⟩:=List.mem_iff_getElem.1 hx
  rw [List.length_drop] at hk
  rw [List.getElem_drop] at h1 ⊢
  rcases Nat.eq_zero_or_pos k with rfl | hp
  ·have h2:l[pos l i].1≠i:=fun e=>hs (hiff.2 ⟨by omega,e⟩)
   have h3:¬ l[pos l i].1<i:=by simpa using h1
   simp only [Nat.add_zero]
   omega
  ·have h2:=pos_at (l:=l) (i:=i) (by omega)
   have:=List.pairwise_iff_getElem.1 hu (pos l i) (pos l i+k) (by omega) (by omega) (by omega)
   omega
theorem put_up {l:List (Int × κ)} (hu:UpI l) (i:Int) (k : κ):UpI (put l i k):=by
 obtain ⟨h1,h2,_⟩:=parts hu i
 unfold put
 refine List.pairwise_append.2 ⟨hu.sublist (List.take_sublist _ _),List.pairwise_cons.2 ⟨fun y hy=>h2 y hy,hu.sublist (List.drop_sublist _ _)⟩,fun x hx y hy=>?_⟩
 have hx':=h1 x hx
 rcases List.mem_cons.1 hy with rfl | hy
 ·exact hx'
 ·have:=h2 y hy; omega
theorem drop_up {l:List (Int × κ)} (hu:UpI l) (i:Int):UpI (drop l i):=by
 unfold drop
 split
 ·rw [← List.eraseIdx_eq_take_drop_succ]
  exact hu.sublist (List.eraseIdx_sublist _ _)
 ·exact hu
theorem get_split {l:List (Int × κ)} (hu:UpI l) (i j:Int) (hne:j≠i):get l j=(get (l.take (pos l i)) j).or (get (l.drop (pos l i+(if (get l i).isSome then 1 else 0))) j):=by
 obtain ⟨_,_,h3⟩:=parts hu i
 by_cases hs:(get l i).isSome=true
 ·obtain ⟨h,e⟩:=h3.1 hs
  rw [if_pos hs]
  have e1:l=l.take (pos l i) ++ (l[pos l i] :: l.drop (pos l i+1)):=by rw [← List.drop_eq_getElem_cons h,List.take_append_drop]
  have e2:get l j=get (l.take (pos l i) ++ (l[pos l i] :: l.drop (pos l i+1))) j:=congrArg (fun m=>get m j) e1
  rw [e2,get_app]
  congr 1
  show (if l[pos l i].1=j then some l[pos l i].2 else get (l.drop (pos l i+1)) j)=_
  rw [if_neg (by rw [e]; exact fun h=>hne h.symm)]
 ·rw [if_neg hs,Nat.add_zero,← get_app,List.take_append_drop]
theorem get_put {l:List (Int × κ)} (hu:UpI l) (i:Int) (k : κ) (j:Int):get (put l i k) j=if j=i then some k else get l j:=by
 obtain ⟨h1,h2,_⟩:=parts hu i
 unfold put
 rw [get_app]
 by_cases hj:j=i
 ·subst hj
  rw [if_pos rfl,get_none_gt h1]
  show (none.or (if j=j then some k else _))=_
  rw [if_pos rfl]
  rfl
 ·rw [if_neg hj,get_split hu i j hj]
  congr 1
  show (if i=j then some k else _)=_
  rw [if_neg (fun h=>hj h.symm)]
theorem get_drop {l:List (Int × κ)} (hu:UpI l) (i j:Int):get (drop l i) j=if j=i then none else get l j:=by
 obtain ⟨h1,h2,h3⟩:=parts hu i
 by_cases hs:(get l i).isSome=true
 ·unfold drop
  rw [if_pos hs] at h2 ⊢
  rw [get_app]
  by_cases hj:j=i
  ·subst hj
   rw [if_pos rfl,get_none_gt h1,get_none_lt h2]
   rfl
  ·rw [if_neg hj,get_split hu i j hj,if_pos hs]
 ·unfold drop
  rw [if_neg hs]
  by_cases hj:j=i
  ·subst hj
   rw [if_pos rfl]
   cases h:get l j with
   | none=>rfl
   | some k=>rw [h] at hs; exact absurd rfl hs
  ·rw [if_neg hj]
theorem put_len {l:List (Int × κ)} (hu:UpI l) (i:Int) (k : κ):(put l i k).length=if (get l i).isSome then l.length else l.length+1:=by
 obtain ⟨_,_,h3⟩:=parts hu i
 have hle:=pos_le l i
 unfold put
 rw [List.length_append,List.length_cons,List.length_take,List.length_drop]
 split
 ·rename_i hs
  obtain ⟨h,_⟩:=h3.1 hs
  omega
 ·omega
theorem drop_len {l:List (Int × κ)} (hu:UpI l) (i:Int):(drop l i).length=if (get l i).isSome then l.length - 1 else l.length:=by
 obtain ⟨_,_,h3⟩:=parts hu i
 unfold drop
 split
 ·rename_i hs
  obtain ⟨h,_⟩:=h3.1 hs
  rw [List.length_append,List.length_take,List.length_drop]
  omega
 ·rfl
theorem put_drop {l:List (Int × κ)} (hu:UpI l) (i:Int) (k : κ) (j:Int):get (put (drop l i) i k) j=get (put l i k) j:=by
 rw [get_put (drop_up hu i),get_put hu,get_drop hu]
 split <;> rfl
theorem get_one:∀ {l m:List (Int × κ)},UpI l→UpI m→(∀ i,get l i=get m i)→l=m
 | [],[],_,_,_=>rfl
 | [],y :: m,_,_,h=>by have:=h y.1; simp [get] at this
 | x :: l,[],_,_,h=>by have:=h x.1; simp [get] at this
 | x :: l,y :: m,hl,hm,h=>by
  obtain ⟨l1,l2⟩:=List.pairwise_cons.1 hl
  obtain ⟨m1,m2⟩:=List.pairwise_cons.1 hm
  have hx:get (y :: m) x.1=some x.2:=by rw [← h]; simp [get]
  have hy:get (x :: l) y.1=some y.2:=by rw [h]; simp [get]
  have e:x.1=y.1:=by
   rcases List.mem_cons.1 (get_mem hx) with e | e
   ·exact congrArg Prod.fst e
   ·rcases List.mem_cons.1 (get_mem hy) with f | f
    ·exact (congrArg Prod.fst f).symm
    ·have h1:y.1<x.1:=m1 _ e
     have h2:x.1<y.1:=l1 _ f
     omega
  have e2:x.2=y.2:=by
   have:get (y :: m) x.1=some y.2:=by rw [e]; simp [get]
   rw [hx] at this
   injection this
  have exy:x=y:=Prod.ext e e2
  subst exy
  congr 1
  refine get_one l2 m2 (fun i=>?_)
  by_cases hi:x.1=i
  ·subst hi
   rw [get_none_lt l1,get_none_lt m1]
  ·have:=h i
   rwa [get_cons,get_cons,if_neg hi,if_neg hi] at this
end
end Go.Proofs.YtlfpfkallgkjdaaGreat.Al
end

section
namespace Go.Proofs.YtlfpfkallgkjdaaGreat.Tk
open Go.RowKit
theorem b_size:(Tryz.prog.info? 214).map (fun i=>i.size)=some 2:=by kernel_rfl
theorem b_lies:liesAt Tryz.prog Tryz.prog.depth 214 (2 / Tryz.prog.cellsOf 214) 0 214 1=true:=by kernel_rfl
theorem byte_info:(Tryz.prog.info? 5).map (fun i=>(i.zero,i.size,i.bytes))=some (some (.int .u8 0),1,1):=by kernel_rfl
set_option maxHeartbeats 1048576 in
set_option maxRecDepth 100000 in
theorem copyCheck_used (b:Nat) (w:World) (h0:w.cell? ⟨b,0,none⟩=some (.pointer (some ⟨b,0,none⟩))) :
  Calls Tryz.prog 176 #[.pointer (some ⟨b,0,none⟩)] w fun e w'=>e=.returned (.tuple #[])∧w'=w:=by
 obtain ⟨j,hj,_⟩:=Option.map_eq_some_iff.1 b_size
 go_enter Tryz.func176,Tryz.ntmps176
 go_wp2
 rw [Lib.run_neq_ptr_same w _ Tryz.underlying212 hj]
 go_wp2
 go_end0
 exact ⟨rfl,rfl⟩
set_option maxHeartbeats 1048576 in
set_option maxRecDepth 100000 in
theorem copyCheck_fresh (b:Nat) (w:World) (h0:w.cell? ⟨b,0,none⟩=some (.pointer none)) (hsh:w.shape? b=some (214,2)) (hfz:w.frozen? ⟨b,0,none⟩=false) :
  Calls Tryz.prog 176 #[.pointer (some ⟨b,0,none⟩)] w fun e w'=>e=.returned (.tuple #[])∧w'=w.setCell ⟨b,0,none⟩ (.pointer (some ⟨b,0,none⟩)):=by
 obtain ⟨j,hj,hjs⟩:=Option.map_eq_some_iff.1 b_size
 go_enter Tryz.func176,Tryz.ntmps176
 go_wp2
 rw [Lib.run_to_unsafe w ⟨b,0,none⟩ Tryz.underlying212 Tryz.underlying253 hj (by rw [hjs]; decide) hsh (Nat.zero_lt_succ 1)]
 simp only [Result.andThen]
 rw [Oper.upon_value]
 go_wp2
 rw [run_callFunc_extern Tryz.func192 (by kernel_rfl) (by kernel_rfl) (by kernel_rfl) (e:=Extern.AbiNoEscape.same) (by kernel_rfl)]
 rw [Lib.run_noEscape]
 simp only [Result.andThen]
 rw [Oper.upon_value]
 go_wp2
 rw [Lib.run_from_unsafe w ⟨b,0,none⟩ Tryz.underlying253 Tryz.underlying212 hj hsh b_lies]
 simp only [Result.andThen]
 rw [Oper.upon_value]
 go_wp2
 go_end0
 exact ⟨rfl,rfl⟩
theorem copyCheck (B b:Nat) (bs:List Value) (w:World) (h:Lib.IsBuilder 214 5 B b bs w) :
  Calls Tryz.prog 176 #[.pointer (some ⟨b,0,none⟩)] w fun e w'=>e=.returned (.tuple #[])∧(Lib.BuilderAt 214 5 B b (.pointer (some ⟨b,0,none⟩)) bs w'∧Below B w w'):=by
 rcases h with h | h
 ·refine (copyCheck_fresh b w h.cell0 h.shape h.frozen0).mono ?_
  rintro e w' ⟨rfl,rfl⟩
  exact ⟨rfl,h.used _,(Below.refl B w).setCell (p:=⟨b,0,none⟩) h.1 _⟩
 ·refine (copyCheck_used b w h.cell0).mono ?_
  rintro e w' ⟨rfl,rfl⟩
  exact ⟨rfl,h,Below.refl B _⟩
set_option maxHeartbeats 2000000 in
set_option maxRecDepth 100000 in
theorem writeString (B b:Nat) (bs:List Value) (s:ByteArray) (w:World) (h:Lib.IsBuilder 214 5 B b bs w) (hlen:bs.length+s.size≤140737488355328) (hBw:B≤w.heap.size) :
  Calls Tryz.prog 148 #[.pointer (some ⟨b,0,none⟩),.string s] w fun e w'=>e=.returned (.tuple #[.int .i64 s.size,.nilIface])∧(Lib.BuilderAt 214 5 B b (.pointer (some ⟨b,0,none⟩)) (bs ++ Lib.strCells s) w'∧Below B w w'):=by
 obtain ⟨i0,hi,hz0,hz1,hz2⟩:=info_parts byte_info
 go_enter Tryz.func148,Tryz.ntmps148
 go_wp2_with (go_at_call 176; refine (copyCheck B b bs _ h).mono ?_)
 rintro e w1 ⟨rfl,h1,hb1⟩
 obtain ⟨hB,v,hbk,hown,hne⟩:=h1
 have c0:w1.cell? ⟨b,0,none⟩=some (.pointer (some ⟨b,0,none⟩)):=by rw [Lib.cell_of_heap hbk]; rfl
 have c1:w1.cell? ⟨b,1,none⟩=some v:=by rw [Lib.cell_of_heap hbk]; rfl
 go_wp2_with (at_builtin; refine Lib.wpList_append_own_string _ rfl _ _ 205 9 rfl B 5 i0 Tryz.underlying205 Tryz.underlying9 hi hz0 hz1 hz2 _ _ _ rfl hown s rfl ?c3 ?c4 ?c5 ?_)
 case c3=>unfold maxLen; omega
 case c4=>omega
 case c5=>have:=hb1.size; omega
 intro v' w2 hown' hgrow _
 have hlt:b<w1.heap.size:=by
  rcases Nat.lt_or_ge b w1.heap.size with h' | h'
  ·exact h'
  ·simp [Array.getElem?_eq_none h'] at hbk
 have hb2:w2.heap[b]?=some (.cells #[.pointer (some ⟨b,0,none⟩),v] 214 (0,0)):=by
  rw [hgrow.block b hlt (fun e=>hne e.symm)]
  exact hbk
 have d0:w2.cell? ⟨b,0,none⟩=some (.pointer (some ⟨b,0,none⟩)):=by rw [Lib.cell_of_heap hb2]; rfl
 have d1:w2.cell? ⟨b,1,none⟩=some v:=by rw [Lib.cell_of_heap hb2]; rfl
 have f1:w2.frozen? ⟨b,1,none⟩=false:=Lib.frozen_of_heap hb2 1
 obtain ⟨ao,n',cap,rfl⟩:∃ ao n' cap,v'=.slice ao n' cap:=by
  rcases hown'.2 with ⟨hv,_⟩ | ⟨g,cap,cur,hv,_⟩
  ·exact ⟨_,_,_,hv⟩
  ·exact ⟨_,_,_,hv⟩
 go_wp2
 go_ret2
 refine ⟨rfl,?_,?_⟩
 ·exact Lib.BuilderAt.put (T:=214) (e:=5) hB hb2 (bs':=bs ++ Lib.strCells s) (by simpa [Lib.strCells_length] using hown') (by decide)
 ·exact (hb1.grown hgrow (by have:=hb1.size; omega) (fun k hk=>(hown.lt k hk).1)).setCell (p:=⟨b,1,none⟩) hB _
end Go.Proofs.YtlfpfkallgkjdaaGreat.Tk
end

section
namespace Go.Proofs.YtlfpfkallgkjdaaGreat.Ss
open Go.Shelf Go.RowKit Go.Lib Go.Sort
variable {α:Type} [Inhabited α] {enc : α→List Value}
set_option maxHeartbeats 400000 in
theorem rotate_any (k:Nat) (hk2:k=2) (fv:Value) (blk off cap a m b:Nat) (d0 d:Array α) (w0 w:World) (R:RowK enc k w0 blk off d0) (hs:d.size=d0.size) (S:SWK enc k w0 blk off d w) (ham:a<m) (hmb:m<b) (hb:b≤d.size) (hsz:d.size<1099511627776) :
  Calls Tryz.prog 177 #[.slice (some ⟨blk,off,none⟩) d.size cap,.int .i64 a,.int .i64 m,.int .i64 b,fv] w fun e w' =>
   e=.returned (.tuple #[])∧∃ d',SWK enc k w0 blk off d' w'∧d'.size=d.size∧PermIn a b d d'∧∀ x,d'[x]! = rotR d a m b x:=by
 have S0:Aside (SWK enc k w0 blk off d w):=S
 have HK:=zh hk2
 have HS:=zh hs
 clear S hk2 hs
 go_enter Tryz.func177,Tryz.ntmps177
 go_wp2
 go_loopw [10,11] (fun v10 v11 wr=>∃ (i j:Nat) (dk:Array α),0<i∧0<j∧a+i≤m∧m+j≤b∧v10=.int .i64 (i:Nat)∧v11=.int .i64 (j:Nat)∧Aside (SWK enc k w0 blk off dk wr)∧dk.size=d.size∧Hid (PermIn a b d dk)∧Hid (∀ x,rotR dk (m - i) m (m+j) x=rotR d a m b x)) (fun v10 v11 _=>(intOf v10).toNat+(intOf v11).toNat)
 case atStart=>exact ⟨m - a,b - m,d,by omega,by omega,by omega,by omega,by go_num,by go_num,S0,rfl,zh (permIn_refl _ _ _),zh (fun x=>by rw [show m - (m - a)=a by omega,show m+(b - m)=b by omega])⟩
 case round =>
  clear S0
  obtain ⟨i,j,dk,hi0,hj0,him,hjb,rfl,rfl,S1,hds,HP,HX⟩:=hrel
  by_cases hij:i=j
  ·subst hij
   have hnn:¬ ((i:Int)≠(i:Int)):=by omega
   have e1:IntKind.i64.wrap ((m:Int) - (i:Int))=((m - i:Nat):Int):=by rw [IntKind.wrap_i64]; omega
   have e2:(m:Int) - (i:Int)=((m - i:Nat):Int):=by omega
   have c1:=swapRange_any k HK.out fv blk off cap (m - i) m i d0 dk w0 wr R (hds.trans HS.out) S1.out (by omega) (by omega) (by omega)
   rw [hds] at c1
   have C1:=zh c1
   clear c1 S1
   go_wp2_with fail
   try rw [e2]
   refine C1.out.mono ?_
   rintro e w2 ⟨rfl,d',S2,h1,h2,h3⟩
   have Fin:Hid (SWK enc k w0 blk off d' w2∧d'.size=d.size∧PermIn a b d d'∧∀ x,d'[x]! = rotR d a m b x):=zh ⟨S2,by omega,permIn_trans _ _ _ _ _ HP.out (permIn_mono _ _ _ _ _ _ (by omega) (by omega) (by omega) h2),fun x=>by rw [h3,rot_eq _ _ _ (by omega),HX.out]⟩
   clear C1 S2 h1 h2 h3 HP HX
   go_wp2
   go_end0
   exact ⟨rfl,d',Fin.out⟩
  ·have hnn:(i:Int)≠(j:Int):=by omega
   by_cases hgt:j<i
   ·have hgi:(j:Int)<(i:Int):=by omega
    have e2:(m:Int) - (i:Int)=((m - i:Nat):Int):=by omega
    have c1:=swapRange_any k HK.out fv blk off cap (m - i) m j d0 dk w0 wr R (hds.trans HS.out) S1.out (by omega) (by omega) (by omega)
    rw [hds] at c1
    have C1:=zh c1
    clear c1 S1
    go_wp2_with fail
    try rw [e2]
    refine C1.out.mono ?_
    rintro e w2 ⟨rfl,d',S2,h1,h2,h3⟩
    have S3:Aside (SWK enc k w0 blk off d' w2):=S2
    have P3:Hid (PermIn a b d d'):=zh (permIn_trans _ _ _ _ _ HP.out (permIn_mono _ _ _ _ _ _ (by omega) (by omega) (by omega) h2))
    have X3:Hid (∀ x,rotR d' (m - (i - j)) m (m+j) x=rotR d a m b x):=zh (fun x=>by rw [rot_gt dk d' m i j hgt (by omega) h3,HX.out])
    clear C1 S2 h2 h3 HP HX
    go_wp2
    go_roundw
    case rel=>exact ⟨i - j,j,d',by omega,by omega,by omega,by omega,by go_num,by go_num,S3,by omega,P3,X3⟩
    case measure=>simp [intOf]; omega
   ·have hgi:¬ (j:Int)<(i:Int):=by omega
    have e2:(m:Int) - (i:Int)=((m - i:Nat):Int):=by omega
    have e3:(m:Int)+(j:Int) - (i:Int)=((m+j - i:Nat):Int):=by omega
    have c1:=swapRange_any k HK.out fv blk off cap (m - i) (m+j - i) i d0 dk w0 wr R (hds.trans HS.out) S1.out (by omega) (by omega) (by omega)
    rw [hds] at c1
    have C1:=zh c1
    clear c1 S1
    go_wp2_with fail
    try rw [e2]
    try rw [e3]
    refine C1.out.mono ?_
    rintro e w2 ⟨rfl,d',S2,h1,h2,h3⟩
    have S3:Aside (SWK enc k w0 blk off d' w2):=S2
    have P3:Hid (PermIn a b d d'):=zh (permIn_trans _ _ _ _ _ HP.out (permIn_mono _ _ _ _ _ _ (by omega) (by omega) (by omega) h2))
    have X3:Hid (∀ x,rotR d' (m - i) m (m+(j - i)) x=rotR d a m b x):=zh (fun x=>by rw [rot_lt dk d' m i j (by omega) (by omega) h3,HX.out])
    clear C1 S2 h2 h3 HP HX
    go_wp2
    go_roundw
    case rel=>exact ⟨i,j - i,d',by omega,by omega,by omega,by omega,by go_num,by go_num,S3,by omega,P3,X3⟩
    case measure=>simp [intOf]; omega
end Go.Proofs.YtlfpfkallgkjdaaGreat.Ss
end

section
namespace Go.Proofs.YtlfpfkallgkjdaaGreat.Ss
open Go.Shelf Go.RowKit Go.Lib Go.Sort
variable {α:Type} [Inhabited α] {enc : α→List Value} {cf : α→α→Int} {tag : α→Nat}
def MPost (enc : α→List Value) (cf : α→α→Int) (tag : α→Nat) (k:Nat) (w0:World) (blk off:Nat) (d:Array α) (a b:Nat) (e:Ending) (w':World):Prop :=
 e=.returned (.tuple #[])∧∃ d',SWK enc k w0 blk off d' w'∧d'.size=d.size∧PermIn a b d d'∧Srt cf tag d' a b
set_option maxHeartbeats 2000000 in
set_option maxRecDepth 1000000 in
theorem symL_any (hW:SWO (ltOf cf)) (k:Nat) (hk2:k=2) (g:Nat) (cb:Array Value) (blk off cap a m b:Nat) (hm:m=a+1) (d0 d:Array α) (w0 w:World) (eg:∀ args w,(callFunc g args).run Tryz.prog w=.ok (.enter g args) w) (hC:CmpLays Tryz.prog g cb enc k cf blk off d0.size w0)
  (R:RowK enc k w0 blk off d0) (hs:d.size=d0.size) (S:SWK enc k w0 blk off d w) (hb:b≤d.size) (hab:a+1<b) (hsz:d.size<1099511627776) (hS2:Srt cf tag d (a+1) b) (hT:∀ y,a+1≤y→y<b→tag d[a]!<tag d[y]!) :
  Calls Tryz.prog 151 #[.slice (some ⟨blk,off,none⟩) d.size cap,.int .i64 a,.int .i64 m,.int .i64 b,.func (.func g) #[] cb] w (MPost enc cf tag k w0 blk off d a b):=by
 have zE:∀ w,(Go.sizeOf 105).run Tryz.prog w=.ok k w:=by rw [hk2]; exact Tryz.sizeOf105
 have mixed:Tryz.prog.follows Departure.mixedOrders=true:=by kernel_rfl
 have S0:Aside (SWK enc k w0 blk off d w):=S
 have HC:Aside _:=hC
 have HS:=zh hs
 have HS2:=zh hS2
 have HT:=zh hT
 have e1:(m:Int) - (a:Int)=1:=by omega
 have e2:((m:Int) - (a:Int)=1)=True:=eq_true e1
 have hm1:a+1≤m:=by omega
 have hm2:m≤a+1:=by omega
 clear S hk2 hs hC hS2 hT hm
 go_enter Tryz.func151,Tryz.ntmps151
 go_wp2
 go_loopw [10,11] (fun vi vj wr=>∃ (i j:Nat),m≤i∧i≤j∧j≤b∧vi=.int .i64 (i:Nat)∧vj=.int .i64 (j:Nat)∧Aside (SWK enc k w0 blk off d wr)∧Hid (∀ h,a+1≤h→h<i→bef cf tag d[h]! d[a]!)∧Hid (∀ h,j≤h→h<b→bef cf tag d[a]! d[h]!)) (fun vi vj _=>(intOf vj).toNat - (intOf vi).toNat)
 case atStart=>exact ⟨m,b,zG _,by omega,zG _,rfl,rfl,S0,zh (fun h _ _=>by omega),zh (fun h _ _=>by omega)⟩
 case round =>
  clear S0
  obtain ⟨i,j,hi,hij,hjb,rfl,rfl,S1,H1,H2⟩:=hrel
  by_cases hlt:i<j
  ·have hji:(i:Int)<(j:Int):=by omega
   have n1:(0:Int)≤((i:Int)+(j:Int)) / 2:=by omega
   have n2:((i:Int)+(j:Int)) / 2<(d.size:Int):=by omega
   have n3:(((i:Int)+(j:Int)) / 2).toNat=(i+j) / 2:=by omega
   have n4:(a:Int)<(d.size:Int):=by omega
   have SG:Aside (∀ n os,SWK enc k w0 blk off d (grow (wr.drewN n) os)):=fun n os=>S1.out.grown n os
   have l1:=fun n' os'=>S1.out.ld R HS.out Tryz.prog ((i+j) / 2) (by omega) n' os'
   have l2:=fun n' os'=>S1.out.ld R HS.out Tryz.prog (a) (by omega) n' os'
   have hcg:=fun n' os'=>S1.out.cmp HC.out HS.out d[(i+j) / 2]! d[a]! n' os'
   have F1:Hid (cf d[(i+j) / 2]! d[a]!<0→∀ h,a+1≤h→h<(i+j) / 2+1→bef cf tag d[h]! d[a]!):=zh (fun hc h p1 p2=>HS2.out.step_l hW (y:=(i+j) / 2) p1 (by omega) (by omega) (bef_lt hc))
   have F2:Hid (¬ cf d[(i+j) / 2]! d[a]!<0→∀ h,(i+j) / 2≤h→h<b→bef cf tag d[a]! d[h]!):=zh (fun hc h p1 p2=>HS2.out.step_r hW (x:=(i+j) / 2) (by omega) p1 p2 (bef_ge (HT.out _ (by omega) (by omega)) hc))
   obtain ⟨xp,hxp⟩:∃ x,d[(i+j) / 2]! = x:=⟨_,rfl⟩
   obtain ⟨xq,hxq⟩:∃ x,d[a]! = x:=⟨_,rfl⟩
   rw [hxp] at l1
   rw [hxq] at l2
   rw [hxp,hxq] at hcg
   rw [hxp,hxq] at F1 F2
   have HX:Hid (d[(i+j) / 2]! = xp∧d[a]! = xq):=zh ⟨hxp,hxq⟩
   clear hxp hxq
   clear S1
   by_cases hlv:cf xp xq<0
   ·have N1:Hid (∀ h,a+1≤h→h<(i+j) / 2+1→bef cf tag d[h]! d[a]!):=zh (by rw [HX.out.2]; exact F1.out hlv)
    clear F1 F2
    go_wp2_with fail
    go_quiet_grown (first | (go_at_fn g; refine Calls.grown_of (hcg _ _)))
    have S3:Aside (SWK enc k w0 blk off d (grow (wr.drewN nq) osq)):=SG.out nq osq
    generalize grow (wr.drewN nq) osq=w3 at S3 ⊢
    clear l1 l2 hcg SG
    go_wp2
    go_roundw
    case rel=>exact ⟨(i+j) / 2+1,j,by omega,by omega,by omega,by go_num,rfl,S3,N1,H2⟩
    case measure=>simp [intOf]; omega
   ·have N2:Hid (∀ h,(i+j) / 2≤h→h<b→bef cf tag d[a]! d[h]!):=zh (by rw [HX.out.2]; exact F2.out hlv)
    clear F1 F2
    go_wp2_with fail
    go_quiet_grown (first | (go_at_fn g; refine Calls.grown_of (hcg _ _)))
    have S3:Aside (SWK enc k w0 blk off d (grow (wr.drewN nq) osq)):=SG.out nq osq
    generalize grow (wr.drewN nq) osq=w3 at S3 ⊢
    clear l1 l2 hcg SG
    go_wp2
    go_roundw
    case rel=>exact ⟨i,(i+j) / 2,by omega,by omega,by omega,rfl,by go_num,S3,H1,N2⟩
    case measure=>simp [intOf]; omega
  ·obtain rfl:i=j:=by omega
   have HF:Hid (∀ d1:Array α,(∀ x,d1[x]! = shL d a (i - 1) x)→Srt cf tag d1 a b):=zh (fun d1 hd=>shL_srt hW (by omega) hjb HS2.out H1.out H2.out hd)
   clear H1 H2
   go_wp2_with fail
   go_loopw [13] (fun vk wr=>∃ (x:Nat) (dk:Array α),a≤x∧x+1≤i∧vk=.int .i64 (x:Nat)∧Aside (SWK enc k w0 blk off dk wr)∧dk.size=d.size∧Hid (PermIn a b d dk)∧Hid (∀ y,dk[y]! = shL d a x y)) (fun vk _=>i - (intOf vk).toNat)
   case atStart=>exact ⟨a,d,zG _,by omega,rfl,S1,rfl,zh (permIn_refl _ _ _),zh (fun y=>shL_zero d a y)⟩
   case round =>
    clear S1
    obtain ⟨x,dk,hax,hxi,rfl,S1,hds,HP,HX⟩:=hrel
    by_cases hxl:x+1<i
    ·have hxz:(x:Int)<(i:Int) - 1:=by omega
     have n0:(0:Int)≤(x:Int):=by omega
     have n1:(0:Int)≤(x:Int)+1:=by omega
     have n2:(x:Int)+1<(d.size:Int):=by omega
     have n3:(x:Int)<(d.size:Int):=by omega
     have n5:((x:Int)+1).toNat=x+1:=by omega
     have S2:Aside (SWK enc k w0 blk off (swp dk (x) (x+1)) ((wr.drew.setCells blk (off+(x) * k) (enc dk[x+1]!)).setCells blk (off+(x+1) * k) (enc dk[x]!))):=S1.out.swapped R (x) (x+1) (by omega) (by omega)
     have l44a:=S1.out.ld1 R (hds.trans HS.out) Tryz.prog (x) (by omega)
     have l44b:=S1.out.ld1 R (hds.trans HS.out) Tryz.prog (x+1) (by omega)
     have s44a:=S1.out.st1 R (hds.trans HS.out) Tryz.prog (x) (by omega) dk[x+1]!
     have s44b:=S1.out.st2 R (hds.trans HS.out) Tryz.prog (x) (x+1) (by omega) (by omega) dk[x+1]! dk[x]!
     have n44a:(enc dk[x]!).length=k:=R.hk _
     have n44b:(enc dk[x+1]!).length=k:=R.hk _
     have HP2:Hid (PermIn a b d (swp dk x (x+1))):=zh (permIn_trans _ _ _ _ _ HP.out (swp_permIn dk a b x (x+1) (by omega) (by omega) (by omega) (by omega) (by omega)))
     have HX2:Hid (∀ y,(swp dk x (x+1))[y]! = shL d a (x+1) y):=zh (shL_step hax hds (by omega) HX.out)
     generalize enc dk[x]! = cI44 at S2 l44a s44b n44a
     generalize enc dk[x+1]! = cJ44 at S2 l44b s44a s44b n44b
     clear S1 HP HX
     go_wp2_with fail
     go_big_region_o
     clear l44a l44b s44a s44b
     generalize (wr.drew.setCells blk (off+(x) * k) cJ44).setCells blk (off+(x+1) * k) cI44=w2 at S2 ⊢
     go_wp2
     go_roundw
     case rel=>exact ⟨x+1,swp dk x (x+1),by omega,by omega,by go_num,S2,by rw [size_swp]; exact hds,HP2,HX2⟩
     case measure=>simp [intOf]; omega
    ·have hxz:¬ (x:Int)<(i:Int) - 1:=by omega
     have Fin:=zh (HF.out dk (by rw [show i - 1=x by omega]; exact HX.out))
     go_wp2
     go_end0
     exact ⟨rfl,dk,S1.out,hds,HP.out,Fin.out⟩
set_option maxHeartbeats 2000000 in
set_option maxRecDepth 1000000 in
theorem symR_any (hW:SWO (ltOf cf)) (k:Nat) (hk2:k=2) (g:Nat) (cb:Array Value) (blk off cap a m b:Nat) (hm:b=m+1) (d0 d:Array α) (w0 w:World) (eg:∀ args w,(callFunc g args).run Tryz.prog w=.ok (.enter g args) w) (hC:CmpLays Tryz.prog g cb enc k cf blk off d0.size w0)
  (R:RowK enc k w0 blk off d0) (hs:d.size=d0.size) (S:SWK enc k w0 blk off d w) (hb:b≤d.size) (hab:a+1<m) (hsz:d.size<1099511627776) (hS2:Srt cf tag d a m) (hT:∀ y,a≤y→y<m→tag d[y]!<tag d[m]!) :
  Calls Tryz.prog 151 #[.slice (some ⟨blk,off,none⟩) d.size cap,.int .i64 a,.int .i64 m,.int .i64 b,.func (.func g) #[] cb] w (MPost enc cf tag k w0 blk off d a b):=by
 have zE:∀ w,(Go.sizeOf 105).run Tryz.prog w=.ok k w:=by rw [hk2]; exact Tryz.sizeOf105
 have mixed:Tryz.prog.follows Departure.mixedOrders=true:=by kernel_rfl
 have S0:Aside (SWK enc k w0 blk off d w):=S
 have HC:Aside _:=hC
 have HS:=zh hs
 have HS2:=zh hS2
 have HT:=zh hT
 have e1:((m:Int) - (a:Int)=1)=False:=eq_false (by omega)
 have e1':((m:Int) - (a:Int) == 1)=false:=by simp; omega
 have e2:(b:Int) - (m:Int)=1:=by omega
 have hm1:m+1≤b:=by omega
 have hm2:b≤m+1:=by omega
 clear S hk2 hs hC hS2 hT hm
 go_enter Tryz.func151,Tryz.ntmps151
 go_wp2
 go_loopw [14,15] (fun vi vj wr=>∃ (i j:Nat),a≤i∧i≤j∧j≤m∧vi=.int .i64 (i:Nat)∧vj=.int .i64 (j:Nat)∧Aside (SWK enc k w0 blk off d wr)∧Hid (∀ h,a≤h→h<i→bef cf tag d[h]! d[m]!)∧Hid (∀ h,j≤h→h<m→bef cf tag d[m]! d[h]!)) (fun vi vj _=>(intOf vj).toNat - (intOf vi).toNat)
 case atStart=>exact ⟨a,m,zG _,by omega,zG _,rfl,rfl,S0,zh (fun h _ _=>by omega),zh (fun h _ _=>by omega)⟩
 case round =>
  clear S0
  obtain ⟨i,j,hi,hij,hjb,rfl,rfl,S1,H1,H2⟩:=hrel
  by_cases hlt:i<j
  ·have hji:(i:Int)<(j:Int):=by omega
   have n1:(0:Int)≤((i:Int)+(j:Int)) / 2:=by omega
   have n2:((i:Int)+(j:Int)) / 2<(d.size:Int):=by omega
   have n3:(((i:Int)+(j:Int)) / 2).toNat=(i+j) / 2:=by omega
   have n4:(m:Int)<(d.size:Int):=by omega
   have SG:Aside (∀ n os,SWK enc k w0 blk off d (grow (wr.drewN n) os)):=fun n os=>S1.out.grown n os
   have l1:=fun n' os'=>S1.out.ld R HS.out Tryz.prog (m) (by omega) n' os'
   have l2:=fun n' os'=>S1.out.ld R HS.out Tryz.prog ((i+j) / 2) (by omega) n' os'
   have hcg:=fun n' os'=>S1.out.cmp HC.out HS.out d[m]! d[(i+j) / 2]! n' os'
   have F1:Hid (cf d[m]! d[(i+j) / 2]!<0→∀ h,(i+j) / 2≤h→h<m→bef cf tag d[m]! d[h]!):=zh (fun hc h p1 p2=>HS2.out.step_r hW (x:=(i+j) / 2) (by omega) p1 p2 (bef_lt hc))
   have F2:Hid (¬ cf d[m]! d[(i+j) / 2]!<0→∀ h,a≤h→h<(i+j) / 2+1→bef cf tag d[h]! d[m]!):=zh (fun hc h p1 p2=>HS2.out.step_l hW (y:=(i+j) / 2) p1 (by omega) (by omega) (bef_ge (HT.out _ (by omega) (by omega)) hc))
   obtain ⟨xp,hxp⟩:∃ x,d[m]! = x:=⟨_,rfl⟩
   obtain ⟨xq,hxq⟩:∃ x,d[(i+j) / 2]! = x:=⟨_,rfl⟩
   rw [hxp] at l1
   rw [hxq] at l2
   rw [hxp,hxq] at hcg
   rw [hxp,hxq] at F1 F2
   have HX:Hid (d[(i+j) / 2]! = xq∧d[m]! = xp):=zh ⟨hxq,hxp⟩
   clear hxp hxq
   clear S1
   by_cases hlv:cf xp xq<0
   ·have N2:Hid (∀ h,(i+j) / 2≤h→h<m→bef cf tag d[m]! d[h]!):=zh (by rw [HX.out.2]; exact F1.out hlv)
    clear F1 F2
    go_wp2_with fail
    go_quiet_grown (first | (go_at_fn g; refine Calls.grown_of (hcg _ _)))
    have S3:Aside (SWK enc k w0 blk off d (grow (wr.drewN nq) osq)):=SG.out nq osq
    generalize grow (wr.drewN nq) osq=w3 at S3 ⊢
    clear l1 l2 hcg SG
    go_wp2
    go_roundw
    case rel=>exact ⟨i,(i+j) / 2,by omega,by omega,by omega,rfl,by go_num,S3,H1,N2⟩
    case measure=>simp [intOf]; omega
   ·have hdec:decide (cf xp xq<0)=false:=decide_eq_false hlv
    have N1:Hid (∀ h,a≤h→h<(i+j) / 2+1→bef cf tag d[h]! d[m]!):=zh (by rw [HX.out.2]; exact F2.out hlv)
    clear F1 F2
    go_wp2_with fail
    go_quiet_grown (first | (go_at_fn g; refine Calls.grown_of (hcg _ _)))
    have S3:Aside (SWK enc k w0 blk off d (grow (wr.drewN nq) osq)):=SG.out nq osq
    generalize grow (wr.drewN nq) osq=w3 at S3 ⊢
    clear l1 l2 hcg SG
    go_wp2
    go_roundw
    case rel=>exact ⟨(i+j) / 2+1,j,by omega,by omega,by omega,by go_num,rfl,S3,N1,H2⟩
    case measure=>simp [intOf]; omega
  ·obtain rfl:i=j:=by omega
   have HF:Hid (∀ d1:Array α,(∀ x,d1[x]! = shR d m i x)→Srt cf tag d1 a b):=zh (fun d1 hd=>by rw [show b=m+1 by omega]; exact shR_srt hW hi hjb HS2.out H1.out H2.out hd)
   clear H1 H2
   go_wp2_with fail
   go_loopw [17] (fun vk wr=>∃ (x:Nat) (dk:Array α),i≤x∧x≤m∧vk=.int .i64 (x:Nat)∧Aside (SWK enc k w0 blk off dk wr)∧dk.size=d.size∧Hid (PermIn a b d dk)∧Hid (∀ y,dk[y]! = shR d m x y)) (fun vk _=>(intOf vk).toNat)
   case atStart=>exact ⟨m,d,hjb,zG _,rfl,S1,rfl,zh (permIn_refl _ _ _),zh (fun y=>shR_zero d m y)⟩
   case round =>
    clear S1
    obtain ⟨x',dk,hix,hxm,rfl,S1,hds,HP,HX⟩:=hrel
    by_cases hxl:i<x'
    ·obtain ⟨x,rfl⟩:∃ x,x'=x+1:=⟨x' - 1,by omega⟩
     have hxz:(i:Int)<(x:Int)+1:=by omega
     have n0:(0:Int)≤(x:Int):=by omega
     have n1:(0:Int)≤(x:Int)+1:=by omega
     have n2:(x:Int)+1<(d.size:Int):=by omega
     have n3:(x:Int)<(d.size:Int):=by omega
     have n5:((x:Int)+1).toNat=x+1:=by omega
     have S2:Aside (SWK enc k w0 blk off (swp dk (x+1) (x)) ((wr.drew.setCells blk (off+(x+1) * k) (enc dk[x]!)).setCells blk (off+(x) * k) (enc dk[x+1]!))):=S1.out.swapped R (x+1) (x) (by omega) (by omega)
     have l44a:=S1.out.ld1 R (hds.trans HS.out) Tryz.prog (x+1) (by omega)
     have l44b:=S1.out.ld1 R (hds.trans HS.out) Tryz.prog (x) (by omega)
     have s44a:=S1.out.st1 R (hds.trans HS.out) Tryz.prog (x+1) (by omega) dk[x]!
     have s44b:=S1.out.st2 R (hds.trans HS.out) Tryz.prog (x+1) (x) (by omega) (by omega) dk[x]! dk[x+1]!
     have n44a:(enc dk[x+1]!).length=k:=R.hk _
     have n44b:(enc dk[x]!).length=k:=R.hk _
     have HP2:Hid (PermIn a b d (swp dk (x+1) x)):=zh (permIn_trans _ _ _ _ _ HP.out (swp_permIn dk a b (x+1) x (by omega) (by omega) (by omega) (by omega) (by omega)))
     have HX2:Hid (∀ y,(swp dk (x+1) x)[y]! = shR d m x y):=zh (shR_step hxm hds (by omega) HX.out)
     generalize enc dk[x+1]! = cI44 at S2 l44a s44b n44a
     generalize enc dk[x]! = cJ44 at S2 l44b s44a s44b n44b
     clear S1 HP HX
     go_wp2_with fail
     go_big_region_o
     clear l44a l44b s44a s44b
     generalize (wr.drew.setCells blk (off+(x+1) * k) cJ44).setCells blk (off+(x) * k) cI44=w2 at S2 ⊢
     go_wp2
     go_roundw
     case rel=>exact ⟨x,swp dk (x+1) x,by omega,by omega,by first | rfl | go_num | (congr 1; omega),S2,by rw [size_swp]; exact hds,HP2,HX2⟩
     case measure=>first | (simp [intOf]; done) | (simp [intOf]; omega)
    ·have hxz:¬ (i:Int)<(x':Int):=by omega
     have Fin:=zh (HF.out dk (by rw [show i=x' by omega]; exact HX.out))
     go_wp2
     go_end0
     exact ⟨rfl,dk,S1.out,hds,HP.out,Fin.out⟩
end Go.Proofs.YtlfpfkallgkjdaaGreat.Ss
end

section
namespace Go.Proofs.YtlfpfkallgkjdaaGreat.Ph
open Go Go.RowKit
def Tr (_ _:World):Prop:=True
section
variable {P:Program} {ops:Array Oper} {md:Region.Mode} {C:World→Prop} {Q:Act→World→Prop} {S:Nat→Option RSpec} {n g:Nat} {K:Array Bool→Act→(World→Prop)→Prop}
def updI (I:World→Prop):Option (World→Prop)→World→Prop
 | none=>I
 | some p=>p
def Fixed (P:Program) (C:World→Prop) (o:Oper) (a:Act) (c:Value):Prop :=
 ∀ w,C w→(execOp a.eval o).run P w=.ok (.value c) w∨((execOp a.eval o).run P w=.ok .skip w∧c=undef)
def Gives (P:Program) (C:World→Prop) (I:World→Prop) (o:Oper) (a:Act) (s:RSpec):Prop :=
 ∀ w,C w→I w→growUpon P Tr w (fun v w'=>C w'∧∃ x,v=s.f x∧s.Φ x w') ((execOp a.eval o).run P w)
def stepI (P:Program) (ops:Array Oper) (C:World→Prop) (S:Nat→Option RSpec) (i:Nat) (o:Oper) (K:Act→(World→Prop)→Prop) (a:Act) (I:World→Prop):Prop :=
 if Region.wanted o (yielded ops a.tmps)=true then
  match S i with
  | none=>∃ c,Fixed P C o a c∧K (a.put o.dst c) I
  | some s=>Gives P C I o a s∧∀ x,K (a.put o.dst (s.f x)) (s.Φ x)
 else K (a.put o.dst undef) I
def SatI (C:World→Prop) (I:World→Prop):Prop:=∃ w,C w∧I w
def FinI (C:World→Prop) (Q:Act→World→Prop) (a:Act) (I:World→Prop):Prop:=∀ w,C w→I w→Q a w
def TAnyI (P:Program) (md:Region.Mode) (ops:Array Oper) (C:World→Prop) (S:Nat→Option RSpec) (n:Nat) (K:Array Bool→Act→(World→Prop)→Prop):Nat→Array Bool→Act→(World→Prop)→Prop
 | 0,listed,a,I=>SatI C I→K listed a I
 | fuel+1,listed,a,I=>SatI C I→(Region.ready md ops listed≠[] ∧
  ∀ i∈Region.ready md ops listed,i<n∧∀ o,ops[i]?=some o→stepI P ops C S i o (TAnyI P md ops C S n K fuel (listed.setIfInBounds i true)) a I)
def wpPh (P:Program) (ops:Array Oper) (C:World→Prop) (S:Nat→Option RSpec) (Q:Act→World→Prop):List Oper→Nat→Act→(World→Prop)→Prop
 | [],_,a,I=>FinI C Q a I
 | o :: rest,k,a,I=>stepI P ops C S k o (wpPh P ops C S Q rest (k+1)) a I
theorem wpAny_of_I {Q':Exit→Act→World→Prop} (hK:∀ listed a I w,K listed a I→C w→I w→wpAny P md ops Q' g listed a w) :
  ∀ (fuel:Nat) (listed:Array Bool) (a:Act) (I:World→Prop) (w:World),C w→I w→TAnyI P md ops C S n K fuel listed a I→wpAny P md ops Q' (fuel+g) listed a w
 | 0,_,a,I,w,hC,hI,h=>by rw [Nat.zero_add]; exact hK _ _ _ _ (h ⟨w,hC,hI⟩) hC hI
 | fuel+1,listed,a,I,w,hC,hI,h=>by
  rw [show fuel+1+g=(fuel+g)+1 by omega]
  have h:=h ⟨w,hC,hI⟩
  refine ⟨fun h0=>absurd h0 h.1,fun i hi=>?_⟩
  unfold wpOp
  obtain ⟨_,o,ho,_⟩:=mem_ready.1 hi
  simp only [ho]
  have hs:=(h.2 i hi).2 o ho
  unfold stepI at hs
  split
  ·rename_i hw
   rw [if_pos hw] at hs
   left
   split at hs
   ·rename_i hSi
    obtain ⟨c,h1,h2⟩:=hs
    rcases h1 w hC with hr | ⟨hr,rfl⟩
    ·unfold Oper.wp; rw [hr]
     exact wpAny_of_I hK fuel _ _ I w hC hI h2
    ·unfold Oper.wp; rw [hr]
     exact wpAny_of_I hK fuel _ _ I w hC hI h2
   ·rename_i s hSi
    refine wp_of_gives ?_ (hs.1 w hC hI)
    rintro v w' _ ⟨hC',x,rfl,hx⟩
    exact wpAny_of_I hK fuel _ _ _ w' hC' hx (hs.2 x)
  ·rename_i hw
   rw [if_neg hw] at hs
   exact wpAny_of_I hK fuel _ _ I w hC hI hs
inductive Head (P:Program) (ops:Array Oper) (C:World→Prop) (S:Nat→Option RSpec) (i:Nat) (o:Oper) (a:Act) (I:World→Prop):(V:Type)→(V→Value)→(V→Option (World→Prop))→Prop
 | skip (h:Region.wanted o (yielded ops a.tmps)=false):Head P ops C S i o a I Unit (fun _=>undef) (fun _=>none)
 | fixed (h:Region.wanted o (yielded ops a.tmps)=true) (hs:S i=none) (c:Value) (hf:Fixed P C o a c):Head P ops C S i o a I Unit (fun _=>c) (fun _=>none)
 | gives (h:Region.wanted o (yielded ops a.tmps)=true) (s:RSpec) (hs:S i=some s) (hg:Gives P C I o a s):Head P ops C S i o a I s.α s.f (fun x=>some (s.Φ x))
section
variable {i:Nat} {o:Oper} {a a':Act} {I I':World→Prop} {V V':Type} {f:V→Value} {p:V→Option (World→Prop)} {f':V'→Value} {p':V'→Option (World→Prop)}
theorem Head.step (h:Head P ops C S i o a I V f p) {K:Act→(World→Prop)→Prop} (hk:∀ x,K (a.put o.dst (f x)) (updI I (p x))):stepI P ops C S i o K a I:=by
 cases h with
 | skip h=>unfold stepI; rw [if_neg (by rw [h]; decide)]; exact hk ()
 | fixed h hs c hf=>unfold stepI; rw [if_pos h]; simp only [hs]; exact ⟨c,hf,hk ()⟩
 | gives h s hs hg=>unfold stepI; rw [if_pos h]; simp only [hs]; exact ⟨hg,hk⟩
theorem head_of_step {K:Act→(World→Prop)→Prop} (h:stepI P ops C S i o K a I) :
  ∃ (V:Type) (f:V→Value) (p:V→Option (World→Prop)),Head P ops C S i o a I V f p∧∀ x,K (a.put o.dst (f x)) (updI I (p x)):=by
 unfold stepI at h
 by_cases hw:Region.wanted o (yielded ops a.tmps)=true
 ·rw [if_pos hw] at h
  split at h
  ·rename_i hs
   obtain ⟨c,h1,h2⟩:=h
   exact ⟨_,_,_,.fixed hw hs c h1,fun _=>h2⟩
  ·rename_i s hs
   exact ⟨_,_,_,.gives hw s hs h.1,h.2⟩
 ·rw [if_neg hw] at h
  exact ⟨_,_,_,.skip (by simpa using hw),fun _=>h⟩
theorem Head.same (h:Head P ops C S i o a I V f p) (he:execOp a'.eval o=execOp a.eval o) (hw:Region.wanted o (yielded ops a'.tmps)=Region.wanted o (yielded ops a.tmps)) (hI:S i=none∨I'=I):Head P ops C S i o a' I' V f p:=by
 cases h with
 | skip h=>exact .skip (by rw [hw]; exact h)
 | fixed h hs c hf=>exact .fixed (by rw [hw]; exact h) hs c (fun w hC=>by rw [he]; exact hf w hC)
 | gives h s hs hg =>
  rcases hI with hI | rfl
  ·rw [hI] at hs; cases hs
  ·exact .gives (by rw [hw]; exact h) s hs (fun w hC hI=>by rw [he]; exact hg w hC hI)
theorem Head.quiet (h:Head P ops C S i o a I V f p) (hs:S i=none) (x:V):p x=none:=by
 cases h with
 | skip h=>rfl
 | fixed h hs c hf=>rfl
 | gives h s hs' hg=>rw [hs] at hs'; cases hs'
theorem Head.one (h:Head P ops C S i o a I V f p) (h':Head P ops C S i o a I V' f' p') (hs:SatI C I) (x:V):∃ x',f' x'=f x∧p' x'=p x:=by
 obtain ⟨w,hC,hI⟩:=hs
 cases h with
 | skip h =>
  cases h' with
  | skip h'=>exact ⟨(),rfl,rfl⟩
  | fixed h' _ _ _=>rw [h] at h'; cases h'
  | gives h' _ _ _=>rw [h] at h'; cases h'
 | fixed h hs c hf =>
  cases h' with
  | skip h'=>rw [h] at h'; cases h'
  | fixed h' hs' c' hf' =>
   refine ⟨(),?_,rfl⟩
   show c'=c
   rcases hf w hC with h1 | ⟨h1,rfl⟩ <;> rcases hf' w hC with h2 | ⟨h2,rfl⟩
   ·rw [h1] at h2; injection h2 with h2; injection h2 with h2; exact h2.symm
   ·rw [h1] at h2; injection h2 with h2; cases h2
   ·rw [h1] at h2; injection h2 with h2; cases h2
   ·rfl
  | gives h' s hs' hg'=>rw [hs] at hs'; cases hs'
 | gives h s hs hg =>
  cases h' with
  | skip h'=>rw [h] at h'; cases h'
  | fixed h' hs' c' hf'=>rw [hs] at hs'; cases hs'
  | gives h' s' hs' hg' =>
   rw [hs] at hs'
   injection hs' with hs'
   subst hs'
   exact ⟨x,rfl,rfl⟩
theorem Head.sat (h:Head P ops C S i o a I V f p) (hs:SatI C I):∃ x,SatI C (updI I (p x)):=by
 cases h with
 | skip h=>exact ⟨(),hs⟩
 | fixed h _ c hf=>exact ⟨(),hs⟩
 | gives h s hsi hg =>
  obtain ⟨w,hC,hI⟩:=hs
  have h1:=hg w hC hI
  have key:∀ (v:Value) (w':World),(C w'∧∃ x,v=s.f x∧s.Φ x w')→∃ x,SatI C (updI I (some (s.Φ x))):=by
   rintro v w' ⟨hC',x,_,hx⟩
   exact ⟨x,w',hC',hx⟩
  generalize (execOp a.eval o).run P w=r at h1
  cases r with
  | ok n w' =>
   cases n <;> simp only [growUpon] at h1
   case value u=>exact key _ _ h1.2
   case skip=>exact key _ _ h1.2
   case enter f args =>
    obtain ⟨e,w'',_,⟨v,_,_,hr⟩,_⟩:=h1 []
    exact key v w'' hr
  | halt x w'=>simp only [growUpon] at h1
theorem updI_comm {p q:Option (World→Prop)} (h:p=none∨q=none):updI (updI I p) q=updI (updI I q) p:=by
 rcases h with rfl | rfl
 ·cases q <;> rfl
 ·cases p <;> rfl
end
inductive Waits (md:Region.Mode) (ops:Array Oper):Nat→Nat→Prop
 | one {j:Nat} {oj:Oper} (hj:ops[j]?=some oj) (e:Edge) (he:e∈oj.after) (hb:Region.binds md e=true):Waits md ops j e.on
 | more {j i:Nat} {oj:Oper} (hj:ops[j]?=some oj) (e:Edge) (he:e∈oj.after) (hb:Region.binds md e=true) (h:Waits md ops e.on i):Waits md ops j i
theorem Waits.listed {j i:Nat} {listed:Array Bool} (h:Waits md ops j i) (inv:HeadInv md ops n listed):listed.getD j false=true→listed.getD i false=true:=by
 induction h with
 | one hj e he hb=>exact fun hl=>inv.closed _ _ hj hl e he hb
 | more hj e he hb _ ih=>exact fun hl=>ih (inv.closed _ _ hj hl e he hb)
theorem Waits.ready {j i:Nat} {listed:Array Bool} (h:Waits md ops j i) (inv:HeadInv md ops n listed) (hr:j∈Region.ready md ops listed):listed.getD i false=true:=by
 obtain ⟨_,o,ho,hall⟩:=mem_ready.1 hr
 cases h with
 | one hj e he hb =>
  rw [ho] at hj
  injection hj with hj
  subst hj
  exact hall e he hb
 | more hj e he hb h =>
  rw [ho] at hj
  injection hj with hj
  subst hj
  exact h.listed inv (hall e he hb)
theorem Waits.not {j i:Nat} {listed:Array Bool} (h:Waits md ops j i) (inv:HeadInv md ops n listed) (hr:j∈Region.ready md ops listed) (hi:i∈Region.ready md ops listed):False:=by
 have h1:=h.ready inv hr
 have h0:=(mem_ready.1 hi).1
 rcases Nat.lt_or_ge i listed.size with h' | h'
 ·simp [h'] at h0 h1; rw [h0] at h1; cases h1
 ·simp [Array.getElem?_eq_none h'] at h1
def Turns (md:Region.Mode) (ops:Array Oper) (S:Nat→Option RSpec):Prop:=∀ (i j:Nat) (oi oj:Oper),ops[i]?=some oi→ops[j]?=some oj→i≠j→S i=none∨S j=none∨Waits md ops j i∨Waits md ops i j
theorem TAnyI_first {i:Nat} {oi:Oper} (hi:ops[i]?=some oi) (hsel:∀ (j:Nat) (o:Oper) cs b,ops[j]?=some o→o.op≠.select cs b) (hT:Turns md ops S)
  (hs:Region.sinkB md ops n=true) (hc:Region.chainB md ops n=true) (hn:n<ops.size) (hin:i<n) (hdone:∀ listed a I,K listed a I→∀ j∈Region.ready md ops listed,n≤j)
  {V:Type} {f:V→Value} {p:V→Option (World→Prop)} :
  ∀ (fuel:Nat) (listed:Array Bool) (a:Act) (I:World→Prop),HeadInv md ops n listed →
   (∀ j oj,ops[j]?=some oj→j≠i→listed.getD j true=false→(∀ e∈oj.after,Region.binds md e=true→e.on≠i)→oi.apart ops oj=true) →
   i∈Region.ready md ops listed→Head P ops C S i oi a I V f p →
   (∀ x,TAnyI P md ops C S n K fuel (listed.setIfInBounds i true) (a.put oi.dst (f x)) (updI I (p x)))→TAnyI P md ops C S n K (fuel+1) listed a I:=by
 intro fuel
 induction fuel with
 | zero =>
  intro listed a I inv _ hr hy H hsat
  have hun:=(mem_ready.1 hr).1
  refine ⟨fun h=>(by rw [h] at hr; cases hr),fun j hj=>?_⟩
  have hjn:j<n:=by
   rcases Nat.lt_or_ge j n with h | h
   ·exact h
   ·exact absurd hj (tail_waits hs hc hn inv _ i rfl hin hun j h)
  refine ⟨hjn,fun oj hoj=>?_⟩
  by_cases hji:j=i
  ·subst hji
   rw [hi] at hoj
   injection hoj with hoj
   subst hoj
   exact hy.step H
  ·obtain ⟨x,hx⟩:=hy.sat hsat
   have:=hdone _ _ _ (H x hx) j (ready_mono hj hji)
   omega
 | succ fuel ih =>
  intro listed a I inv hfree hr hy H hsat
  have hun0:=(mem_ready.1 hr).1
  refine ⟨fun h=>(by rw [h] at hr; cases hr),fun j hj=>?_⟩
  have hjn:j<n:=by
   rcases Nat.lt_or_ge j n with h | h
   ·exact h
   ·exact absurd hj (tail_waits hs hc hn inv _ i rfl hin hun0 j h)
  refine ⟨hjn,fun oj hoj=>?_⟩
  by_cases hji:j=i
  ·subst hji
   rw [hi] at hoj
   injection hoj with hoj
   subst hoj
   exact hy.step H
  ·obtain ⟨hjun,oj',hoj',hall⟩:=mem_ready.1 hj
   rw [hoj] at hoj'
   injection hoj' with hoj'
   subst hoj'
   have hnot:∀ e∈oj.after,Region.binds md e=true→e.on≠i:=fun e he hb heq=>by
    have h1:=hall e he hb
    have h0:=(mem_ready.1 hr).1
    rw [heq] at h1
    rcases Nat.lt_or_ge i listed.size with h' | h'
    ·simp [h'] at h0 h1; rw [h0] at h1; cases h1
    ·simp [Array.getElem?_eq_none h'] at h1
   have hnot2:∀ e∈oi.after,Region.binds md e=true→e.on≠j:=fun e he hb heq=>by
    obtain ⟨h0,o2,ho2,hall2⟩:=mem_ready.1 hr
    rw [hi] at ho2
    injection ho2 with ho2
    subst ho2
    have h1:=hall2 e he hb
    rw [heq] at h1
    rcases Nat.lt_or_ge j listed.size with h' | h'
    ·simp [h'] at hjun h1; rw [hjun] at h1; cases h1
    ·simp [Array.getElem?_eq_none h'] at h1
   have hturn:S i=none∨S j=none:=by
    rcases hT i j oi oj hi hoj (Ne.symm hji) with h | h | h | h
    ·exact .inl h
    ·exact .inr h
    ·exact (h.not inv hj hr).elim
    ·exact (h.not inv hr hj).elim
   have hap:=hfree j oj hoj hji hjun hnot
   obtain ⟨a1,a2,a3⟩:=Oper.apart_spec hap
   have hsi:∀ cs b,oi.op≠.select cs b:=fun cs b=>hsel i oi cs b hi
   have hsj:∀ cs b,oj.op≠.select cs b:=fun cs b=>hsel j oj cs b hoj
   obtain ⟨x0,hx0⟩:=hy.sat hsat
   have hix:∀ x,S j=none∨updI I (p x)=I:=fun x=>by
    rcases hturn with h | h
    ·rw [hy.quiet h x]; exact .inr rfl
    ·exact .inl h
   obtain ⟨Vj,fj,pj,hj0,_⟩:=head_of_step (((H x0 hx0).2 j (ready_mono hj hji)).2 oj hoj)
   have hja:Head P ops C S j oj a I Vj fj pj:=hj0.same (execOp_put oj hsj a oi.dst _ a1).symm (wanted_put oj a oi.dst _ a1).symm ((hix x0).imp id Eq.symm)
   have hjH:∀ x,Head P ops C S j oj (a.put oi.dst (f x)) (updI I (p x)) Vj fj pj:=fun x =>
    hja.same (execOp_put oj hsj a oi.dst _ a1) (wanted_put oj a oi.dst _ a1) (hix x)
   have hjy:∀ y,S i=none∨updI I (pj y)=I:=fun y=>by
    rcases hturn with h | h
    ·exact .inl h
    ·rw [hja.quiet h y]; exact .inr rfl
   have hcomm:∀ x y,updI (updI I (p x)) (pj y)=updI (updI I (pj y)) (p x):=fun x y=>by
    refine updI_comm ?_
    rcases hturn with h | h
    ·exact .inl (hy.quiet h x)
    ·exact .inr (hja.quiet h y)
   refine hja.step fun y=>?_
   refine ih (listed.setIfInBounds j true) (a.put oj.dst (fj y)) (updI I (pj y)) (inv.set hj hjn) ?_ (ready_mono hr (Ne.symm hji)) ?_ ?_
   ·intro k ok hk hki hun hno
    refine hfree k ok hk hki ?_ hno
    by_cases hjk:j=k
    ·subst hjk; exact hjun
    ·rw [getD_set_ne true hjk] at hun; exact hun
   ·exact hy.same (execOp_put oi hsi a oj.dst _ a3) (wanted_put oi a oj.dst _ a3) (hjy y)
   ·intro x
    rw [← hcomm x y,← Act.put_comm a (f x) (fj y) a2,Array.setIfInBounds_comm _ _ hji]
    have hb:SatI C (updI I (p x))→TAnyI P md ops C S n K fuel ((listed.setIfInBounds i true).setIfInBounds j true) ((a.put oi.dst (f x)).put oj.dst (fj y)) (updI (updI I (p x)) (pj y)):=by
     intro hsx
     obtain ⟨V',f',p',h',hk'⟩:=head_of_step (((H x hsx).2 j (ready_mono hj hji)).2 oj hoj)
     obtain ⟨y',e1,e2⟩:=(hjH x).one h' hsx y
     rw [← e1,← e2]
     exact hk' y'
    have hback:SatI C (updI (updI I (p x)) (pj y))→SatI C (updI I (p x)):=fun hs=>by
     rcases hturn with h | h
     ·rw [hy.quiet h x]; exact hsat
     ·rw [hja.quiet h y] at hs; exact hs
    cases fuel with
    | zero=>exact fun hs=>hb (hback hs) hs
    | succ fuel=>exact fun hs=>hb (hback hs) hs
theorem TAnyI_lex (hsel:Region.noSelect ops=true) (hT:Turns md ops S) (hs:Region.sinkB md ops n=true) (hc:Region.chainB md ops n=true) (hn:n<ops.size) :
  ∀ (l:List Oper) (k:Nat) (listed:Array Bool) (a:Act) (I:World→Prop),HeadInv md ops n listed→(∀ j,j<l.length→l[j]?=ops[k+j]?)→k+l.length=n →
  Region.lexHead md ops g l.length k listed=true→wpPh P ops C S Q l k a I →
  TAnyI P md ops C S n (fun listed' a' I'=>Region.seqB md ops g n listed'=true∧FinI C Q a' I') l.length listed a I
 | [],k,listed,a,I,_,_,hk,hB,h=>fun _=>by
  have:k=n:=by simpa using hk
  subst this
  exact ⟨by simpa [Region.lexHead] using hB,h⟩
 | o :: l,k,listed,a,I,inv,hl,hk,hB,h=>by
  have h0:ops[k]?=some o:=by simpa using (hl 0 (by simp)).symm
  simp only [List.length_cons,Region.lexHead,Bool.and_eq_true] at hB
  obtain ⟨⟨hr,hf⟩,hB'⟩:=hB
  have hkn:k<n:=by simp only [List.length_cons] at hk; omega
  have hr':k∈Region.ready md ops listed:=by simpa using hr
  obtain ⟨V,f,p,hh,hk'⟩:=head_of_step (show stepI P ops C S k o (wpPh P ops C S Q l (k+1)) a I from h)
  exact TAnyI_first h0 (Region.noSelect_spec hsel) hT hs hc hn hkn (fun listed' a' I' hL=>seqB_ready hL.1) l.length listed a I inv (Region.free_spec h0 hf) hr' hh
   (fun x=>TAnyI_lex hsel hT hs hc hn l (k+1) _ _ _ (inv.set hr' hkn) (fun j hj=>by have:=hl (j+1) (by simp; omega); simpa [Nat.add_assoc,Nat.add_comm 1 j] using this) (by simp only [List.length_cons] at hk; omega) hB' (hk' x))
structure PhAt (P:Program) (ops:Array Oper) (C:World→Prop) (S:Nat→Option RSpec) (Q:Act→World→Prop) (l:List Oper) (k:Nat) (a:Act) (I:World→Prop):Prop where
 out:wpPh P ops C S Q l k a I
theorem wp_region_ph_tail {id:Nat} {Q':Exit→Act→World→Prop} {a:Act} {w:World} {l:List Oper} (n:Nat) (S:Nat→Option RSpec) (C:World→Prop) (I:World→Prop)
  (hm:P.follows .mixedOrders=true) (hB:Region.lexTailB .any l.toArray n=true) (hT:Turns .any l.toArray S) (hC:C { w with drawn:=w.drawn+1 }) (hI:I { w with drawn:=w.drawn+1 })
  (h:PhAt P l.toArray C S (fun a w=>wpList P l.toArray Q' (l.drop n) a w) (l.take n) 0 a I):(Code.region id l.toArray true).wp P Q' a w:=by
 simp only [Region.lexTailB,Bool.and_eq_true,decide_eq_true_eq] at hB
 obtain ⟨⟨⟨⟨hsel,hn⟩,hs⟩,hc⟩,hlex⟩:=hB
 have hn':n<l.length:=by simpa using hn
 have htl:(l.take n).length=n:=by simp; omega
 have hdl:(l.drop n).length=l.toArray.size - n:=by simp
 have inv0:HeadInv .any l.toArray n (Array.replicate l.toArray.size false) :=
  ⟨by simp,fun j oj _ hl=>(by rw [getD_replicate_false] at hl; cases hl),fun t _ ht=>getD_in (by simpa using ht) (getD_replicate_false _ _)⟩
 have H:=TAnyI_lex (C:=C) (md:=.any) (g:=l.toArray.size - n) hsel hT hs hc hn (l.take n) 0 _ a I inv0 (fun j hj=>by
  have hj':j<n:=by rw [htl] at hj; exact hj
  simp [hj']) (by simpa using htl) (by rw [htl]; exact hlex) h.out
 refine wp_region_any hm ?_
 have:=wpAny_of_I (Q':=Q') (g:=l.toArray.size - n) (fun listed a' I' w' hL hC' hI'=>by
  have:=wpAny_of_seq (md:=.any) (Q':=Q') (l.drop n) n listed a' w' (fun j=>by simp [List.getElem?_drop]) (by rw [hdl]; exact hL.1) (hL.2 w' hC' hI')
  rwa [hdl] at this) _ _ _ _ _ hC hI H
 rw [htl,show n+(l.toArray.size - n)=l.toArray.size by omega] at this
 exact this
section
variable {o:Oper} {rest:List Oper} {k j:Nat} {a:Act} {I:World→Prop}
theorem ph_fix (k':Nat) (c:Value) (hk:k+1=k') (hs:S k=none) (hw:Region.wanted o (yielded ops a.tmps)=true)
  (hf:∀ w,C w→(execOp a.eval o).run P w=.ok (.value c) w) (h:PhAt P ops C S Q rest k' (a.put o.dst c) I):PhAt P ops C S Q (o :: rest) k a I:=by
 subst hk
 refine ⟨?_⟩
 show stepI P ops C S k o _ a I
 unfold stepI
 rw [if_pos hw]
 simp only [hs]
 exact ⟨c,fun w hC=>.inl (hf w hC),h.out⟩
theorem ph_give (k':Nat) (s:RSpec) (hk:k+1=k') (hs:S k=some s) (hw:Region.wanted o (yielded ops a.tmps)=true)
  (hg:∀ w,C w→I w→growUpon P Tr w (fun v w'=>C w'∧∃ x,v=s.f x∧s.Φ x w') ((execOp a.eval o).run P w)) (h:∀ x,PhAt P ops C S Q rest k' (a.put o.dst (s.f x)) (s.Φ x)):PhAt P ops C S Q (o :: rest) k a I:=by
 subst hk
 refine ⟨?_⟩
 show stepI P ops C S k o _ a I
 unfold stepI
 rw [if_pos hw]
 simp only [hs]
 exact ⟨hg,fun x=>(h x).out⟩
theorem ph_nil (h:∀ w,C w→I w→Q a w):PhAt P ops C S Q [] k a I:=⟨h⟩
end
def waitsB (md:Region.Mode) (ops:Array Oper):Nat→Nat→Nat→Bool
 | 0,_,_=>false
 | fuel+1,j,i=>match ops[j]? with
  | some oj=>oj.after.any fun e=>Region.binds md e && (e.on == i || waitsB md ops fuel e.on i)
  | none=>false
theorem waits_of {fuel j i:Nat} (h:waitsB md ops fuel j i=true):Waits md ops j i:=by
 induction fuel generalizing j with
 | zero=>cases h
 | succ fuel ih =>
  unfold waitsB at h
  split at h
  ·rename_i oj hj
   obtain ⟨e,he,hb⟩:=Array.any_eq_true'.1 h
   simp only [Bool.and_eq_true,Bool.or_eq_true,beq_iff_eq] at hb
   obtain ⟨h1,h2 | h2⟩:=hb
   ·subst h2; exact .one hj e he h1
   ·exact .more hj e he h1 (ih h2)
  ·cases h
def turnsB (md:Region.Mode) (ops:Array Oper) (l:List Nat):Bool :=
 l.all fun i=>l.all fun j=>i == j || waitsB md ops 8 j i || waitsB md ops 8 i j
theorem turns_of {l:List (Nat × RSpec)} (h:turnsB md ops (l.map (·.1))=true):Turns md ops (specOf l):=by
 have hin:∀ i,specOf l i≠none→i∈l.map (·.1):=by
  intro i
  clear h
  induction l with
  | nil=>intro h; exact absurd rfl h
  | cons x l ih =>
   intro h
   obtain ⟨k,s⟩:=x
   unfold specOf at h
   split at h
   ·rename_i e; subst e; simp
   ·exact List.mem_cons_of_mem _ (ih h)
 intro i j oi oj hi hj hij
 by_cases h1:specOf l i=none
 ·exact .inl h1
 by_cases h2:specOf l j=none
 ·exact .inr (.inl h2)
 have h3:=List.all_eq_true.1 (List.all_eq_true.1 h i (hin i h1)) j (hin j h2)
 simp only [Bool.or_eq_true,beq_iff_eq] at h3
 rcases h3 with (h3 | h3) | h3
 ·exact absurd h3 hij
 ·exact .inr (.inr (.inl (waits_of h3)))
 ·exact .inr (.inr (.inr (waits_of h3)))
end
end Go.Proofs.YtlfpfkallgkjdaaGreat.Ph
end
