/- What a query needs. No program. -/
import Derived.Lib.SlicesS
import Derived.Deep.QuietTactic
import Derived.BigQuiet
import Derived.Maps.AppendAt
import Derived.Laws.AppendOwnNone
import Derived.Deep.RegionHeld3
import Derived.Deep.RegionLaw
import Derived.Test.YtlfpfkallgkjdaaGreatQAlertRunsRow12
import Derived.Test.YtlfpfkallgkjdaaGreatQAlertRunsRow14
import Derived.Test.YtlfpfkallgkjdaaGreatQAlertRunsRow5
import Derived.Test.YtlfpfkallgkjdaaGreatQAlertRunsRow25
import Derived.Test.YtlfpfkallgkjdaaGreatQAlertRunsRow0
import Derived.Test.YtlfpfkallgkjdaaGreatQAlertRunsRow29
import Derived.Test.YtlfpfkallgkjdaaGreatQAlertRunsRow2
import Derived.Test.YtlfpfkallgkjdaaGreatQAlertRunsRow33
set_option linter.unusedSimpArgs false
set_option linter.unusedVariables false
set_option maxRecDepth 20000
section
namespace Go.Proofs.YtlfpfkallgkjdaaGreat.Qy
open Go.RowKit
def add1 (l:List ByteArray) (t:ByteArray):List ByteArray:=if Lib.containsS l t=true then l else l ++ [t]
def addL (l ts:List ByteArray):List ByteArray:=ts.foldl add1 l
theorem addL_nil (l:List ByteArray):addL l []=l:=rfl
theorem addL_one (l:List ByteArray) (t:ByteArray):addL l [t]=add1 l t:=rfl
theorem addL_append (l a b:List ByteArray):addL l (a ++ b)=addL (addL l a) b:=List.foldl_append
theorem addL_take (l ts:List ByteArray) (k:Nat) (h:k<ts.length):addL l (ts.take (k+1))=add1 (addL l (ts.take k)) ts[k]:=by
 rw [List.take_succ_eq_append_getElem h,addL_append]; rfl
theorem add1_len (l:List ByteArray) (t:ByteArray):(add1 l t).length≤l.length+1∧l.length≤(add1 l t).length:=by
 unfold add1; split <;> simp
theorem addL_len (ts:List ByteArray):∀ l,(addL l ts).length≤l.length+ts.length:=by
 induction ts with
 | nil=>intro l; simp [addL]
 | cons t r ih =>
  intro l
  have h1:=ih (add1 l t)
  have h2:=(add1_len l t).1
  have h3:addL l (t :: r)=addL (add1 l t) r:=rfl
  rw [h3,List.length_cons]
  omega
theorem mem_add1 (l:List ByteArray) (t x:ByteArray):x∈add1 l t↔x∈l∨x=t:=by
 unfold add1
 by_cases h:Lib.containsS l t=true
 ·rw [if_pos h]
  have:=(Lib.containsS_iff l t).1 h
  constructor
  ·exact .inl
  ·rintro (h | rfl) <;> assumption
 ·rw [if_neg h]; simp
theorem mem_addL (ts:List ByteArray):∀ l x,x∈addL l ts↔x∈l∨x∈ts:=by
 induction ts with
 | nil=>intro l x; simp [addL]
 | cons t r ih =>
  intro l x
  have h3:addL l (t :: r)=addL (add1 l t) r:=rfl
  rw [h3,ih,mem_add1,List.mem_cons,or_assoc]
def termL (nm w:ByteArray):List ByteArray:=if Tk.termOk nm w=true then [Tk.termV nm w] else []
def termsL (nm:ByteArray) (ws:List ByteArray):List ByteArray:=ws.flatMap (termL nm)
theorem termsL_take (nm:ByteArray) (ws:List ByteArray) (k:Nat) (h:k<ws.length):termsL nm (ws.take (k+1))=termsL nm (ws.take k) ++ termL nm ws[k]:=by
 unfold termsL
 rw [List.take_succ_eq_append_getElem h,List.flatMap_append]
 simp
theorem termL_len (nm w:ByteArray):(termL nm w).length≤1:=by unfold termL; split <;> simp
theorem termsL_len (nm:ByteArray):∀ ws,(termsL nm ws).length≤ws.length
 | []=>by simp [termsL]
 | w :: r=>by
  have h:=termsL_len nm r
  have h1:=termL_len nm w
  have h2:termsL nm (w :: r)=termL nm w ++ termsL nm r:=by simp [termsL]
  rw [h2,List.length_append,List.length_cons]
  omega
mutual
def needs:Q→List ByteArray
 | .mk k nm ws l=>if k=4∨(k=2∧ws.length=1) then addL [] (termsL nm ws) else if k=5 then needsIn [] l else []
def needsIn (acc:List ByteArray):List Q→List ByteArray
 | []=>acc
 | q :: l=>needsIn (addL acc (needs q)) l
end
theorem needsIn_eq:∀ (l:List Q) acc,needsIn acc l=l.foldl (fun a q=>addL a (needs q)) acc
 | [],acc=>by simp [needsIn]
 | q :: l,acc=>by rw [needsIn,needsIn_eq l]; rfl
theorem needsIn_take (l:List Q) (acc:List ByteArray) (k:Nat) (h:k<l.length):needsIn acc (l.take (k+1))=addL (needsIn acc (l.take k)) (needs l[k]):=by
 rw [needsIn_eq,needsIn_eq,List.take_succ_eq_append_getElem h,List.foldl_append]; rfl
theorem needs_eq (k:Int) (nm:ByteArray) (ws:List ByteArray) (l:List Q):needs (.mk k nm ws l)=if k=4∨(k=2∧ws.length=1) then addL [] (termsL nm ws) else if k=5 then needsIn [] l else []:=by rw [needs]
mutual
def wq:Q→Nat
 | .mk _ _ ws l=>1+ws.length+wqs l
def wqs:List Q→Nat
 | []=>0
 | q :: l=>wq q+wqs l
end
theorem wq_eq (k:Int) (nm:ByteArray) (ws:List ByteArray) (l:List Q):wq (.mk k nm ws l)=1+ws.length+wqs l:=by rw [wq]
theorem wqs_append:∀ a b,wqs (a ++ b)=wqs a+wqs b
 | [],b=>by simp [wqs]
 | q :: a,b=>by rw [List.cons_append,wqs,wqs,wqs_append a b]; omega
theorem wqs_take_le (l:List Q) (k:Nat):wqs (l.take k)≤wqs l:=by
 have h:=wqs_append (l.take k) (l.drop k)
 rw [List.take_append_drop] at h
 omega
theorem wqs_mem:∀ (l:List Q) (q:Q),q∈l→wq q≤wqs l
 | x :: l,q,h=>by
  rw [wqs]
  rcases List.mem_cons.1 h with rfl | h
  ·omega
  ·have:=wqs_mem l q h
   omega
theorem wqs_pos:∀ (l:List Q),l.length≤wqs l
 | []=>by simp [wqs]
 | .mk k nm ws r :: l=>by
  have:=wqs_pos l
  rw [wqs,wq,List.length_cons]
  omega
theorem needsIn_len:∀ (l:List Q) (acc:List ByteArray),(∀ q∈l,(needs q).length≤wq q)→(needsIn acc l).length≤acc.length+wqs l
 | [],acc,_=>by simp [needsIn,wqs]
 | q :: l,acc,h=>by
  have h1:=needsIn_len l (addL acc (needs q)) (fun x hx=>h x (List.mem_cons_of_mem _ hx))
  have h2:=addL_len (needs q) acc
  have h3:=h q (by simp)
  rw [needsIn,wqs]
  omega
theorem needs_len:∀ q,(needs q).length≤wq q:=by
 refine Q.ind (fun k nm ws l ih=>?_)
 rw [needs_eq,wq_eq]
 split
 ·have h1:=addL_len (termsL nm ws) []
  have h2:=termsL_len nm ws
  simp only [List.length_nil] at h1
  omega
 ·split
  ·have h1:=needsIn_len l [] ih
   simp only [List.length_nil] at h1
   omega
  ·simp
end Go.Proofs.YtlfpfkallgkjdaaGreat.Qy
end

section
namespace Go.Proofs.YtlfpfkallgkjdaaGreat.Qy
open Go.RowKit Ut Tk
theorem phr_pos (T:List (List UInt8)) (ws:List ByteArray) : 0<(phr T ws).length↔ws≠[]∧∃ i,i<T.length∧stands T ws i=true:=by
 unfold phr
 by_cases h:ws=[]
 ·rw [if_pos h]; simp [h]
 ·rw [if_neg h]
  unfold phrTo
  rw [List.length_pos_iff_exists_mem]
  simp [List.mem_filter,h]
theorem stands_get (T:List (List UInt8)) (ws:List ByteArray) (i j:Nat) (h:stands T ws i=true) (hj:j<ws.length):T[i+j]?=some ws[j].data.toList:=by
 unfold stands at h
 rw [beq_iff_eq] at h
 have e:=congrArg (fun l=>l[j]?) h
 simp only [List.getElem?_take,if_pos hj,List.getElem?_drop,List.getElem?_map,List.getElem?_eq_getElem hj,Option.map_some] at e
 exact e
theorem stands_one (T:List (List UInt8)) (b:ByteArray) (i:Nat) (h:T[i]?=some b.data.toList):stands T [b] i=true:=by
 obtain ⟨hi,e⟩:=List.getElem?_eq_some_iff.1 h
 unfold stands
 rw [beq_iff_eq]
 have:=standsTo_succ T [b] i 0 (by omega) (by simp)
 rw [standsTo_zero] at this
 simp only [Nat.add_zero,List.getElem_cons_zero,Bool.true_and,e,beq_self_eq_true] at this
 unfold standsTo at this
 rw [beq_iff_eq] at this
 simpa using this
theorem phr_one {T:List (List UInt8)} {ws:List ByteArray} {b:ByteArray} (h : 0<(phr T ws).length) (hb:b∈ws) : 0<(phr T [b]).length:=by
 obtain ⟨_,i,hi,hs⟩:=(phr_pos T ws).1 h
 obtain ⟨j,hj,rfl⟩:=List.getElem_of_mem hb
 have hg:=stands_get T ws i j hs hj
 exact (phr_pos T _).2 ⟨by simp,i+j,(List.getElem?_eq_some_iff.1 hg).1,stands_one T _ _ hg⟩
theorem leaf_one {k:Int} {nm b:ByteArray} {ws:List ByteArray} {fs:List (ByteArray × ByteArray)} (hk:k=4∨k=2) (h:leafB k nm ws fs=true) (hb:b∈ws):leafB 2 nm [b] fs=true:=by
 unfold leafB at *
 rw [List.any_eq_true] at *
 obtain ⟨f,hf,h⟩:=h
 rw [Bool.and_eq_true] at h
 refine ⟨f,hf,?_⟩
 rw [Bool.and_eq_true]
 refine ⟨h.1,?_⟩
 have hp : 0<(phr (Tk.words f.2.data.toList) ws).length:=by
  have h2:=h.2
  unfold leafT at h2
  rcases hk with rfl | rfl
  ·simpa using h2
  ·simp at h2; exact h2.2
 have:=phr_one hp hb
 unfold leafT
 simp [this]
theorem mem_needsIn:∀ (l:List Q) acc x,x∈needsIn acc l↔x∈acc∨∃ q∈l,x∈needs q
 | [],acc,x=>by simp [needsIn]
 | q :: l,acc,x=>by
  rw [needsIn,mem_needsIn l,mem_addL]
  simp [or_assoc]
theorem needs_hit (fs:List (ByteArray × ByteArray)):∀ q,matchB fs q=true→∀ t∈needs q,∃ a b,termOk a b=true∧t=termV a b∧matchB fs (.mk 2 a [b] [])=true:=by
 refine Q.ind (fun k nm ws l ih hm t ht=>?_)
 rw [matchB_eq] at hm
 rw [needs_eq] at ht
 by_cases h:k=4∨(k=2∧ws.length=1)
 ·rw [if_pos h] at ht
  have h1:k≠1:=by omega
  rw [if_neg h1,if_pos (by omega)] at hm
  rw [mem_addL] at ht
  rcases ht with ht | ht
  ·cases ht
  ·unfold termsL at ht
   obtain ⟨b,hb,ht⟩:=List.mem_flatMap.1 ht
   unfold termL at ht
   by_cases ho:termOk nm b=true
   ·rw [if_pos ho] at ht
    refine ⟨nm,b,ho,by simpa using ht,?_⟩
    rw [matchB_eq]
    have:=leaf_one (by omega) hm hb
    simp [this]
   ·rw [if_neg ho] at ht; cases ht
 ·rw [if_neg h] at ht
  by_cases h5:k=5
  ·subst h5
   rw [if_pos rfl,mem_needsIn] at ht
   rcases ht with ht | ⟨q,hq,ht⟩
   ·cases ht
   ·refine ih q hq ?_ t ht
    simp at hm
    exact hm q hq
  ·rw [if_neg h5] at ht; cases ht
theorem termV_size (a b:ByteArray) (h:termOk a b=true):(termV a b).size≤65∧b.size≤32:=by
 unfold termOk at h
 rw [Bool.and_eq_true] at h
 have h1:a.data.toList.length≤32:=by
  have:=h.1
  unfold isN at this
  simp only [Bool.and_eq_true,decide_eq_true_eq] at this
  exact this.1.2
 have h2:b.data.toList.length≤32:=by
  refine Classical.byContradiction fun hc=>?_
  have:=isW_len _ (by omega : 32<b.data.toList.length)
  rw [h.2] at this
  cases this
 refine ⟨?_,by rw [bsize] at h2; exact h2⟩
 unfold termV
 rw [str_size]
 unfold term
 simp only [List.length_append,List.length_cons]
 omega
end Go.Proofs.YtlfpfkallgkjdaaGreat.Qy
end

section
namespace Go.Proofs.YtlfpfkallgkjdaaGreat.Qy
open Go.RowKit Ut Tk
set_option maxHeartbeats 3200000 in
theorem stand_ref (TA:Option Addr) (n tc:Nat) (T:List (List UInt8)) (WA:Option Addr) (m wc:Nat) (ws:List ByteArray) (k:Nat) (w:World) (hT:Reads w w.heap.size 2 TA n (tokC (placed T))) (hn:T.length=n) (hn2:n≤1048576)
  (hW:Reads w w.heap.size 1 WA m (ws.map Value.string)) (hm:ws.length=m) (hm2:m≤8796093021952) (hk:k<n) :
  Calls Tryz.prog 138 #[.slice TA n tc,.int .i64 (k:Int),.slice WA m wc] w fun e w'=>e=.returned (.bool (stands T ws k))∧Below w.heap.size w w':=by
 have HT:=zh hT
 have HW:=zh hW
 have Hn:=zh hn
 have Hm:=zh hm
 by_cases hs:n - k<m
 ·have Fin:=zh (stands_short T ws k (by rw [hn,hm]; exact hs))
  have hs':(n:Int) - (k:Int)<(m:Int):=by omega
  clear hT hW hn hm hs
  go_enter Tryz.func138,Tryz.ntmps138
  go_wp2
  go_ret
  exact ⟨by rw [Fin.out]; rfl,Below.refl _ _⟩
 ·have hs':¬ (n:Int) - (k:Int)<(m:Int):=by omega
  have hmn:m≤n - k:=by omega
  clear hT hW hn hm hs
  go_enter Tryz.func138,Tryz.ntmps138
  go_wp2
  go_loopw [7] (fun i wr=>∃ j:Nat,j≤m∧i=.int .i64 j∧standsTo T ws k j=true∧Below w.heap.size w wr) (fun i _=>m - (intOf i).toNat)
  case atStart=>exact ⟨0,Nat.zero_le _,rfl,standsTo_zero _ _ _,Below.refl _ _⟩
  case round =>
   obtain ⟨j,hj,rfl,hst,hb⟩:=hrel
   have Hb:=zh hb
   have Hst:=zh hst
   clear hst hb
   by_cases hjm:j<m
   ·obtain ⟨tb,tq,rfl,htb,hx1,hx2⟩:=toks_at HT.out Hn.out (k:=k+j) (by rw [Hn.out]; omega)
    obtain ⟨ab,ao,hkl,rfl,hab,hcw⟩:=HW.out.at_map hjm
    have hy1:=(Hb.out.cell (p:=⟨tb,tq+(k+j) * 2,none⟩) htb).trans hx1
    have hy2:=(Hb.out.cell (p:=⟨tb,tq+(k+j) * 2+1,none⟩) htb).trans hx2
    have hyw:=(Hb.out.cell (p:=⟨ab,ao+j,none⟩) hab).trans hcw
    have hss:=standsTo_succ T ws k j (by rw [Hn.out]; omega) (by rw [Hm.out]; omega)
    have hbe:=str_beq (T[k+j]'(by rw [Hn.out]; omega)) ws[j]
    rw [Hst.out,Bool.true_and,← hbe] at hss
    have Hss:=zh hss
    have hi0:(0:Int)≤(k:Int)+(j:Int):=by omega
    have hi1:(k:Int)+(j:Int)<(n:Int):=by omega
    have hi2:((k:Int)+(j:Int)).toNat=k+j:=by omega
    have hi3:IntKind.i64.wrap ((k:Int)+(j:Int))=(k:Int)+(j:Int):=IntWalk.i64_in _ (by omega)
    have hj0:(0:Int)≤(j:Int):=by omega
    have hj1:(j:Int)<(m:Int):=by omega
    have Hno:Hid (standsTo T ws k (j+1)=false→stands T ws k=false):=zh (fun e=>standsTo_no T ws k (j+1) (by rw [Hm.out]; omega) e)
    clear hx1 hx2 hcw hss hbe
    have hprev : 0<j→wr.cell? ⟨tb,tq+(k+j - 1) * 2+1,none⟩=some (.int .i64 ((k+j - 1:Nat):Int)):=fun h0=>by
     obtain ⟨tb',tq',e1,htb',_,hx2⟩:=toks_at HT.out Hn.out (k:=k+j - 1) (by rw [Hn.out]; omega)
     injection e1 with e1
     injection e1 with e1 e2
     subst e1 e2
     exact (Hb.out.cell (p:=⟨tb,tq+(k+j - 1) * 2+1,none⟩) htb).trans hx2
    generalize (str (T[k+j]'(by rw [Hn.out]; omega)))=x at *
    generalize ws[j]=y at *
    by_cases hxy:(x.toList == y.toList)=true
    ·have hxy':(x.toList != y.toList)=false:=by rw [bne,hxy]; rfl
     have Hs2:Hid (standsTo T ws k (j+1)=true):=zh (by rw [Hss.out,hxy])
     by_cases h0 : 0<j
     ·have hp:=hprev h0
      have e1:((k+j - 1:Nat):Int)=(k:Int)+(j:Int) - 1:=by omega
      have e2:((k:Int)+(j:Int) - 1).toNat=k+j - 1:=by omega
      have e3:IntKind.i64.wrap ((k:Int)+(j:Int) - 1)=(k:Int)+(j:Int) - 1:=IntWalk.i64_in _ (by omega)
      have e4:(0:Int)≤(k:Int)+(j:Int) - 1:=by omega
      have e5:(k:Int)+(j:Int) - 1<(n:Int):=by omega
      have e6:(((k:Int)+(j:Int) - 1) == 9223372036854775807)=false:=by rw [beq_eq_false_iff_ne]; omega
      have e7:IntKind.i64.wrap ((k:Int)+(j:Int) - 1+1)=(k:Int)+(j:Int):=by rw [show (k:Int)+(j:Int) - 1+1=(k:Int)+(j:Int) from by omega]; exact hi3
      have h0':decide (0<j)=true:=by simpa using h0
      rw [e1] at hp
      clear hprev e1
      go_wp2_with fail
      go_quiet (fail)
      have Hbx:=zh (below_drewN Hb.out nq)
      go_wp2
      go_roundw
      case rel=>exact ⟨j+1,by omega,by go_num,Hs2.out,Hbx.out⟩
      case measure=>simp [intOf]; omega
     ·have h0':decide ((0:Int)<(j:Int))=false:=by simpa using h0
      clear hprev
      go_wp2_with fail
      go_quiet (fail)
      have Hbx:=zh (below_drewN Hb.out nq)
      go_wp2
      go_roundw
      case rel=>exact ⟨j+1,by omega,by go_num,Hs2.out,Hbx.out⟩
      case measure=>simp [intOf]; omega
    ·have hxf:(x.toList == y.toList)=false:=Bool.eq_false_iff.2 hxy
     have hxy':(x.toList != y.toList)=true:=by rw [bne,hxf]; rfl
     have Hs2:=zh (Hno.out (by rw [Hss.out]; exact hxf))
     clear hxy hprev
     go_wp2_with fail
     go_quiet (fail)
     have Hbx:=zh (below_drewN Hb.out nq)
     go_wp2
     go_ret
     exact ⟨by rw [Hs2.out]; rfl,Hbx.out⟩
   ·obtain rfl:j=m:=by omega
    have hst2:=Hst.out
    have hmm:=Hm.out
    subst hmm
    rw [standsTo_all] at hst2
    have Fin:=zh hst2
    clear hst2 hjm
    go_wp2
    go_ret
    exact ⟨by rw [Fin.out]; rfl,Hb.out⟩
end Go.Proofs.YtlfpfkallgkjdaaGreat.Qy
end

section
namespace Go.Proofs.YtlfpfkallgkjdaaGreat.Qy
open Go.RowKit Ut Tk
set_option maxHeartbeats 1600000 in
theorem phrase_ref (TA:Option Addr) (n tc:Nat) (T:List (List UInt8)) (WA:Option Addr) (m wc:Nat) (ws:List ByteArray) (w:World) (hT:Reads w w.heap.size 2 TA n (tokC (placed T))) (hn:T.length=n) (hn2:n≤1048576)
  (hW:Reads w w.heap.size 1 WA m (ws.map Value.string)) (hm:ws.length=m) (hm2:m≤8796093021952) :
  Calls Tryz.prog 93 #[.slice TA n tc,.slice WA m wc] w (IntPost w (phr T ws)):=by
 obtain ⟨i0,hi0,hz0,hz1,hz2⟩:=info_parts int_info2
 have HT:=zh hT
 have HW:=zh hW
 clear hT hW
 by_cases h0:m=0
 ·have hws:ws=[]:=List.length_eq_zero_iff.1 (by omega)
  have Fin:Hid (phr T ws=[]):=zh (by unfold phr; rw [if_pos hws])
  have h0':¬ (0:Int)<(m:Int):=by omega
  have h0'':¬ 0<m:=by omega
  clear h0 hws hm
  go_enter Tryz.func93,Tryz.ntmps93
  go_wp2
  go_loopw [5,6] (fun v i wr=>v=.slice none 0 0∧i=.int .i64 0∧wr=w) (fun _ i _=>n - (intOf i).toNat)
  case atStart=>exact ⟨rfl,rfl,rfl⟩
  case round =>
   obtain ⟨rfl,rfl,rfl⟩:=hrel
   by_cases hn0:(0:Int)<(n:Int)
   all_goals
    go_wp2
    go_ret
    exact ⟨_,rfl,by rw [Fin.out]; exact Ints.start _⟩
 ·have hws:ws≠[]:=fun e=>h0 (by rw [← hm,e]; rfl)
  have Fin:Hid (phr T ws=phrTo T ws n):=zh (by unfold phr; rw [if_neg hws,hn])
  have h0':(0:Int)<(m:Int):=by omega
  have h0'' : 0<m:=by omega
  have Hn:=zh hn
  have Hm:=zh hm
  clear h0 hws hm hn
  go_enter Tryz.func93,Tryz.ntmps93
  go_wp2
  go_loopw [5,6] (fun v i wr=>∃ k:Nat,k≤n∧i=.int .i64 k∧Ints w wr v (phrTo T ws k)) (fun _ i _=>n - (intOf i).toNat)
  case atStart=>exact ⟨0,Nat.zero_le _,rfl,Ints.start w⟩
  case round =>
   obtain ⟨k,hk,rfl,hI⟩:=hrel
   by_cases hlt:k<n
   ·obtain ⟨tb,tq,rfl,htb,hc1,hc2⟩:=toks_at HT.out Hn.out (k:=k) (by rw [Hn.out]; exact hlt)
    have c1:=stand_ref (some ⟨tb,tq,none⟩) n tc T WA m wc ws k wr ((HT.out.below hI.bel).more hI.bel.size) Hn.out hn2 ((HW.out.below hI.bel).more hI.bel.size) Hm.out hm2 hlt
    have hd2:=(hI.bel.cell (p:=⟨tb,tq+k * 2+1,none⟩) htb).trans hc2
    have htb2:tb<wr.heap.size:=by have:=hI.bel.size; omega
    have HI:=zh hI
    have hpl:=phrTo_len T ws k
    have Hph:=zh (phrTo_succ T ws k)
    clear hI hc1 hc2
    by_cases hs:stands T ws k=true
    ·rw [hs] at c1
     have Hph2:Hid (phrTo T ws (k+1)=phrTo T ws k ++ [k]):=zh (by rw [Hph.out,hs]; rfl)
     clear hs
     generalize phrTo T ws k=P at *
     go_wp2_with fail
     refine c1.mono ?_
     rintro e w2 ⟨rfl,hb2⟩
     have hI2:=HI.out.below hb2
     have hown:=hI2.own
     have hbsz:=hI2.bel.size
     have hd3:=(hb2.cell (p:=⟨tb,tq+k * 2+1,none⟩) htb2).trans hd2
     have HI2:=zh hI2
     clear hI2 c1 hb2
     go_wp2_with (at_builtin; refine wpList_append_own _ rfl _ _ 38 rfl w.heap.size 3 i0 _ 1 8 Tryz.underlying38 hi0 hz0 hz1 hz2 rfl (by decide) _ _ _ rfl (hown.alloc _) ⟨w2.heap.size,0,none⟩ 1 1 [.int .i64 (k:Int)] rfl rfl ?d1 ?d2 ?d3 ?d4 ?d5 ?_)
     case d1=>exact World.news_of_block (cs:=#[.int .i64 (k:Int)]) (t:=3) (fr:=(0,0)) (heap_alloc_new w2 _)
     case d2=>first | rfl | (intro u hu; simp at hu; subst hu; rfl)
     case d3=>unfold maxLen; omega
     case d4=>omega
     case d5=>first | omega | (simp; omega)
     intro v' w5 hown5 hg5 _
     have HI5:=zh ((HI2.out.below ((Below.refl _ _).alloc (zG _) _)).put hown5 hg5)
     clear hown5 hg5 hown
     go_wp2
     go_roundw
     case rel=>exact ⟨k+1,by omega,by go_num,by rw [Hph2.out]; exact HI5.out⟩
     case measure=>simp [intOf]; omega
    ·have hs':stands T ws k=false:=Bool.eq_false_iff.2 hs
     rw [hs'] at c1
     have Hph2:Hid (phrTo T ws (k+1)=phrTo T ws k):=zh (by rw [Hph.out,hs']; simp)
     clear hs hs'
     go_wp2_with fail
     refine c1.mono ?_
     rintro e w2 ⟨rfl,hb2⟩
     have HI2:=zh (HI.out.below hb2)
     clear c1 hb2
     go_wp2
     go_roundw
     case rel=>exact ⟨k+1,by omega,by go_num,by rw [Hph2.out]; exact HI2.out⟩
     case measure=>simp [intOf]; omega
   ·obtain rfl:k=n:=by omega
    have HI:=zh hI
    clear hI
    go_wp2
    go_ret
    exact ⟨_,rfl,by rw [Fin.out]; exact HI.out⟩
theorem isPrefix_take (p t:List UInt8):p.isPrefixOf t=(decide (p.length≤t.length) && (t.take p.length == p)):=by
 rw [Bool.eq_iff_iff]
 simp only [List.isPrefixOf_iff_prefix,Bool.and_eq_true,decide_eq_true_eq,beq_iff_eq]
 constructor
 ·rintro ⟨r,rfl⟩
  simp
 ·rintro ⟨_,h⟩
  exact ⟨t.drop p.length,by have:=List.take_append_drop p.length t; rw [h] at this; exact this⟩
set_option maxHeartbeats 400000 in
theorem begins_ref (x:List UInt8) (p:ByteArray) (w:World) (hx:x.length≤1048576) :
  Calls Tryz.prog 139 #[.string (str x),.string p] w fun e w'=>e=.returned (.bool (begins x p))∧w=w':=by
 have hb:begins x p=(decide (p.size≤(str x).size) && ((str x).extract 0 p.size).toList == p.toList):=by
  unfold begins
  rw [isPrefix_take,tl,tl,Lib.extract_data,bsize,str_size,str_data]
  simp
 have HB:=zh hb
 have hsz:(str x).size≤1048576:=by rw [str_size]; exact hx
 clear hb
 generalize str x=s at *
 generalize begins x p=r at *
 by_cases hl:p.size≤s.size
 ·have hl':(p.size:Int)≤(s.size:Int):=by omega
  have HB2:Hid (r=((s.extract 0 p.size).toList == p.toList)):=zh (by rw [HB.out,decide_eq_true hl,Bool.true_and])
  go_enter Tryz.func139,Tryz.ntmps139
  go_wp2
  go_ret
  exact ⟨by rw [HB2.out]; rfl,rfl⟩
 ·have hl':¬ (p.size:Int)≤(s.size:Int):=by omega
  have HB2:Hid (r=false):=zh (by rw [HB.out,decide_eq_false hl,Bool.false_and])
  go_enter Tryz.func139,Tryz.ntmps139
  go_wp2
  go_ret
  exact ⟨by rw [HB2.out]; rfl,rfl⟩
set_option maxHeartbeats 400000 in
theorem prefixed_ref (TA:Option Addr) (n tc:Nat) (T:List (List UInt8)) (p:ByteArray) (w:World) (hT:Reads w w.heap.size 2 TA n (tokC (placed T))) (hn:T.length=n) (hn2:n≤1048576) (h32:∀ x∈T,x.length≤1048576) :
  Calls Tryz.prog 94 #[.slice TA n tc,.string p] w fun e w'=>e=.returned (.bool (T.any (begins · p)))∧w=w':=by
 have HT:=zh hT
 have Hn:=zh hn
 clear hT hn
 go_enter Tryz.func94,Tryz.ntmps94
 go_wp2
 go_loop [5] (fun i=>∃ k:Nat,k≤n∧i=.int .i64 k∧(T.take k).any (begins · p)=false) (fun i=>n - (intOf i).toNat)
 case atStart=>exact ⟨0,Nat.zero_le _,rfl,rfl⟩
 case round =>
  obtain ⟨k,hk,rfl,hal⟩:=hrel
  have Hal:=zh hal
  clear hal
  by_cases hlt:k<n
  ·obtain ⟨tb,tq,rfl,htb,hc1,hc2⟩:=toks_at HT.out Hn.out (k:=k) (by rw [Hn.out]; exact hlt)
   have hkl:k<T.length:=by rw [Hn.out]; exact hlt
   have hts:T.take (k+1)=T.take k ++ [T[k]]:=by rw [List.take_succ_eq_append_getElem hkl]
   have c1:=begins_ref T[k] p w (h32 _ (List.getElem_mem hkl))
   have hmem:T[k]∈T:=List.getElem_mem hkl
   clear hc2
   by_cases hb:begins T[k] p=true
   ·have Fin:Hid (T.any (begins · p)=true):=zh (List.any_eq_true.2 ⟨_,hmem,hb⟩)
    rw [hb] at c1
    clear hb hts hmem
    generalize str T[k]=x at *
    go_wp2_with fail
    refine c1.mono ?_
    rintro e w2 ⟨rfl,rfl⟩
    go_wp2
    go_ret
    exact ⟨by rw [Fin.out]; rfl,rfl⟩
   ·have hb':begins T[k] p=false:=Bool.eq_false_iff.2 hb
    have Hnx:Hid ((T.take (k+1)).any (begins · p)=false):=zh (by rw [hts,List.any_append,Hal.out]; simp [hb'])
    rw [hb'] at c1
    clear hb hb' hts hmem
    generalize str T[k]=x at *
    go_wp2_with fail
    refine c1.mono ?_
    rintro e w2 ⟨rfl,rfl⟩
    go_wp2
    go_round
    case rel=>exact ⟨k+1,by omega,by go_num,Hnx.out⟩
    case measure=>simp [intOf]; omega
  ·obtain rfl:k=n:=by omega
   have Fin:Hid (T.any (begins · p)=false):=zh (by have:=Hal.out; rwa [List.take_of_length_le (by rw [Hn.out]; exact zG _)] at this)
   go_wp2
   go_ret
   exact ⟨by rw [Fin.out]; rfl,rfl⟩
def idxF (p:Nat→Bool) (n:Nat):Int:=match (List.range n).find? p with | some i=>(i:Int) | none=>-1
theorem idxF_hit (p:Nat→Bool) (n k:Nat) (hk:k<n) (h:∀ j,j<k→p j=false) (hp:p k=true):idxF p n=(k:Int):=by
 unfold idxF
 have:(List.range n).find? p=some k:=by
  rw [List.find?_range_eq_some]
  exact ⟨hp,by simpa using hk,fun j hj=>by simp [h j hj]⟩
 rw [this]
theorem idxF_no (p:Nat→Bool) (n:Nat) (h:∀ j,j<n→p j=false):idxF p n=-1:=by
 unfold idxF
 have:(List.range n).find? p=none:=by
  rw [List.find?_eq_none]
  intro j hj
  rw [h j (by simpa using hj)]
  decide
 rw [this]
theorem idxF_any (p:Nat→Bool) (n:Nat):decide (0≤idxF p n)=(List.range n).any p:=by
 unfold idxF
 cases h:(List.range n).find? p with
 | none =>
  rw [List.find?_eq_none] at h
  symm
  simp only [Int.reduceNeg,Int.reduceLE,decide_false]
  rw [List.any_eq_false]
  exact h
 | some i =>
  have h1:=List.find?_some h
  have h2:=List.mem_of_find?_eq_some h
  have e:(List.range n).any p=true:=List.any_eq_true.2 ⟨i,h2,h1⟩
  rw [e]
  simp
set_option maxHeartbeats 800000 in
theorem indexTok (TA:Option Addr) (n tc:Nat) (T:List (List UInt8)) (f:Nat) (lb:Array Value) (p:Nat→Bool) (w:World) (hcf:∀ args wx,(callFunc f args).run Tryz.prog wx=.ok (.enter f args) wx) (hT:Reads w w.heap.size 2 TA n (tokC (placed T))) (hn:T.length=n) (hn2:n≤1048576)
  (hf:∀ i (h:i<T.length) wx,Below w.heap.size w wx→Calls Tryz.prog f (#[.agg #[.string (str T[i]),.int .i64 (i:Int)]] ++ lb) wx fun e w'=>e=.returned (.bool (p i))∧Below wx.heap.size wx w') :
  Calls Tryz.prog 179 #[.slice TA n tc,.func (.func f) #[] lb] w fun e w'=>e=.returned (.int .i64 (idxF p n))∧Below w.heap.size w w':=by
 have HT:=zh hT
 have Hn:=zh hn
 have Hf:=zh hf
 clear hT hn hf
 go_enter Tryz.func179,Tryz.ntmps179
 go_wp2
 go_loopw [8] (fun i wr=>∃ k:Nat,k≤n∧i=.int .i64 k∧(∀ j,j<k→p j=false)∧Below w.heap.size w wr) (fun i _=>n - (intOf i).toNat)
 case atStart=>exact ⟨0,Nat.zero_le _,rfl,fun j hj=>by omega,Below.refl _ _⟩
 case round =>
  obtain ⟨k,hk,rfl,hal,hb⟩:=hrel
  have Hal:=zh hal
  have Hb:=zh hb
  clear hal hb
  by_cases hlt:k<n
  ·obtain ⟨tb,tq,rfl,htb,hc1,hc2⟩:=toks_at HT.out Hn.out (k:=k) (by rw [Hn.out]; exact hlt)
   have hd1:=(Hb.out.cell (p:=⟨tb,tq+k * 2,none⟩) htb).trans hc1
   have hd2:=(Hb.out.cell (p:=⟨tb,tq+k * 2+1,none⟩) htb).trans hc2
   have c1:=Hf.out k (by rw [Hn.out]; exact hlt) wr Hb.out
   have Hs:Hid (∀ b,p k=b→(b=true→idxF p n=(k:Int))∧(b=false→∀ j,j<k+1→p j=false)):=zh (fun b hb=>⟨fun e=>idxF_hit p n k hlt Hal.out (by rw [hb,e]),fun e j hj=>by
    by_cases hjk:j=k
    ·rw [hjk,hb,e]
    ·exact Hal.out j (by omega)⟩)
   clear hc1 hc2
   generalize (str (T[k]'(by rw [Hn.out]; exact hlt)))=x at *
   cases hp:p k with
   | true =>
    have Fin:=zh ((Hs.out _ hp).1 rfl)
    rw [hp] at c1
    clear hp Hs
    go_wp2_with fail
    refine c1.mono ?_
    rintro e w2 ⟨rfl,hb2⟩
    have Hb2:=zh (Hb.out.trans (hb2.mono Hb.out.size))
    clear hb2 c1
    go_wp2
    go_ret
    exact ⟨by rw [Fin.out]; rfl,Hb2.out⟩
   | false =>
    have Hn2:=zh ((Hs.out _ hp).2 rfl)
    rw [hp] at c1
    clear hp Hs
    go_wp2_with fail
    refine c1.mono ?_
    rintro e w2 ⟨rfl,hb2⟩
    have Hb2:=zh (Hb.out.trans (hb2.mono Hb.out.size))
    clear hb2 c1
    go_wp2
    go_roundw
    case rel=>exact ⟨k+1,by omega,by go_num,Hn2.out,Hb2.out⟩
    case measure=>simp [intOf]; omega
  ·obtain rfl:k=n:=by omega
   have Fin:=zh (idxF_no p k Hal.out)
   go_wp2
   go_ret
   exact ⟨by rw [Fin.out]; rfl,Hb.out⟩
end Go.Proofs.YtlfpfkallgkjdaaGreat.Qy
end

section
namespace Go.Proofs.YtlfpfkallgkjdaaGreat.Rg
open Go.RowKit
theorem add_lit (b o n:Nat):(⟨b,o,none⟩:Addr).add n=⟨b,o+n,none⟩:=by unfold Addr.add; split <;> simp_all
theorem wpList_append_any {P:Program} {w:World} {ops:Array Oper} {rest:List Oper} {o:Oper} {a:Act} {Q:Exit→Act→World→Prop} (hgd:o.guard=none) (s x:Operand) (t:TypeId)
  (ho:o.op=.call { callee:=.builtin .append,args:=#[s,x],argTypes:=#[t,t] })
  (base:Nat) (e:TypeId) (i:TypeInfo) (z:Value) (size bytes:Nat) (ht:P.underlying t=some (.slice e)) (hi:P.info? e=some i) (hz:i.zero=some z)
  (hsize:i.size=size) (hby:i.bytes=bytes) (hzs:z.cells.size=size) (hsz : 0<size)
  (v:Value) (n:Nat) (xs:List Value) (hs:a.eval s=v) (hown:w.ownsRow base e size v n xs) (A:Option Addr) (m c:Nat) (X:List Value) (hx:a.eval x=.slice A m c) (hR:Reads w w.heap.size size A m X) (hnil:A=none→c=0) (h1:∀ u∈X,u.oneCell'=true)
  (h63:n+m≤maxLen) (hbytes:(n+m) * bytes≤140737488355328) (hbase:base≤w.heap.size)
  (h:∀ v' w',w'.ownsRow base e size v' (n+m) (xs ++ X)→w.grownBy w' v.ownBlock→(v'.ownBlock=v.ownBlock∨v'.ownBlock=some w.heap.size)→wpList P ops Q rest (a.put o.dst v') w'):wpList P ops Q (o :: rest) a w:=by
 have hXl:=hR.1
 cases A with
 | none =>
  have hm0:m=0:=by
   by_cases h0 : 0<m
   ·obtain ⟨b,o,e,_⟩:=hR.2 h0; cases e
   ·omega
  subst hm0
  obtain rfl:c=0:=hnil rfl
  have hX:X=[]:=List.length_eq_zero_iff.1 (by omega)
  subst hX
  refine wpList_append_own_none hgd s x t ho base e i size ht hi v n xs hs hown hx ?_
  exact h v w (by simpa using hown) (grow_of_below (Below.refl _ _) _) (.inl rfl)
 | some ad =>
  refine wpList_append_own_at w hgd s x t ho base e i z size bytes ht hi hz hsize hby hzs hsz v n xs hs hown ad m c X hx hXl (fun j u hj=>?_) h1 h63 hbytes hbase (fun v' w' h1 h2 _ h4=>h v' w' h1 h2 h4)
  have hjl:j<m * size:=by
   have:=(List.getElem?_eq_some_iff.1 hj).1
   omega
  have hm0 : 0<m:=by
   rcases Nat.eq_zero_or_pos m with h0 | h0
   ·subst h0; omega
   ·exact h0
  obtain ⟨b,o,e,hb,hc⟩:=hR.2 hm0
  injection e with e
  subst e
  rw [add_lit]
  exact hc j u hj
section
variable {w:World} {B n c p k:Nat} {A:Option Addr} {X:List Value}
theorem reads_take (h:Reads w B k A n X) (hp:p≤n):Reads w B k A p (X.take (p * k)):=by
 have hl:=h.1
 have hle:p * k≤n * k:=Nat.mul_le_mul_right k hp
 refine ⟨by rw [List.length_take]; omega,fun h0=>?_⟩
 obtain ⟨b,o,e,hb,hc⟩:=h.2 (by omega)
 refine ⟨b,o,e,hb,fun j u hj=>hc j u ?_⟩
 rw [List.getElem?_take] at hj
 split at hj
 ·exact hj
 ·cases hj
theorem reads_cut (h:Reads w B k A n X) (hp:p≤n) (hc:n≤c):Reads w B k (if c=p then A else A.map (·.add (p * k))) (n - p) (X.drop (p * k)):=by
 have hl:=h.1
 refine ⟨by rw [List.length_drop,Nat.sub_mul]; omega,fun h0=>?_⟩
 rw [if_neg (by omega)]
 obtain ⟨b,o,rfl,hb,hcl⟩:=h.2 (by omega)
 refine ⟨b,o+p * k,?_,hb,fun j u hj=>?_⟩
 ·show some ((⟨b,o,none⟩:Addr).add (p * k))=_
  rw [add_lit]
 ·rw [List.getElem?_drop] at hj
  have:=hcl _ _ hj
  rwa [← Nat.add_assoc] at this
end
structure Row (T:TypeId) (k B:Nat) (w wr:World) (v:Value) (n:Nat) (X:List Value):Prop where
 own:wr.ownsRow B T k v n X
 bel:Below B w wr
section
variable {T:TypeId} {k B n:Nat} {w wr w':World} {v:Value} {X:List Value}
theorem Row.start (hb:Below B w wr):Row T k B w wr (.slice none 0 0) 0 []:=⟨World.ownsRow_nil _ _ _ _,hb⟩
theorem Row.empty (T:TypeId) (k:Nat) (hk : 0<k) (w:World):Row T k w.heap.size w (w.alloc (.cells #[] T)) (.slice (some ⟨w.heap.size,0,none⟩) 0 0) 0 [] :=
 ⟨World.ownsRow_lit (base:=w.heap.size) (e:=T) (size:=k) w #[] 0 (by simp) (by unfold maxLen; omega) (by simp),(Below.refl _ _).alloc (zG _) _⟩
theorem Row.below (h:Row T k B w wr v n X) (hB:B≤wr.heap.size) (hb:Below wr.heap.size wr w'):Row T k B w w' v n X :=
 ⟨h.own.kept (grow_of_below hb none) (by cases v.ownBlock <;> simp),h.bel.trans (hb.mono hB)⟩
theorem Row.alloc (h:Row T k B w wr v n X) (hB:B≤wr.heap.size) (o:Obj):Row T k B w (wr.alloc o) v n X:=h.below hB ((Below.refl _ _).alloc (zG _) _)
theorem Row.app {w5:World} {v5:Value} {m:Nat} {Y:List Value} (h:Row T k B w wr v n X) (hB:B≤wr.heap.size) (ho:w5.ownsRow B T k v5 (n+m) (X ++ Y)) (hg:wr.grownBy w5 v.ownBlock):Row T k B w w5 v5 (n+m) (X ++ Y) :=
 ⟨ho,h.bel.grown hg hB (fun b hb=>(h.own.lt b hb).1)⟩
theorem own_base {w:World} {B B' n:Nat} {T:TypeId} {v:Value} {xs:List Value} (h:w.ownsRow B T k v n xs) (hB:B'≤B):w.ownsRow B' T k v n xs:=by
 obtain ⟨h1,h2 | ⟨g,cap,cur,q1,q2,q3⟩⟩:=h
 ·exact ⟨h1,.inl h2⟩
 ·exact ⟨h1,.inr ⟨g,cap,cur,q1,by omega,q3⟩⟩
theorem Row.over {w2:World} (h:Row T k B wr w2 v n X) (hw:Below w.heap.size w wr) (hB:w.heap.size≤B):Row T k w.heap.size w w2 v n X:=⟨own_base h.own hB,hw.trans (h.bel.mono hB)⟩
theorem new_row (w:World) (T:TypeId) (cs:List Value) (m:Nat) (hl:cs.length=m * k) (h0 : 0<m):Reads (w.alloc (.cells cs.toArray T)) (w.alloc (.cells cs.toArray T)).heap.size k (some ⟨w.heap.size,0,none⟩) m cs :=
 ⟨hl,fun _=>⟨_,0,rfl,by simp,fun j u hj=>by
  rw [Nat.zero_add,(Blk.new w T cs.toArray).cell j]
  simpa using hj⟩⟩
end
end Go.Proofs.YtlfpfkallgkjdaaGreat.Rg
end

section
namespace Go.Proofs.YtlfpfkallgkjdaaGreat.Mx
open Go.RowKit Ut Tk Qy Ev
abbrev Po:=Nat × List Nat
end Go.Proofs.YtlfpfkallgkjdaaGreat.Mx
end

section
namespace Go.Proofs.YtlfpfkallgkjdaaGreat.Mx
open Go.RowKit Ut Tk Qy Ev Qp Mv
abbrev Pr:=Nat × Value × List Nat
structure PosV (w:World) (x:Pr):Prop where
 ex:∃ P pc,x.2.1=.slice P x.2.2.length pc∧x.2.2.length≤pc∧ReadsS w (fun b=>Tg w 3 b) 1 P x.2.2.length (nC x.2.2)
 ne:x.2.2≠[]
 sz:x.2.2.length≤65536
theorem PosV.same {w w':World} {x:Pr} (h:PosV w x) (hk:∀ b,Tg w 3 b→w'.heap[b]?=w.heap[b]?):PosV w' x:=by
 obtain ⟨P,pc,h1,h2,h3⟩:=h.ex
 exact ⟨⟨P,pc,h1,h2,h3.same (fun b hb=>⟨hb.same (hk b hb),hk b hb⟩)⟩,h.ne,h.sz⟩
section
variable {w w':World} {n0 X M cn:Nat} {v:Value} {F:ByteArray→Option Value} {O O':Nat→Prop} {ds:List Dc} {sz lo hi:Int} {f:ByteArray→List Po}
end
end Go.Proofs.YtlfpfkallgkjdaaGreat.Mx
end

section
namespace Go.Proofs.YtlfpfkallgkjdaaGreat.Mx
open Go.RowKit Ut Tk Qy Ev Qp Mv
end Go.Proofs.YtlfpfkallgkjdaaGreat.Mx
end

section
namespace Go.Proofs.YtlfpfkallgkjdaaGreat.Ev
open Go.RowKit Ut Tk Qy Qp
end Go.Proofs.YtlfpfkallgkjdaaGreat.Ev
end

section
namespace Go.Proofs.YtlfpfkallgkjdaaGreat.Mx
open Go.RowKit Ut Tk Qy Ev Qp Mv
def Ow (O:Nat→Prop) (w0 w:World):Nat→Prop:=fun b=>O b∨(w0.heap.size≤b∧b<w.heap.size)
theorem Ow.mono {O:Nat→Prop} {w wr w2:World} (h:wr.heap.size≤w2.heap.size):∀ b,Ow O w wr b→Ow O w w2 b:=fun b hb=>by
 rcases hb with hb | ⟨h1,h2⟩
 ·exact .inl hb
 ·exact .inr ⟨h1,Nat.lt_of_lt_of_le h2 h⟩
end Go.Proofs.YtlfpfkallgkjdaaGreat.Mx
end

section
namespace Go.Proofs.YtlfpfkallgkjdaaGreat.Mx
open Go.RowKit Go.Maps Ut Tk Qy Ev Qp Mv
section
variable {w W1 wr:World} {n0 X:Nat} {O:Nat→Prop} {ds D0:List Dc} {b0 j M cn:Nat} {v:Value} {F:ByteArray→Option Value} {sz lo hi:Int} {f:ByteArray→List Po}
end
theorem term_at {w:World} {n0 n:Nat} {A:Option Addr} {O:List Tr} (h:ReadsS w (fun b=>n0≤b∧Tg w 105 b) 2 A n (O.flatMap encO)) (hp:∀ x∈O,x.2.2≠[]∧∃ P pc,x.2.1=.slice P x.2.2.length pc∧x.2.2.length≤pc∧ReadsS w (fun b=>n0≤b∧Tg w 3 b) 1 P x.2.2.length (nC x.2.2)) (hl:O.length=n) {i:Nat} (hi:i<O.length) :
  ∃ bt o P pc,A=some ⟨bt,o,none⟩∧Tg w 105 bt∧w.cell? ⟨bt,o+i * 2,none⟩=some (.string O[i].1)∧w.cell? ⟨bt,o+i * 2+1,none⟩=some (.slice P O[i].2.2.length pc)∧O[i].2.1=.slice P O[i].2.2.length pc:=by
 obtain ⟨b,o,e,hb,hc⟩:=h.2 (by omega)
 have f0:=Ss.encs_get (enc:=encO) (k:=2) (fun _=>rfl) O i 0 hi (by omega)
 have f1:=Ss.encs_get (enc:=encO) (k:=2) (fun _=>rfl) O i 1 hi (by omega)
 have c0:=hc _ _ (f0.trans rfl)
 have c1:=hc _ _ (f1.trans rfl)
 obtain ⟨_,P,pc,e2,_⟩:=hp _ (List.getElem_mem hi)
 rw [← Nat.add_assoc] at c1
 refine ⟨b,o,P,pc,e,hb.2,?_,?_,e2⟩
 ·simpa using c0
 ·rw [← e2]; exact c1
end Go.Proofs.YtlfpfkallgkjdaaGreat.Mx
end

section
namespace Go.Proofs.YtlfpfkallgkjdaaGreat.Mx
open Go.RowKit Ut Tk Qy Ev Qp
abbrev Bt:=Int × List Evn
def BtV (w:World) (B:Nat) (b:Bt) (v:List Value):Prop:=∃ A n c,v=[.int .i64 b.1,.slice A n c]∧EvsAt w B A n c b.2
theorem BtV.len {w:World} {B:Nat} {b:Bt} {v:List Value} (h:BtV w B b v):v.length=2:=by obtain ⟨A,n,c,rfl,_⟩:=h; rfl
theorem BtV.keep {w w':World} {B:Nat} {b:Bt} {v:List Value} (h:BtV w B b v) (hk:∀ b o,b<B→w'.cell? ⟨b,o,none⟩=w.cell? ⟨b,o,none⟩):BtV w' B b v:=by
 obtain ⟨A,n,c,e,g⟩:=h
 exact ⟨A,n,c,e,g.keep hk⟩
theorem BtV.more {w:World} {B B':Nat} {b:Bt} {v:List Value} (h:BtV w B b v) (hB:B≤B'):BtV w B' b v:=by
 obtain ⟨A,n,c,e,g⟩:=h
 exact ⟨A,n,c,e,g.more hB⟩
structure BtsAt (w:World) (R:Nat→Prop) (B:Nat) (A:Option Addr) (n c:Nat) (l:List Bt):Prop where
 ln:l.length=n
 cap:n≤c
 ex:∃ vss:List (List Value),vss.length=n∧ReadsS w R 2 A n vss.flatten∧∀ i (h:i<l.length) (h':i<vss.length),BtV w B l[i] vss[i]
theorem BtsAt.keep {w w':World} {R:Nat→Prop} {B n c:Nat} {A:Option Addr} {l:List Bt} (h:BtsAt w R B A n c l) (hr:∀ b o,R b→w'.cell? ⟨b,o,none⟩=w.cell? ⟨b,o,none⟩) (hk:∀ b o,b<B→w'.cell? ⟨b,o,none⟩=w.cell? ⟨b,o,none⟩):BtsAt w' R B A n c l:=by
 obtain ⟨vss,h1,h2,h3⟩:=h.ex
 exact ⟨h.ln,h.cap,vss,h1,h2.keep hr,fun i a b=>(h3 i a b).keep hk⟩
theorem BtsAt.at_ {w:World} {R:Nat→Prop} {B n c:Nat} {A:Option Addr} {l:List Bt} (h:BtsAt w R B A n c l) {i:Nat} (hi:i<l.length) :
  ∃ b o E m k,A=some ⟨b,o,none⟩∧R b∧w.cell? ⟨b,o+i * 2,none⟩=some (.int .i64 l[i].1)∧w.cell? ⟨b,o+i * 2+1,none⟩=some (.slice E m k)∧EvsAt w B E m k l[i].2:=by
 obtain ⟨vss,h1,h2,h3⟩:=h.ex
 have hl:=h.ln
 have hi':i<vss.length:=by omega
 have h4:∀ v∈vss,v.length=2:=fun v hv=>by
  obtain ⟨j,hj,rfl⟩:=List.mem_iff_getElem.1 hv
  exact (h3 j (by omega) hj).len
 obtain ⟨E,m,k,e,g⟩:=h3 i hi hi'
 obtain ⟨b,o,eA,hb,hc⟩:=h2.2 (by omega)
 have f0:=flat_get h4 i 0 hi' (by omega)
 have f1:=flat_get h4 i 1 hi' (by omega)
 rw [e] at f0 f1
 have c0:=hc _ _ f0
 have c1:=hc _ _ f1
 rw [← Nat.add_assoc] at c1
 exact ⟨b,o,E,m,k,eA,hb,c0,c1,g⟩
structure BOwn (w:World) (base B:Nat) (v:Value) (l:List Bt):Prop where
 ex:∃ vss:List (List Value),vss.length=l.length∧w.ownsRow base 69 2 v l.length vss.flatten∧∀ i (h:i<l.length) (h':i<vss.length),BtV w B l[i] vss[i]
theorem BOwn.start (w:World) (base B:Nat):BOwn w base B (.slice none 0 0) []:=⟨[],rfl,World.ownsRow_nil _ _ _ _,fun i h=>absurd h (by simp)⟩
theorem BOwn.below {w w':World} {base B:Nat} {v:Value} {l:List Bt} (h:BOwn w base B v l) (hb:Below w.heap.size w w') (hB:B≤w.heap.size):BOwn w' base B v l:=by
 obtain ⟨vss,h1,h2,h3⟩:=h.ex
 exact ⟨vss,h1,h2.kept (grow_of_below hb none) (by cases hv:v.ownBlock <;> simp),fun i a b=>(h3 i a b).keep (fun b o hlt=>hb.cell (Nat.lt_of_lt_of_le hlt hB))⟩
theorem BOwn.put {w w5:World} {base B:Nat} {v v':Value} {l:List Bt} {d:Bt} {u:List Value} {xs:List Value} (hx:∃ vss:List (List Value),vss.length=l.length∧w.ownsRow base 69 2 v l.length vss.flatten∧(∀ i (h:i<l.length) (h':i<vss.length),BtV w B l[i] vss[i])∧xs=vss.flatten)
  (hp:w5.ownsRow base 69 2 v' (l.length+1) (xs ++ u)) (hg:w.grownBy w5 v.ownBlock) (hd:BtV w B d u) (hB:B≤base) (hw:B≤w.heap.size):BOwn w5 base B v' (l ++ [d]):=by
 obtain ⟨vss,h1,h2,h3,rfl⟩:=hx
 have keep:∀ b o,b<B→w5.cell? ⟨b,o,none⟩=w.cell? ⟨b,o,none⟩:=fun b o hlt=>cell_same (hg.block b (Nat.lt_of_lt_of_le hlt hw) (fun e=>by have:=(h2.lt b e.symm).1; omega)) o
 refine ⟨vss ++ [u],by simp [h1],?_,fun i a b=>?_⟩
 ·rw [List.flatten_append,List.length_append]
  simpa using hp
 ·by_cases hi:i<l.length
  ·rw [List.getElem_append_left hi,List.getElem_append_left (by omega)]
   exact (h3 i hi (by omega)).keep keep
  ·have hi':i=l.length:=by simp at a; omega
   subst hi'
   rw [List.getElem_append_right (by omega),List.getElem_append_right (by omega)]
   simp only [Nat.sub_self,h1,List.getElem_cons_zero]
   exact hd.keep keep
end Go.Proofs.YtlfpfkallgkjdaaGreat.Mx
end
