/- What a query needs. No program. -/
import Derived.Lib.SlicesS
import Derived.Maps.AppendAt
import Derived.Laws.EntriesVeiled
import Derived.Test.YtlfpfkallgkjdaaGreatQAlertBatchesRow11
import Derived.Test.YtlfpfkallgkjdaaGreatQAlertBatchesRow13
import Derived.Test.YtlfpfkallgkjdaaGreatQAlertBatchesRow21
import Derived.Test.YtlfpfkallgkjdaaGreatQAlertBatchesRow27
import Derived.Test.YtlfpfkallgkjdaaGreatQAlertBatchesRow10
import Derived.Test.YtlfpfkallgkjdaaGreatQAlertBatchesRow28
import Derived.Test.YtlfpfkallgkjdaaGreatQAlertBatchesRow2
import Derived.Test.YtlfpfkallgkjdaaGreatQAlertBatchesRow33
import Derived.Test.YtlfpfkallgkjdaaGreatQAlertBatchesRow34
import Derived.Test.YtlfpfkallgkjdaaGreatQAlertBatchesRow0
set_option linter.unusedSimpArgs false
set_option linter.unusedVariables false
set_option maxRecDepth 20000
section
namespace Go.Proofs.YtlfpfkallgkjdaaGreat.Qy
open Go.RowKit
def add1 (l:List ByteArray) (t:ByteArray):List ByteArray:=if Lib.containsS l t=true then l else l ++ [t]
def addL (l ts:List ByteArray):List ByteArray:=ts.foldl add1 l
theorem addL_nil (l:List ByteArray):addL l []=l:=rfl
theorem addL_one (l:List ByteArray) (t:ByteArray):addL l [t]=add1 l t:=rfl
theorem addL_append (l a b:List ByteArray):addL l (a ++ b)=addL (addL l a) b:=List.foldl_append
theorem addL_take (l ts:List ByteArray) (k:Nat) (h:k<ts.length):addL l (ts.take (k+1))=add1 (addL l (ts.take k)) ts[k]:=by
 rw [List.take_succ_eq_append_getElem h,addL_append]; rfl
theorem add1_len (l:List ByteArray) (t:ByteArray):(add1 l t).length≤l.length+1∧l.length≤(add1 l t).length:=by
 unfold add1; split <;> simp
theorem addL_len (ts:List ByteArray):∀ l,(addL l ts).length≤l.length+ts.length:=by
 induction ts with
 | nil=>intro l; simp [addL]
 | cons t r ih =>
  intro l
  have h1:=ih (add1 l t)
  have h2:=(add1_len l t).1
  have h3:addL l (t :: r)=addL (add1 l t) r:=rfl
  rw [h3,List.length_cons]
  omega
theorem mem_add1 (l:List ByteArray) (t x:ByteArray):x∈add1 l t↔x∈l∨x=t:=by
 unfold add1
 by_cases h:Lib.containsS l t=true
 ·rw [if_pos h]
  have:=(Lib.containsS_iff l t).1 h
  constructor
  ·exact .inl
  ·rintro (h | rfl) <;> assumption
 ·rw [if_neg h]; simp
theorem mem_addL (ts:List ByteArray):∀ l x,x∈addL l ts↔x∈l∨x∈ts:=by
 induction ts with
 | nil=>intro l x; simp [addL]
 | cons t r ih =>
  intro l x
  have h3:addL l (t :: r)=addL (add1 l t) r:=rfl
  rw [h3,ih,mem_add1,List.mem_cons,or_assoc]
def termL (nm w:ByteArray):List ByteArray:=if Tk.termOk nm w=true then [Tk.termV nm w] else []
def termsL (nm:ByteArray) (ws:List ByteArray):List ByteArray:=ws.flatMap (termL nm)
theorem termsL_take (nm:ByteArray) (ws:List ByteArray) (k:Nat) (h:k<ws.length):termsL nm (ws.take (k+1))=termsL nm (ws.take k) ++ termL nm ws[k]:=by
 unfold termsL
 rw [List.take_succ_eq_append_getElem h,List.flatMap_append]
 simp
theorem termL_len (nm w:ByteArray):(termL nm w).length≤1:=by unfold termL; split <;> simp
theorem termsL_len (nm:ByteArray):∀ ws,(termsL nm ws).length≤ws.length
 | []=>by simp [termsL]
 | w :: r=>by
  have h:=termsL_len nm r
  have h1:=termL_len nm w
  have h2:termsL nm (w :: r)=termL nm w ++ termsL nm r:=by simp [termsL]
  rw [h2,List.length_append,List.length_cons]
  omega
mutual
def needs:Q→List ByteArray
 | .mk k nm ws l=>if k=4∨(k=2∧ws.length=1) then addL [] (termsL nm ws) else if k=5 then needsIn [] l else []
def needsIn (acc:List ByteArray):List Q→List ByteArray
 | []=>acc
 | q :: l=>needsIn (addL acc (needs q)) l
end
theorem needsIn_eq:∀ (l:List Q) acc,needsIn acc l=l.foldl (fun a q=>addL a (needs q)) acc
 | [],acc=>by simp [needsIn]
 | q :: l,acc=>by rw [needsIn,needsIn_eq l]; rfl
theorem needsIn_take (l:List Q) (acc:List ByteArray) (k:Nat) (h:k<l.length):needsIn acc (l.take (k+1))=addL (needsIn acc (l.take k)) (needs l[k]):=by
 rw [needsIn_eq,needsIn_eq,List.take_succ_eq_append_getElem h,List.foldl_append]; rfl
theorem needs_eq (k:Int) (nm:ByteArray) (ws:List ByteArray) (l:List Q):needs (.mk k nm ws l)=if k=4∨(k=2∧ws.length=1) then addL [] (termsL nm ws) else if k=5 then needsIn [] l else []:=by rw [needs]
mutual
def wq:Q→Nat
 | .mk _ _ ws l=>1+ws.length+wqs l
def wqs:List Q→Nat
 | []=>0
 | q :: l=>wq q+wqs l
end
theorem wq_eq (k:Int) (nm:ByteArray) (ws:List ByteArray) (l:List Q):wq (.mk k nm ws l)=1+ws.length+wqs l:=by rw [wq]
theorem wqs_append:∀ a b,wqs (a ++ b)=wqs a+wqs b
 | [],b=>by simp [wqs]
 | q :: a,b=>by rw [List.cons_append,wqs,wqs,wqs_append a b]; omega
theorem wqs_take_le (l:List Q) (k:Nat):wqs (l.take k)≤wqs l:=by
 have h:=wqs_append (l.take k) (l.drop k)
 rw [List.take_append_drop] at h
 omega
theorem wqs_mem:∀ (l:List Q) (q:Q),q∈l→wq q≤wqs l
 | x :: l,q,h=>by
  rw [wqs]
  rcases List.mem_cons.1 h with rfl | h
  ·omega
  ·have:=wqs_mem l q h
   omega
theorem wqs_pos:∀ (l:List Q),l.length≤wqs l
 | []=>by simp [wqs]
 | .mk k nm ws r :: l=>by
  have:=wqs_pos l
  rw [wqs,wq,List.length_cons]
  omega
theorem needsIn_len:∀ (l:List Q) (acc:List ByteArray),(∀ q∈l,(needs q).length≤wq q)→(needsIn acc l).length≤acc.length+wqs l
 | [],acc,_=>by simp [needsIn,wqs]
 | q :: l,acc,h=>by
  have h1:=needsIn_len l (addL acc (needs q)) (fun x hx=>h x (List.mem_cons_of_mem _ hx))
  have h2:=addL_len (needs q) acc
  have h3:=h q (by simp)
  rw [needsIn,wqs]
  omega
theorem needs_len:∀ q,(needs q).length≤wq q:=by
 refine Q.ind (fun k nm ws l ih=>?_)
 rw [needs_eq,wq_eq]
 split
 ·have h1:=addL_len (termsL nm ws) []
  have h2:=termsL_len nm ws
  simp only [List.length_nil] at h1
  omega
 ·split
  ·have h1:=needsIn_len l [] ih
   simp only [List.length_nil] at h1
   omega
  ·simp
end Go.Proofs.YtlfpfkallgkjdaaGreat.Qy
end

section
namespace Go.Proofs.YtlfpfkallgkjdaaGreat.Qy
open Go.RowKit Ut Tk
def bsv (l:List ByteArray):List Value:=l.map Value.string
theorem bsv_snoc (l:List ByteArray) (x:ByteArray):bsv (l ++ [x])=bsv l ++ [.string x]:=by simp [bsv]
theorem contains_own {w:World} {base:Nat} {v:Value} {l:List ByteArray} (x:ByteArray) (h:w.ownsRow base 9 1 v l.length (bsv l)) (hl:l.length≤4194304) :
  Calls Tryz.prog 68 #[v,.string x] w fun e w'=>e=.returned (.bool (Lib.containsS l x))∧w'=w:=by
 rcases h.2 with ⟨rfl,h0⟩ | ⟨g,cap,cur,rfl,_⟩
 ·have:l=[]:=List.length_eq_zero_iff.1 h0
  subst this
  exact Tryz.slices_Contains_string_empty none 0 x w
 ·have hc:=Tryz.slices_Contains_string g 0 l.length cap l x w (zG _) (by omega) (fun j hj=>by
   have h1:=h.cells (g:=g) rfl j (.string (l.getD j ByteArray.empty)) (by unfold bsv; rw [List.getElem?_map,List.getD_eq_getElem?_getD,List.getElem?_eq_getElem hj]; rfl)
   have hadd:(⟨g,0,none⟩:Addr).add j=⟨g,0+j,none⟩:=by unfold Addr.add; split <;> simp_all
   rw [hadd] at h1
   exact h1)
  rw [List.take_length] at hc
  exact hc
structure Nd (w:World) (g:Nat) (v:Value) (l:List ByteArray):Prop where
 box:Blk w g 49 #[v]
 own:w.ownsRow (g+1) 9 1 v l.length (bsv l)
theorem Nd.below {w w':World} {g:Nat} {v:Value} {l:List ByteArray} (h:Nd w g v l) (hb:Below w.heap.size w w'):Nd w' g v l :=
 ⟨h.box.below hb h.box.lt,h.own.kept (grow_of_below hb none) (by cases hv:v.ownBlock <;> simp)⟩
structure Mo (w:World) (g:Nat) (v:Value) (S:Option Addr) (ts:List ByteArray):Prop where
 at_ : 0<ts.length→∃ b o,S=some ⟨b,o,none⟩∧b<w.heap.size∧b≠g∧v.ownBlock≠some b∧∀ j (h:j<ts.length),w.cell? ⟨b,o+j,none⟩=some (.string ts[j])
set_option maxHeartbeats 1600000 in
theorem add_any (g:Nat) (v:Value) (old:List ByteArray) (S:Option Addr) (n c:Nat) (ts:List ByteArray) (w:World) (hN:Nd w g v old) (hM:Mo w g v S ts) (hn:ts.length=n) (hbig:old.length+n≤4194304) :
  Calls Tryz.prog 67 #[.slice S n c,.pointer (some ⟨g,0,none⟩)] w fun e w'=>e=.returned (.tuple #[])∧∃ v',Nd w' g v' (addL old ts)∧Below g w w':=by
 obtain ⟨i0,hi0,hz0,hz1,hz2⟩:=info_parts str_info
 have HN:=zh hN
 have HM:=zh hM
 have Hn:=zh hn
 clear hN hM hn
 go_enter Tryz.func67,Tryz.ntmps67
 go_wp2
 go_loopw [7] (fun i wr=>∃ (k:Nat) (u:Value),k≤n∧i=.int .i64 k∧Nd wr g u (addL old (ts.take k))∧Mo wr g u S ts∧Below g w wr) (fun i _=>n - (intOf i).toNat)
 case atStart=>exact ⟨0,v,Nat.zero_le _,rfl,HN.out,HM.out,Below.refl _ _⟩
 case round =>
  obtain ⟨k,u,hk,rfl,hN,hM,hb⟩:=hrel
  have HN:=zh hN
  have HM:=zh hM
  have Hb:=zh hb
  by_cases hlt:k<n
  ·have hkl:k<ts.length:=by rw [Hn.out]; exact hlt
   obtain ⟨b,o,rfl,hbl,hbg,hub,hc⟩:=hM.at_ (by omega)
   have hck:=hc k hkl
   have hts:=addL_take old ts k hkl
   have hll:(addL old (ts.take k)).length≤4194304 - 1:=by
    have h1:=addL_len (ts.take k) old
    rw [List.length_take] at h1
    omega
   have Hts:=zh hts
   have Hc:=zh hc
   clear hts hc hM hb
   generalize addL old (ts.take k)=l at *
   generalize ts[k]=x at *
   have hbx:=hN.box.cell 0
   simp at hbx
   have cc:=contains_own x hN.own (by omega)
   by_cases hin:Lib.containsS l x=true
   ·rw [hin] at cc
    have hl1:add1 l x=l:=by unfold add1; rw [if_pos hin]
    rw [hl1] at Hts
    clear hN hin hl1
    go_wp2_with (go_at_call 68; refine cc.mono ?_; rintro e wx ⟨rfl,hwx⟩; subst wx)
    go_roundw
    case rel=>exact ⟨k+1,u,by omega,by go_num,by rw [Hts.out]; exact HN.out,HM.out,Hb.out⟩
    case measure=>simp [intOf]; omega
   ·have hin':Lib.containsS l x=false:=by simpa using hin
    rw [hin'] at cc
    have hl1:add1 l x=l ++ [x]:=by unfold add1; rw [if_neg hin]
    rw [hl1] at Hts
    have hgl:=hN.box.lt
    have hbf:=hN.box.frozen 0
    have hown:=hN.own
    have hbxa:=fun o'=>(World.cell?_alloc_lt wr o' ⟨g,0,none⟩ hgl).trans hbx
    clear hN hin hl1 hin'
    go_wp2_with (first
     | (go_at_call 68; refine cc.mono ?_; rintro e wx ⟨rfl,hwx⟩; subst wx)
     | (at_builtin; go_loud (refine wpList_append_own_at _ rfl _ _ 49 rfl (g+1) 9 i0 _ 1 16 Tryz.underlying49 hi0 hz0 hz1 hz2 rfl (by decide) _ _ _ rfl (hown.alloc _) ⟨wr.heap.size,0,none⟩ 1 1 [.string x] rfl rfl ?d1 ?d2 ?d3 ?d4 ?d5 ?_)))
    case d1=>exact World.news_of_block (cs:=#[.string x]) (t:=9) (fr:=(0,0)) (heap_alloc_new wr _)
    case d2=>intro y hy; simp at hy; subst hy; rfl
    case d3=>unfold maxLen; omega
    case d4=>omega
    case d5=>simp; omega
    intro v' w5 hown5 hg5 _ hat
    obtain ⟨g5,q5,rfl⟩:=own_succ hown5
    have g5lt:=(hown5.lt g5 rfl).1
    have hB5:=(HN.out.box.alloc (.cells #[.string x] 9)).grown hg5 (fun e=>by have:=(hown.lt _ e.symm).1; omega)
    have hb50:=hB5.cell 0
    have hbf5:=hB5.frozen 0
    simp at hb50
    have hbl2:b≠wr.heap.size+1:=by omega
    have hg5b:g5≠b:=by
     rintro rfl
     rcases hat with h | h
     ·exact hub h.symm
     ·simp [Value.ownBlock] at h
      omega
    have hcell:∀ j (h:j<ts.length),w5.cell? ⟨b,o+j,none⟩=some (.string ts[j]):=fun j h =>
     hg5.cell ((World.cell?_alloc_lt wr _ ⟨b,o+j,none⟩ hbl).trans (Hc.out j h)) (fun e=>hub e.symm)
    have hz5:=hg5.size
    have hb5:Below g w w5:=(Hb.out.alloc (by omega) (.cells #[.string x] 9)).grown hg5 (by simp; omega) (fun e he=>by have:=(hown.lt _ he).1; omega)
    have hgs:=grownBy_setC w5 g 0 (.slice (some ⟨g5,0,none⟩) (l.length+1) q5)
    have Fin:Hid (Nd (w5.setCell ⟨g,0,none⟩ (.slice (some ⟨g5,0,none⟩) (l.length+1) q5)) g (.slice (some ⟨g5,0,none⟩) (l.length+1) q5) (l ++ [x])):=zh
     ⟨hB5.set_ 0 _,by
      rw [List.length_append,bsv_snoc]
      exact hown5.kept hgs (.inr (by simp [Value.ownBlock]; omega))⟩
    have Fin2:Hid (Mo (w5.setCell ⟨g,0,none⟩ (.slice (some ⟨g5,0,none⟩) (l.length+1) q5)) g (.slice (some ⟨g5,0,none⟩) (l.length+1) q5) (some ⟨b,o,none⟩) ts):=zh
     ⟨fun _=>⟨b,o,rfl,by simp [World.setCell] at hz5 ⊢; omega,hbg,by simp [Value.ownBlock]; exact hg5b,fun j h=>hgs.cell (hcell j h) (fun e=>hbg (Option.some.inj e))⟩⟩
    have Fin3:=zh (hb5.setCell (p:=⟨g,0,none⟩) (zG _) (.slice (some ⟨g5,0,none⟩) (l.length+1) q5))
    clear hb5 hcell hB5 hown5 hg5 hown hgs hbxa hg5b hbl2
    go_wp2
    go_roundw
    case rel=>exact ⟨k+1,_,by omega,by go_num,by rw [Hts.out]; exact Fin.out,Fin2.out,Fin3.out⟩
    case measure=>simp [intOf]; omega
  ·obtain rfl:k=n:=by omega
   have htk:ts.take k=ts:=List.take_of_length_le (by rw [Hn.out]; exact zG _)
   rw [htk] at HN
   clear hN hM hb htk
   go_wp2
   first | go_ret | go_end0
   exact ⟨rfl,u,HN.out,Hb.out⟩
end Go.Proofs.YtlfpfkallgkjdaaGreat.Qy
end

section
namespace Go.Proofs.YtlfpfkallgkjdaaGreat.Qy
open Go.RowKit Ut Tk
inductive QTx (b:Nat):Q→Prop where
 | mk {k:Int} {nm:ByteArray} {ws:List ByteArray} {l:List Q} (h1:nm.size≤b) (h2:∀ x∈ws,x.size≤b) (h3:∀ x∈l,QTx b x):QTx b (.mk k nm ws l)
def BsPost (w:World) (l:List ByteArray) (e:Ending) (w':World):Prop:=∃ v,e=.returned v∧w'.ownsRow w.heap.size 9 1 v l.length (bsv l)∧Below w.heap.size w w'
def NeedOk (q:Q):Prop:=∀ (w:World) (a0 a1 a2 a3:Value),QAt w w.heap.size q [a0,a1,a2,a3]→wq q≤1048576 →
 Calls Tryz.prog 36 #[.agg #[a0,a1,a2,a3]] w (BsPost w (needs q))
theorem cloneS_any (s:ByteArray) (w:World) (hs:s.size≤281474976710656):Calls Tryz.prog 70 #[.string s] w fun e w'=>e=.returned (.string s)∧Below w.heap.size w w':=by
 have c1:=Tryz.stringslite_Clone s w hs
 go_enter Tryz.func70,Tryz.ntmps70
 go_wp2_with (go_at_call 106; refine c1.mono ?_; rintro e w2 ⟨rfl,hb2⟩)
 go_ret
 exact ⟨rfl,hb2⟩
theorem mo_one {w:World} {g:Nat} {v:Value} {l:List ByteArray} (h:Nd w g v l) (t:ByteArray):Mo (w.alloc (.cells #[.string t] 9)) g v (some ⟨w.heap.size,0,none⟩) [t]:=by
 refine ⟨fun _=>⟨_,0,rfl,by simp,by have:=h.box.lt; omega,fun e=>by have:=(h.own.lt _ e).2; omega,fun j hj=>?_⟩⟩
 obtain rfl:j=0:=by simp at hj; omega
 exact (Blk.new w 9 #[.string t]).cell 0
theorem mo_made {w w':World} {g:Nat} {v u:Value} {l ts:List ByteArray} (h:Nd w g v l) (hr:w'.ownsRow w.heap.size 9 1 u ts.length (bsv ts)):∃ A c,u=.slice A ts.length c∧Mo w' g v A ts:=by
 obtain ⟨A,c,rfl,_⟩:=own_shape hr
 refine ⟨A,c,rfl,⟨fun hp=>?_⟩⟩
 obtain ⟨m,hm⟩:∃ m,ts.length=m+1:=⟨ts.length - 1,by omega⟩
 have hr':=hr
 rw [hm] at hr'
 obtain ⟨gs,q,e⟩:=own_succ hr'
 injection e with e
 subst e
 have hl:=hr.lt gs rfl
 refine ⟨gs,0,rfl,hl.2,by have:=h.box.lt; omega,fun e=>by have:=(h.own.lt _ e).2; omega,fun j hj=>?_⟩
 have h1:=hr.cells (g:=gs) rfl j (.string ts[j]) (by unfold bsv; rw [List.getElem?_map,List.getElem?_eq_getElem hj]; rfl)
 have hadd:(⟨gs,0,none⟩:Addr).add j=⟨gs,0+j,none⟩:=by unfold Addr.add; split <;> simp_all
 rw [hadd] at h1
 exact h1
set_option maxHeartbeats 3200000 in
theorem needs_step (k:Int) (nm:ByteArray) (ws:List ByteArray) (l:List Q) (htx:QTx 140737488351232 (.mk k nm ws l)) (ih:∀ x∈l,NeedOk x):NeedOk (.mk k nm ws l):=by
 intro w a0 a1 a2 a3 hQ hwq
 obtain ⟨WA,m,wc,CA,n,c2,e,_⟩:=hQ.is
 simp only [List.cons.injEq,and_true] at e
 obtain ⟨rfl,rfl,rfl,rfl⟩:=e
 have hb1:Below w.heap.size w (w.alloc (.cells #[.int .i64 k,.string nm,.slice WA m wc,.slice CA n c2] 52)):=(Below.refl _ _).alloc (zG _) _
 have hb2:Below w.heap.size w ((w.alloc (.cells #[.int .i64 k,.string nm,.slice WA m wc,.slice CA n c2] 52)).alloc (.cells #[.slice none 0 0] 49)):=hb1.alloc hb1.size _
 have z1:(w.alloc (.cells #[.int .i64 k,.string nm,.slice WA m wc,.slice CA n c2] 52)).heap.size=w.heap.size+1:=by simp
 have hB1:=(Blk.new w 52 #[.int .i64 k,.string nm,.slice WA m wc,.slice CA n c2]).alloc (.cells #[.slice none 0 0] 49)
 have hB2:=Blk.new (w.alloc (.cells #[.int .i64 k,.string nm,.slice WA m wc,.slice CA n c2] 52)) 49 #[.slice none 0 0]
 rw [z1] at hB2
 have hQ2:=hQ.lower hb2
 obtain ⟨WA',m',wc',CA',n',c2',e,hI⟩:=hQ2.is
 simp only [List.cons.injEq,Value.slice.injEq,and_true,true_and] at e
 obtain ⟨⟨rfl,rfl,rfl⟩,rfl,rfl,rfl⟩:=e
 have hN2:Nd ((w.alloc (.cells #[.int .i64 k,.string nm,.slice WA m wc,.slice CA n c2] 52)).alloc (.cells #[.slice none 0 0] 49)) (w.heap.size+1) (.slice none 0 0) []:=⟨hB2,World.ownsRow_nil _ _ _ _⟩
 have hz2:((w.alloc (.cells #[.int .i64 k,.string nm,.slice WA m wc,.slice CA n c2] 52)).alloc (.cells #[.slice none 0 0] 49)).heap.size=w.heap.size+1+1:=by simp
 rw [wq_eq] at hwq
 have hwl:=wqs_pos l
 cases htx with
 | mk t1 t2 t3 =>
 have HB1:=zh hB1
 have Hb2:=zh hb2
 have HI:=zh hI
 have HN2:=zh hN2
 have T2:=zh t2
 have IH:=zh ih
 have close:∀ (l':List ByteArray) (v:Value) (w':World),Nd w' (w.heap.size+1) v l'→Below (w.heap.size+1) ((w.alloc (.cells #[.int .i64 k,.string nm,.slice WA m wc,.slice CA n c2] 52)).alloc (.cells #[.slice none 0 0] 49)) w'→BsPost w l' (.returned v) w':=fun l' v w' h hb =>
  ⟨v,rfl,h.own.mono (by omega),Hb2.out.trans (hb.mono (by omega))⟩
 have Close:=zh close
 clear hQ hb1 hb2 z1 hB1 hB2 hQ2 hI hN2 t2 t3 ih close
 have hbx:=fun (w':World) (v:Value) (l':List ByteArray) (h:Nd w' (w.heap.size+1) v l')=>h.box.cell 0
 by_cases k24:k=4∨(k=2∧ws.length=1)
 ·have Fin:Hid (needs (.mk k nm ws l)=addL [] (termsL nm ws)):=zh (by rw [needs_eq,if_pos k24])
  rw [Fin.out]
  clear hbx Fin
  rcases k24 with rfl | ⟨rfl,h1⟩
  ·have hkk:(0:Nat)=0:=rfl
   go_enter Tryz.func36,Tryz.ntmps36
   go_wp2_with fail
   generalize hw0:((w.alloc (.cells #[.int .i64 4,.string nm,.slice WA m wc,.slice CA n c2] 52)).alloc (.cells #[.slice none 0 0] 49))=w0 at *
   clear hw0
   go_loopw [27] (fun i wr=>∃ (j:Nat) (v:Value),j≤m∧i=.int .i64 j∧Nd wr (w.heap.size+1) v (addL [] (termsL nm (ws.take j)))∧Below (w.heap.size+1) w0 wr) (fun i _=>m - (intOf i).toNat)
   case atStart=>exact ⟨0,_,Nat.zero_le _,rfl,HN2.out,Below.refl _ _⟩
   case round =>
    obtain ⟨j,v,hj,rfl,hN,hb⟩:=hrel
    have HN:=zh hN
    have Hb:=zh hb
    by_cases hlt:j<m
    ·have hjl:j<ws.length:=by rw [HI.out.wn]; exact hlt
     have hts:=termsL_take nm ws j hjl
     have hll:(addL [] (termsL nm (ws.take j))).length≤1048576:=by
      have h1:=addL_len (termsL nm (ws.take j)) []
      have h2:=termsL_len nm (ws.take j)
      rw [List.length_take] at h2
      simp only [List.length_nil] at h1
      omega
     have hsx:=T2.out _ (List.getElem_mem hjl)
     obtain ⟨tb,tq,rfl,htb,hc⟩:=HI.out.wds.2 (by omega)
     have hcj:=hc j (.string ws[j]) (by rw [List.getElem?_map,List.getElem?_eq_getElem hjl]; rfl)
     have hd:=(hb.cell (p:=⟨tb,tq+j,none⟩) (by show tb < _; omega)).trans hcj
     have hnm:=(hb.cell (p:=⟨w.heap.size,1,none⟩) (by show w.heap.size < _; omega)).trans (HB1.out.cell 1)
     have hbz:=hb.size
     simp at hnm
     have Hts:=zh (show addL [] (termsL nm (ws.take (j+1)))=addL (addL [] (termsL nm (ws.take j))) (termL nm ws[j]) by rw [hts,addL_append])
     clear hts hN hb hc hcj
     generalize addL [] (termsL nm (ws.take j))=l at *
     generalize ws[j]=x at *
     by_cases hok:termOk nm x=true
     ·have c1:=term_yesB nm x wr t1 hsx hok
      have htl:termL nm x=[termV nm x]:=by unfold termL; rw [if_pos hok]
      have hsz:(termV nm x).size≤281474976710656:=by
       have e:=congrArg List.length (str_data (term nm.data.toList x.data.toList))
       rw [bsize] at e
       show (str (term nm.data.toList x.data.toList)).size≤_
       rw [e]
       unfold term
       simp only [List.length_append,List.length_cons,List.length_nil,bsize]
       omega
      rw [htl] at Hts
      have c2:=fun wx=>cloneS_any (termV nm x) wx hsz
      have C2:=zh c2
      clear htl hok hsz c2
      generalize termV nm x=t at *
      go_wp2_with (first | (go_at_call 69; refine c1.mono ?_; rintro e wa ⟨rfl,hba⟩) | (go_at_call 70; refine (C2.out _).mono ?_; rintro e wb ⟨rfl,hbb⟩))
      have hNb:=(HN.out.below hba).below hbb
      have hM:=mo_one hNb t
      have hNc:=hNb.below ((Below.refl _ _).alloc (zG _) (.cells #[.string t] 9))
      have hbc:Below (w.heap.size+1) w0 (wb.alloc (.cells #[.string t] 9)):=((Hb.out.trans (hba.mono (by omega))).trans (hbb.mono (by have:=hba.size; omega))).alloc (by have:=hba.size; have:=hbb.size; omega) _
      refine (add_any (w.heap.size+1) v l _ 1 1 [t] _ hNc hM rfl (by omega)).mono ?_
      rintro e wd ⟨rfl,v',hN',hb'⟩
      rw [addL_one] at hN'
      have Fin2:=zh (Hts.out ▸ hN':Nd wd (w.heap.size+1) v' (addL [] (termsL nm (ws.take (j+1)))))
      have Fin3:=zh (hbc.trans hb')
      clear hNb hM hNc hbc hN' hb' hba hbb c1 C2
      go_wp2
      go_roundw
      case rel=>exact ⟨j+1,v',by omega,by go_num,Fin2.out,Fin3.out⟩
      case measure=>simp [intOf]; omega
     ·have hok':termOk nm x=false:=by simpa using hok
      have c1:=term_noB nm x wr t1 hsx hok'
      have htl:termL nm x=[]:=by unfold termL; rw [if_neg hok]
      rw [htl,addL_nil] at Hts
      clear htl hok hok'
      go_wp2_with (go_at_call 69; refine c1.mono ?_; rintro e wa ⟨rfl,hba⟩)
      have Fin2:=zh (HN.out.below hba)
      have Fin3:=zh (Hb.out.trans (hba.mono (by omega)))
      clear c1 hba
      go_roundw
      case rel=>exact ⟨j+1,v,by omega,by go_num,by rw [Hts.out]; exact Fin2.out,Fin3.out⟩
      case measure=>simp [intOf]; omega
    ·obtain rfl:j=m:=by omega
     rw [List.take_of_length_le (by rw [HI.out.wn]; exact zG _)] at HN
     have h0:=HN.out.box.cell 0
     simp at h0
     clear hN hb
     go_wp2
     go_ret
     exact Close.out _ _ _ HN.out Hb.out
  ·have hkk:(0:Nat)=0:=rfl
   have hm:((m:Int) != 1)=false:=by
    rw [bne_eq_false_iff_eq]
    have:=HI.out.wn
    omega
   go_enter Tryz.func36,Tryz.ntmps36
   go_wp2_with fail
   generalize hw0:((w.alloc (.cells #[.int .i64 2,.string nm,.slice WA m wc,.slice CA n c2] 52)).alloc (.cells #[.slice none 0 0] 49))=w0 at *
   clear hw0
   go_loopw [27] (fun i wr=>∃ (j:Nat) (v:Value),j≤m∧i=.int .i64 j∧Nd wr (w.heap.size+1) v (addL [] (termsL nm (ws.take j)))∧Below (w.heap.size+1) w0 wr) (fun i _=>m - (intOf i).toNat)
   case atStart=>exact ⟨0,_,Nat.zero_le _,rfl,HN2.out,Below.refl _ _⟩
   case round =>
    obtain ⟨j,v,hj,rfl,hN,hb⟩:=hrel
    have HN:=zh hN
    have Hb:=zh hb
    by_cases hlt:j<m
    ·have hjl:j<ws.length:=by rw [HI.out.wn]; exact hlt
     have hts:=termsL_take nm ws j hjl
     have hll:(addL [] (termsL nm (ws.take j))).length≤1048576:=by
      have h1:=addL_len (termsL nm (ws.take j)) []
      have h2:=termsL_len nm (ws.take j)
      rw [List.length_take] at h2
      simp only [List.length_nil] at h1
      omega
     have hsx:=T2.out _ (List.getElem_mem hjl)
     obtain ⟨tb,tq,rfl,htb,hc⟩:=HI.out.wds.2 (by omega)
     have hcj:=hc j (.string ws[j]) (by rw [List.getElem?_map,List.getElem?_eq_getElem hjl]; rfl)
     have hd:=(hb.cell (p:=⟨tb,tq+j,none⟩) (by show tb < _; omega)).trans hcj
     have hnm:=(hb.cell (p:=⟨w.heap.size,1,none⟩) (by show w.heap.size < _; omega)).trans (HB1.out.cell 1)
     have hbz:=hb.size
     simp at hnm
     have Hts:=zh (show addL [] (termsL nm (ws.take (j+1)))=addL (addL [] (termsL nm (ws.take j))) (termL nm ws[j]) by rw [hts,addL_append])
     clear hts hN hb hc hcj
     generalize addL [] (termsL nm (ws.take j))=l at *
     generalize ws[j]=x at *
     by_cases hok:termOk nm x=true
     ·have c1:=term_yesB nm x wr t1 hsx hok
      have htl:termL nm x=[termV nm x]:=by unfold termL; rw [if_pos hok]
      have hsz:(termV nm x).size≤281474976710656:=by
       have e:=congrArg List.length (str_data (term nm.data.toList x.data.toList))
       rw [bsize] at e
       show (str (term nm.data.toList x.data.toList)).size≤_
       rw [e]
       unfold term
       simp only [List.length_append,List.length_cons,List.length_nil,bsize]
       omega
      rw [htl] at Hts
      have c2:=fun wx=>cloneS_any (termV nm x) wx hsz
      have C2:=zh c2
      clear htl hok hsz c2
      generalize termV nm x=t at *
      go_wp2_with (first | (go_at_call 69; refine c1.mono ?_; rintro e wa ⟨rfl,hba⟩) | (go_at_call 70; refine (C2.out _).mono ?_; rintro e wb ⟨rfl,hbb⟩))
      have hNb:=(HN.out.below hba).below hbb
      have hM:=mo_one hNb t
      have hNc:=hNb.below ((Below.refl _ _).alloc (zG _) (.cells #[.string t] 9))
      have hbc:Below (w.heap.size+1) w0 (wb.alloc (.cells #[.string t] 9)):=((Hb.out.trans (hba.mono (by omega))).trans (hbb.mono (by have:=hba.size; omega))).alloc (by have:=hba.size; have:=hbb.size; omega) _
      refine (add_any (w.heap.size+1) v l _ 1 1 [t] _ hNc hM rfl (by omega)).mono ?_
      rintro e wd ⟨rfl,v',hN',hb'⟩
      rw [addL_one] at hN'
      have Fin2:=zh (Hts.out ▸ hN':Nd wd (w.heap.size+1) v' (addL [] (termsL nm (ws.take (j+1)))))
      have Fin3:=zh (hbc.trans hb')
      clear hNb hM hNc hbc hN' hb' hba hbb c1 C2
      go_wp2
      go_roundw
      case rel=>exact ⟨j+1,v',by omega,by go_num,Fin2.out,Fin3.out⟩
      case measure=>simp [intOf]; omega
     ·have hok':termOk nm x=false:=by simpa using hok
      have c1:=term_noB nm x wr t1 hsx hok'
      have htl:termL nm x=[]:=by unfold termL; rw [if_neg hok]
      rw [htl,addL_nil] at Hts
      clear htl hok hok'
      go_wp2_with (go_at_call 69; refine c1.mono ?_; rintro e wa ⟨rfl,hba⟩)
      have Fin2:=zh (HN.out.below hba)
      have Fin3:=zh (Hb.out.trans (hba.mono (by omega)))
      clear c1 hba
      go_roundw
      case rel=>exact ⟨j+1,v,by omega,by go_num,by rw [Hts.out]; exact Fin2.out,Fin3.out⟩
      case measure=>simp [intOf]; omega
    ·obtain rfl:j=m:=by omega
     rw [List.take_of_length_le (by rw [HI.out.wn]; exact zG _)] at HN
     have h0:=HN.out.box.cell 0
     simp at h0
     clear hN hb
     go_wp2
     go_ret
     exact Close.out _ _ _ HN.out Hb.out
 ·by_cases k5:k=5
  ·subst k5
   have Fin:Hid (needs (.mk 5 nm ws l)=needsIn [] l):=zh (by rw [needs_eq,if_neg k24,if_pos rfl])
   rw [Fin.out]
   clear hbx Fin k24
   go_enter Tryz.func36,Tryz.ntmps36
   go_wp2_with fail
   generalize hw0:((w.alloc (.cells #[.int .i64 5,.string nm,.slice WA m wc,.slice CA n c2] 52)).alloc (.cells #[.slice none 0 0] 49))=w0 at *
   clear hw0
   go_loopw [49] (fun i wr=>∃ (j:Nat) (v:Value),j≤n∧i=.int .i64 j∧Nd wr (w.heap.size+1) v (needsIn [] (l.take j))∧Below (w.heap.size+1) w0 wr) (fun i _=>n - (intOf i).toNat)
   case atStart=>exact ⟨0,_,Nat.zero_le _,rfl,HN2.out,Below.refl _ _⟩
   case round =>
    obtain ⟨j,v,hj,rfl,hN,hb⟩:=hrel
    have HN:=zh hN
    have Hb:=zh hb
    by_cases hlt:j<n
    ·have hjl:j<l.length:=by rw [HI.out.lm]; exact hlt
     have hts:=needsIn_take l [] j hjl
     have hll:(needsIn [] (l.take j)).length≤1048576:=by
      have h1:=needsIn_len (l.take j) [] (fun q _=>needs_len q)
      have h2:=wqs_take_le l j
      simp only [List.length_nil] at h1
      omega
     have hwj:=wqs_mem l _ (List.getElem_mem hjl)
     have hnj:=needs_len l[j]
     have hbz:=hb.size
     obtain ⟨tb,tq,A',n',c',C',m',d',rfl,htb,hq,hc0,hc1,hc2,hc3⟩:=HI.out.at_ hjl
     have htb':tb<w.heap.size+1:=by omega
     have hd0:=(hb.cell (p:=⟨tb,tq+j * 4,none⟩) htb').trans hc0
     have hd1:=(hb.cell (p:=⟨tb,tq+j * 4+1,none⟩) htb').trans hc1
     have hd2:=(hb.cell (p:=⟨tb,tq+j * 4+2,none⟩) htb').trans hc2
     have hd3:=(hb.cell (p:=⟨tb,tq+j * 4+3,none⟩) htb').trans hc3
     have hqr:=(hq.keep fun b o hp=>hb.cell (p:=⟨b,o,none⟩) (by show b < _; omega)).more (show w.heap.size≤wr.heap.size by omega)
     have hIj:=IH.out _ (List.getElem_mem hjl)
     have Hts:=zh hts
     have hx0:(l[j]).kind=(l[j]).kind:=rfl
     clear hts hN hb hc0 hc1 hc2 hc3 hq
     generalize needsIn [] (l.take j)=ol at *
     generalize l[j]=x at *
     generalize x.kind=x0 at *
     generalize x.name=x1 at *
     have hal:Below wr.heap.size wr (wr.alloc (.cells #[.int .i64 x0,.string x1,.slice A' n' c',.slice C' m' d'] 52)):=(Below.refl _ _).alloc (zG _) _
     have c1:=hIj _ _ _ _ _ (hqr.grow hal) (by omega)
     have HNa:=zh (HN.out.below hal)
     have hbc:=zh (Hb.out.alloc (by omega) (.cells #[.int .i64 x0,.string x1,.slice A' n' c',.slice C' m' d'] 52))
     clear hqr hal hx0 hIj
     go_wp2_with fail
     refine c1.mono ?_
     rintro e wa ⟨u,rfl,hown,hba⟩
     obtain ⟨A,c,rfl,hM⟩:=mo_made HNa.out hown
     have hNb:=HNa.out.below hba
     have hbd:=hbc.out.trans (hba.mono (by simp; omega))
     clear hown c1
     go_wp2_with fail
     refine (add_any (w.heap.size+1) v ol A _ c (needs x) _ hNb hM rfl (by omega)).mono ?_
     rintro e wd ⟨rfl,v',hN',hb'⟩
     have Fin2:=zh (Hts.out ▸ hN':Nd wd (w.heap.size+1) v' (needsIn [] (l.take (j+1))))
     have Fin3:=zh (hbd.trans hb')
     clear hNb hM hbd hN' hb' hba
     go_wp2
     go_roundw
     case rel=>exact ⟨j+1,v',by omega,by go_num,Fin2.out,Fin3.out⟩
     case measure=>simp [intOf]; omega
    ·obtain rfl:j=n:=by omega
     rw [List.take_of_length_le (by rw [HI.out.lm]; exact zG _)] at HN
     have h0:=HN.out.box.cell 0
     simp at h0
     clear hN hb
     go_wp2
     go_ret
     exact Close.out _ _ _ HN.out Hb.out
  ·have Fin:Hid (needs (.mk k nm ws l)=[]):=zh (by rw [needs_eq,if_neg k24,if_neg k5])
   rw [Fin.out]
   have h0:=hbx _ _ _ HN2.out
   simp at h0
   have hk4:k≠4:=fun e=>k24 (.inl e)
   have hk5:(k == 5)=false:=beq_eq_false_iff_ne.2 k5
   have hk4':(k == 4)=false:=beq_eq_false_iff_ne.2 hk4
   by_cases k2:k=2
   ·subst k2
    have hm:((m:Int) != 1)=true:=by
     rw [bne_iff_ne]
     intro e
     have:=HI.out.wn
     exact k24 (.inr ⟨rfl,by omega⟩)
    clear k24 hk4 k5 hbx
    go_enter Tryz.func36,Tryz.ntmps36
    go_wp2
    go_ret
    exact Close.out _ _ _ HN2.out (Below.refl _ _)
   ·have hk2:(k == 2)=false:=beq_eq_false_iff_ne.2 k2
    clear k24 hk4 k5 hbx
    go_enter Tryz.func36,Tryz.ntmps36
    go_wp2
    go_ret
    exact Close.out _ _ _ HN2.out (Below.refl _ _)
theorem needs_any:∀ q,QTx 140737488351232 q→NeedOk q:=by
 refine Q.ind (p:=fun q=>QTx 140737488351232 q→NeedOk q) (fun k nm ws l ih h=>?_)
 refine needs_step k nm ws l h (fun x hx=>ih x hx ?_)
 cases h with
 | mk h1 h2 h3=>exact h3 x hx
end Go.Proofs.YtlfpfkallgkjdaaGreat.Qy
end

section
namespace Go.Proofs.YtlfpfkallgkjdaaGreat.Mx
open Go.RowKit Ut Tk Qy Ev
abbrev Po:=Nat × List Nat
end Go.Proofs.YtlfpfkallgkjdaaGreat.Mx
end

section
namespace Go.Proofs.YtlfpfkallgkjdaaGreat.Mx
open Go.RowKit Ut Tk Qy Ev Qp Mv
abbrev Pr:=Nat × Value × List Nat
structure PosV (w:World) (x:Pr):Prop where
 ex:∃ P pc,x.2.1=.slice P x.2.2.length pc∧x.2.2.length≤pc∧ReadsS w (fun b=>Tg w 3 b) 1 P x.2.2.length (nC x.2.2)
 ne:x.2.2≠[]
 sz:x.2.2.length≤65536
theorem PosV.same {w w':World} {x:Pr} (h:PosV w x) (hk:∀ b,Tg w 3 b→w'.heap[b]?=w.heap[b]?):PosV w' x:=by
 obtain ⟨P,pc,h1,h2,h3⟩:=h.ex
 exact ⟨⟨P,pc,h1,h2,h3.same (fun b hb=>⟨hb.same (hk b hb),hk b hb⟩)⟩,h.ne,h.sz⟩
section
variable {w w':World} {n0 X M cn:Nat} {v:Value} {F:ByteArray→Option Value} {O O':Nat→Prop} {ds:List Dc} {sz lo hi:Int} {f:ByteArray→List Po}
end
end Go.Proofs.YtlfpfkallgkjdaaGreat.Mx
end
