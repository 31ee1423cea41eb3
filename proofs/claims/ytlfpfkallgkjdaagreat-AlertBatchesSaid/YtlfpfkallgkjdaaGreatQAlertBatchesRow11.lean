/- Plain facts on phrases, beginnings, and what a query matches. No program. -/
import Derived.Laws.AppendOwn
import Derived.Below
import Derived.Lib.Hide
import Derived.Test.YtlfpfkallgkjdaaGreatQAlertBatchesRow1
import Derived.Test.YtlfpfkallgkjdaaGreatQAlertBatchesRow9
section
namespace Go.Proofs.YtlfpfkallgkjdaaGreat.Qy
open Go.RowKit Ut
def stands (T:List (List UInt8)) (ws:List ByteArray) (i:Nat):Bool:=((T.drop i).take ws.length) == ws.map (fun s=>s.data.toList)
def phrTo (T:List (List UInt8)) (ws:List ByteArray) (k:Nat):List Nat:=(List.range k).filter (stands T ws)
def phr (T:List (List UInt8)) (ws:List ByteArray):List Nat:=if ws=[] then [] else phrTo T ws T.length
theorem phrTo_succ (T:List (List UInt8)) (ws:List ByteArray) (k:Nat):phrTo T ws (k+1)=phrTo T ws k ++ if stands T ws k then [k] else []:=by
 unfold phrTo
 rw [List.range_succ,List.filter_append]
 by_cases h:stands T ws k <;> simp [h]
theorem phrTo_len (T:List (List UInt8)) (ws:List ByteArray) (k:Nat):(phrTo T ws k).length≤k:=by
 have:=List.length_filter_le (stands T ws) (List.range k)
 rwa [List.length_range] at this
theorem stands_short (T:List (List UInt8)) (ws:List ByteArray) (i:Nat) (h:T.length - i<ws.length):stands T ws i=false:=by
 unfold stands
 rw [beq_eq_false_iff_ne]
 intro e
 have:=congrArg List.length e
 simp at this
 omega
theorem phrTo_short (T:List (List UInt8)) (ws:List ByteArray) (k:Nat) (h:T.length - k<ws.length):∀ j,k≤j→phrTo T ws j=phrTo T ws k:=by
 intro j hj
 induction j with
 | zero =>
  obtain rfl:k=0:=by omega
  rfl
 | succ j ih =>
  by_cases e:k=j+1
  ·rw [e]
  ·rw [phrTo_succ,stands_short T ws j (by omega),if_neg (by decide),List.append_nil]
   exact ih (by omega)
def standsTo (T:List (List UInt8)) (ws:List ByteArray) (i k:Nat):Bool:=((T.drop i).take k) == (ws.take k).map (fun s=>s.data.toList)
theorem standsTo_zero (T:List (List UInt8)) (ws:List ByteArray) (i:Nat):standsTo T ws i 0=true:=by simp [standsTo]
theorem standsTo_all (T:List (List UInt8)) (ws:List ByteArray) (i:Nat):standsTo T ws i ws.length=stands T ws i:=by unfold standsTo stands; rw [List.take_length]
theorem standsTo_succ (T:List (List UInt8)) (ws:List ByteArray) (i k:Nat) (h1:i+k<T.length) (h2:k<ws.length):standsTo T ws i (k+1)=(standsTo T ws i k && (T[i+k] == ws[k].data.toList)):=by
 unfold standsTo
 have e1:(T.drop i).take (k+1)=(T.drop i).take k ++ [T[i+k]]:=by
  rw [List.take_succ_eq_append_getElem (by simp; omega)]
  simp
 have e2:(ws.take (k+1)).map (fun s=>s.data.toList)=(ws.take k).map (fun s=>s.data.toList) ++ [ws[k].data.toList]:=by
  rw [List.take_succ_eq_append_getElem h2,List.map_append]; rfl
 have hl:((T.drop i).take k).length=((ws.take k).map (fun s=>s.data.toList)).length:=by simp; omega
 rw [e1,e2,Bool.eq_iff_iff]
 simp only [beq_iff_eq,Bool.and_eq_true]
 constructor
 ·intro e
  have:=List.append_inj e hl
  exact ⟨this.1,by simpa using this.2⟩
 ·rintro ⟨a,b⟩
  rw [a,b]
theorem standsTo_no (T:List (List UInt8)) (ws:List ByteArray) (i k:Nat) (hk:k≤ws.length) (h:standsTo T ws i k=false):stands T ws i=false:=by
 unfold standsTo stands at *
 rw [beq_eq_false_iff_ne] at *
 intro e
 apply h
 have:=congrArg (List.take k) e
 rw [List.take_take,Nat.min_eq_left hk] at this
 rw [this,List.map_take]
def begins (t:List UInt8) (p:ByteArray):Bool:=p.data.toList.isPrefixOf t
def leafT (k:Int) (ws:List ByteArray) (T:List (List UInt8)):Bool :=
 if k=3 then (match ws with | [p]=>T.any (begins · p) | _=>false)
 else if k=2 then decide (ws.length=1) && decide (0<(phr T ws).length)
 else decide (0<(phr T ws).length)
def leafB (k:Int) (nm:ByteArray) (ws:List ByteArray) (fs:List (ByteArray × ByteArray)):Bool:=fs.any fun f=>f.1.data.toList == nm.data.toList && leafT k ws (Tk.words f.2.data.toList)
mutual
def matchB (fs:List (ByteArray × ByteArray)):Q→Bool
 | .mk k nm ws l=>if k=1 then true else if k=2∨k=3∨k=4 then leafB k nm ws fs else if k=5 then matchAll fs l else if k=6 then matchSome fs l else if k=7 then matchNone fs l else false
def matchAll (fs:List (ByteArray × ByteArray)):List Q→Bool
 | []=>true
 | q :: l=>matchB fs q && matchAll fs l
def matchSome (fs:List (ByteArray × ByteArray)):List Q→Bool
 | []=>false
 | q :: l=>matchB fs q || matchSome fs l
def matchNone (fs:List (ByteArray × ByteArray)):List Q→Bool
 | [q]=>!matchB fs q
 | _=>false
end
theorem matchAll_eq (fs:List (ByteArray × ByteArray)):∀ l,matchAll fs l=l.all (matchB fs)
 | []=>by simp [matchAll]
 | q :: l=>by simp [matchAll,matchAll_eq fs l]
theorem matchSome_eq (fs:List (ByteArray × ByteArray)):∀ l,matchSome fs l=l.any (matchB fs)
 | []=>by simp [matchSome]
 | q :: l=>by simp [matchSome,matchSome_eq fs l]
theorem matchB_eq (fs:List (ByteArray × ByteArray)) (k:Int) (nm:ByteArray) (ws:List ByteArray) (l:List Q) :
  matchB fs (.mk k nm ws l)=if k=1 then true else if k=2∨k=3∨k=4 then leafB k nm ws fs else if k=5 then l.all (matchB fs) else if k=6 then l.any (matchB fs) else if k=7 then matchNone fs l else false:=by
 rw [matchB,matchAll_eq,matchSome_eq]
end Go.Proofs.YtlfpfkallgkjdaaGreat.Qy
end

section
namespace Go.Proofs.YtlfpfkallgkjdaaGreat.Qp
open Go.RowKit Qy
def ReadsS (w:World) (S:Nat→Prop) (size:Nat) (A:Option Addr) (n:Nat) (xs:List Value):Prop :=
 xs.length=n * size∧(0<n→∃ b o,A=some ⟨b,o,none⟩∧S b∧∀ j u,xs[j]?=some u→w.cell? ⟨b,o+j,none⟩=some u)
section
variable {w w':World} {S S':Nat→Prop} {size n:Nat} {A:Option Addr} {xs:List Value}
theorem ReadsS.keep (h:ReadsS w S size A n xs) (hk:∀ b o,S b→w'.cell? ⟨b,o,none⟩=w.cell? ⟨b,o,none⟩):ReadsS w' S size A n xs :=
 ⟨h.1,fun hn=>by
  obtain ⟨b,o,e,hb,hc⟩:=h.2 hn
  exact ⟨b,o,e,hb,fun j u hu=>(hk b _ hb).trans (hc j u hu)⟩⟩
theorem ReadsS.mono (h:ReadsS w S size A n xs) (hS:∀ b,S b→S' b):ReadsS w S' size A n xs :=
 ⟨h.1,fun hn=>by
  obtain ⟨b,o,e,hb,hc⟩:=h.2 hn
  exact ⟨b,o,e,hS b hb,hc⟩⟩
theorem ReadsS.reads {B:Nat} (h:ReadsS w S size A n xs) (hS:∀ b,S b→b<B):Reads w B size A n xs :=
 ⟨h.1,fun hn=>by
  obtain ⟨b,o,e,hb,hc⟩:=h.2 hn
  exact ⟨b,o,e,hS b hb,hc⟩⟩
theorem ReadsS.none_:ReadsS w S size A 0 []:=⟨by simp,fun h=>absurd h (by omega)⟩
theorem ReadsS.of_own {base:Nat} {e:TypeId} {c:Nat} (h:w.ownsRow base e size (.slice A n c) n xs):ReadsS w (fun b=>base≤b∧b<w.heap.size∧(Value.slice A n c).ownBlock=some b) size A n xs:=by
 refine ⟨h.1,fun hn=>?_⟩
 have hlt:=h.lt
 rcases h.2 with ⟨hv,h0⟩ | ⟨g,cap,cur,hv,_,hg,_⟩
 ·omega
 ·have hA:A=some ⟨g,0,none⟩:=by injection hv
  subst hA
  refine ⟨_,_,rfl,⟨(hlt g rfl).1,(hlt g rfl).2,rfl⟩,fun j u hu=>?_⟩
  have:=h.cells (g:=g) rfl j u hu
  have hadd:(⟨g,0,none⟩:Addr).add j=⟨g,j,none⟩:=by unfold Addr.add; split <;> simp_all
  rw [hadd] at this
  rw [Nat.zero_add]; exact this
end
end Go.Proofs.YtlfpfkallgkjdaaGreat.Qp
end

section
namespace Go.Proofs.YtlfpfkallgkjdaaGreat.Ut
open Go.RowKit
set_option linter.unusedSimpArgs false in
set_option maxHeartbeats 1600000 in
theorem word_ref (r:Int) (w:World):Calls Tryz.prog 136 #[.int .i64 r] w fun e w'=>e=.returned (.bool (isWord r))∧w=w':=by
 go_enter Tryz.func136,Tryz.ntmps136
 go_wp2
 all_goals
  go_ret
  refine ⟨congrArg (fun x=>Ending.returned (Value.bool x)) ?_,rfl⟩
  unfold isWord
  rw [Bool.eq_iff_iff]
  try simp only [bne_iff_ne,ne_eq,bne_eq_false_iff_eq] at *
  simp only [Bool.or_eq_true,Bool.and_eq_true,decide_eq_true_eq,bne_iff_ne,ne_eq,Bool.false_eq_true,true_iff,false_iff,reduceCtorEq]
  first | omega | decide
end Go.Proofs.YtlfpfkallgkjdaaGreat.Ut
end
