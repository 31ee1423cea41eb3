/- strings.Cut at one byte, strings.Contains of one byte: the walks. -/
import Derived.BigQuiet
import Derived.Maps.AppendAt
import Derived.Laws.AppendOwn
import Derived.Below
import Derived.Lib.Hide
import Derived.Recover
import Derived.Test.YtlfpfkallgkjdaaGreatQAlertBatchesRow12
import Derived.Test.YtlfpfkallgkjdaaGreatQAlertBatchesRow0
import Derived.Test.YtlfpfkallgkjdaaGreatQAlertBatchesRow16
import Derived.Test.YtlfpfkallgkjdaaGreatQAlertBatchesRow1
import Derived.Test.YtlfpfkallgkjdaaGreatQAlertBatchesRow11
import Derived.Test.YtlfpfkallgkjdaaGreatQAlertBatchesRow22
set_option linter.unusedSimpArgs false
set_option maxRecDepth 20000
section
namespace Go.Proofs.YtlfpfkallgkjdaaGreat.Tk
open Go.RowKit Ut
def atC (c:UInt8) (l:List UInt8):Nat:=l.findIdx (· == c)
theorem index_c (c:UInt8) (l:List UInt8):Lib.indexByte l c=if atC c l<l.length then ((atC c l:Nat):Int) else -1:=by
 unfold atC
 induction l with
 | nil=>rfl
 | cons x l ih =>
  rw [Lib.indexByte,List.findIdx_cons]
  by_cases hx:(x == c)=true
  ·rw [hx]; simp
  ·have hx':(x == c)=false:=by simpa using hx
   rw [hx',ih]
   simp only [Bool.false_eq_true,if_false,cond_false,List.length_cons]
   generalize l.findIdx (fun x=>x == c)=n
   by_cases h:n<l.length
   ·have h':n+1<l.length+1:=by omega
    rw [if_pos h,if_pos h',if_neg (by simp)]
    simp
   ·have h':¬ n+1<l.length+1:=by omega
    rw [if_neg h,if_neg h']
    simp
def oneS (c:UInt8):ByteArray:=⟨#[c]⟩
theorem index_one (c:UInt8) (s:ByteArray) (w:World):Calls Tryz.prog 199 #[.string s,.string (oneS c)] w fun e w'=>e=.returned (.int .i64 (if atC c s.data.toList<s.size then ((atC c s.data.toList:Nat):Int) else -1))∧w=w' :=
 (Tryz.stringslite_Index_one s c w).mono fun _ _ ⟨he,hw⟩=>⟨by rw [he,index_c,bsize],hw.symm⟩
def befC (c:UInt8) (s:ByteArray):ByteArray:=s.extract 0 (atC c s.data.toList)
def behC (c:UInt8) (s:ByteArray):ByteArray:=s.extract (atC c s.data.toList+1) s.size
theorem befC_data (c:UInt8) (s:ByteArray):(befC c s).data.toList=s.data.toList.take (atC c s.data.toList):=by unfold befC; rw [Lib.extract_data]; simp
theorem behC_data (c:UInt8) (s:ByteArray):(behC c s).data.toList=s.data.toList.drop (atC c s.data.toList+1):=by
 unfold behC; rw [Lib.extract_data,List.take_of_length_le (by rw [List.length_drop,bsize]; omega)]
theorem befC_size (c:UInt8) (s:ByteArray):(befC c s).size≤s.size:=by unfold befC; rw [ByteArray.size_extract]; omega
theorem behC_size (c:UInt8) (s:ByteArray):(behC c s).size≤s.size:=by unfold behC; rw [ByteArray.size_extract]; omega
set_option maxHeartbeats 400000 in
theorem lcutC_yes (c:UInt8) (s:ByteArray) (w:World) (hs:s.size≤1048576) (h:atC c s.data.toList<s.size):Calls Tryz.prog 196 #[.string s,.string (oneS c)] w fun e w'=>e=.returned (.tuple #[.string (befC c s),.string (behC c s),.bool true])∧Below w.heap.size w w':=by
 have cc:=index_one c s w
 rw [if_pos h] at cc
 have F1:Hid (befC c s=s.extract 0 (atC c s.data.toList)):=rfl
 have F2:Hid (behC c s=s.extract (atC c s.data.toList+1) s.size):=rfl
 have hcs:(oneS c).size=1:=rfl
 generalize atC c s.data.toList=k at *
 generalize befC c s=x at *
 generalize behC c s=y at *
 generalize oneS c=sep at *
 have h0:(0:Int)≤(k:Int):=by omega
 have h1:(k:Int)≤(s.size:Int):=by omega
 have h2:IntKind.i64.wrap ((k:Int)+1)=(k:Int)+1:=IntWalk.i64_in _ (by omega)
 have h3:(0:Int)≤(k:Int)+1:=by omega
 have h4:(k:Int)+1≤(s.size:Int):=by omega
 go_enter Tryz.func196,Tryz.ntmps196
 go_wp2_with (go_at_call 199; refine cc.mono ?_; rintro e w' ⟨rfl,rfl⟩)
 go_region
 go_wp2
 go_ret3
 rw [F1.out,F2.out]
 exact ⟨rfl,(Below.refl _ _).drew⟩
theorem lcutC_no (c:UInt8) (s:ByteArray) (w:World) (h:¬ atC c s.data.toList<s.size):Calls Tryz.prog 196 #[.string s,.string (oneS c)] w fun e w'=>e=.returned (.tuple #[.string s,.string ByteArray.empty,.bool false])∧Below w.heap.size w w':=by
 have cc:=index_one c s w
 rw [if_neg h] at cc
 clear h
 generalize oneS c=sep at *
 go_enter Tryz.func196,Tryz.ntmps196
 go_wp2_with (go_at_call 199; refine cc.mono ?_; rintro e w' ⟨rfl,rfl⟩)
 go_ret3
 exact ⟨rfl,Below.refl _ _⟩
theorem cutC_yes (c:UInt8) (s:ByteArray) (w:World) (hs:s.size≤1048576) (h:atC c s.data.toList<s.size):Calls Tryz.prog 187 #[.string s,.string (oneS c)] w fun e w'=>e=.returned (.tuple #[.string (befC c s),.string (behC c s),.bool true])∧Below w.heap.size w w':=by
 have cc:=lcutC_yes c s w hs h
 generalize oneS c=sep at *
 go_enter Tryz.func187,Tryz.ntmps187
 go_wp2_with (go_at_call 196; refine cc.mono ?_; rintro e w2 ⟨rfl,hb2⟩)
 go_ret3
 exact ⟨rfl,hb2⟩
theorem cutC_no (c:UInt8) (s:ByteArray) (w:World) (h:¬ atC c s.data.toList<s.size):Calls Tryz.prog 187 #[.string s,.string (oneS c)] w fun e w'=>e=.returned (.tuple #[.string s,.string ByteArray.empty,.bool false])∧Below w.heap.size w w':=by
 have cc:=lcutC_no c s w h
 generalize oneS c=sep at *
 go_enter Tryz.func187,Tryz.ntmps187
 go_wp2_with (go_at_call 196; refine cc.mono ?_; rintro e w2 ⟨rfl,hb2⟩)
 go_ret3
 exact ⟨rfl,hb2⟩
def headC (c:UInt8) (s:ByteArray):ByteArray:=if atC c s.data.toList<s.size then befC c s else s
theorem headC_data (c:UInt8) (s:ByteArray):(headC c s).data.toList=s.data.toList.take (atC c s.data.toList):=by
 unfold headC
 split
 ·exact befC_data c s
 ·rw [List.take_of_length_le (by rw [bsize]; omega)]
def CutHead (c:UInt8) (s:ByteArray) (w:World) (e:Ending) (w':World):Prop:=∃ (y:ByteArray) (b:Bool),e=.returned (.tuple #[.string (headC c s),.string y,.bool b])∧Below w.heap.size w w'
theorem cutC_head (c:UInt8) (s:ByteArray) (w:World) (hs:s.size≤1048576):Calls Tryz.prog 187 #[.string s,.string (oneS c)] w (CutHead c s w):=by
 by_cases h:atC c s.data.toList<s.size
 ·refine (cutC_yes c s w hs h).mono fun e w' ⟨he,hb⟩=>⟨behC c s,true,?_,hb⟩
  rw [he]; unfold headC; rw [if_pos h]
 ·refine (cutC_no c s w h).mono fun e w' ⟨he,hb⟩=>⟨ByteArray.empty,false,?_,hb⟩
  rw [he]; unfold headC; rw [if_neg h]
def hasC (c:UInt8) (s:ByteArray):Bool:=decide (atC c s.data.toList<s.size)
theorem containsC (c:UInt8) (s:ByteArray) (w:World):Calls Tryz.prog 188 #[.string s,.string (oneS c)] w fun e w'=>e=.returned (.bool (hasC c s))∧w=w' :=
 (Tryz.strings_Contains_one s c w).mono fun _ _ ⟨he,hw⟩=>⟨by
  rw [he,index_c,bsize]
  unfold hasC
  congr 2
  split
  ·rename_i h
   rw [decide_eq_true h]; simp
  ·rename_i h
   rw [decide_eq_false h]; rfl,hw.symm⟩
end Go.Proofs.YtlfpfkallgkjdaaGreat.Tk
end

section
namespace Go.Proofs.YtlfpfkallgkjdaaGreat.Tk
open Go.RowKit Ut
def colonS:ByteArray:=⟨#[58]⟩
def bef (s:ByteArray):ByteArray:=s.extract 0 (colonAt s.data.toList)
def termV (a b:ByteArray):ByteArray:=str (term a.data.toList b.data.toList)
def termOk (a b:ByteArray):Bool:=isN a.data.toList && isW b.data.toList
theorem termV_eq (a b:ByteArray):a ++ colonS ++ b=termV a b:=by
 have h:∀ x y:ByteArray,(x ++ y).data.toList=x.data.toList ++ y.data.toList:=fun x y=>by simp
 rw [← of_str (a ++ colonS ++ b)]
 unfold termV term
 rw [h,h]
 simp [colonS]
set_option maxHeartbeats 400000 in
theorem term_noB (a b:ByteArray) (w:World) (ha:a.size≤140737488351232) (hb:b.size≤140737488351232) (h:termOk a b=false):Calls Tryz.prog 69 #[.string a,.string b] w fun e w'=>e=.returned (.tuple #[.string ByteArray.empty,.int .i64 1])∧Below w.heap.size w w':=by
 have c1:=isName_anyB a w ha
 by_cases hn:isN a.data.toList=true
 ·have hw:isW b.data.toList=false:=by unfold termOk at h; rw [hn,Bool.true_and] at h; exact h
  have c2:=fun wx=>isWord_anyB b wx hb
  rw [hn] at c1
  rw [hw] at c2
  have C2:=zh c2
  clear hn hw c2 h
  go_enter Tryz.func69,Tryz.ntmps69
  go_wp2_with (first | (go_at_call 104; refine c1.mono ?_; rintro e w2 ⟨rfl,hb2⟩) | (go_at_call 105; refine (C2.out _).mono ?_; rintro e w3 ⟨rfl,hb3⟩))
  go_ret2
  exact ⟨rfl,hb2.trans (hb3.mono hb2.size)⟩
 ·have hn':isN a.data.toList=false:=by simpa using hn
  rw [hn'] at c1
  clear hn hn' h
  go_enter Tryz.func69,Tryz.ntmps69
  go_wp2_with (go_at_call 104; refine c1.mono ?_; rintro e w2 ⟨rfl,hb2⟩)
  go_ret2
  exact ⟨rfl,hb2⟩
set_option maxHeartbeats 400000 in
theorem term_yesB (a b:ByteArray) (w:World) (ha:a.size≤140737488351232) (hb:b.size≤140737488351232) (h:termOk a b=true):Calls Tryz.prog 69 #[.string a,.string b] w fun e w'=>e=.returned (.tuple #[.string (termV a b),.int .i64 0])∧Below w.heap.size w w':=by
 unfold termOk at h
 rw [Bool.and_eq_true] at h
 have c1:=isName_anyB a w ha
 have c2:=fun wx=>isWord_anyB b wx hb
 rw [h.1] at c1
 rw [h.2] at c2
 have C2:=zh c2
 have F:Hid (a ++ colonS ++ b=termV a b):=zh (termV_eq a b)
 clear h c2
 generalize termV a b=t at *
 go_enter Tryz.func69,Tryz.ntmps69
 go_wp2_with (first | (go_at_call 104; refine c1.mono ?_; rintro e w2 ⟨rfl,hb2⟩) | (go_at_call 105; refine (C2.out _).mono ?_; rintro e w3 ⟨rfl,hb3⟩))
 go_ret2
 rw [← F.out]
 exact ⟨rfl,hb2.trans (hb3.mono hb2.size)⟩
end Go.Proofs.YtlfpfkallgkjdaaGreat.Tk
end

section
namespace Go.Proofs.YtlfpfkallgkjdaaGreat.Qp
open Go.RowKit Ut Tk Qy
theorem indexB (l:List UInt8) (c:UInt8):(0≤Lib.indexByte l c)↔c∈l:=by
 rw [index_c]
 unfold atC
 by_cases h:c∈l
 ·have:l.findIdx (· == c)<l.length:=List.findIdx_lt_length.2 ⟨c,h,by simp⟩
  rw [if_pos this]
  simp [h]
 ·have:¬ l.findIdx (· == c)<l.length:=fun e=>by
   obtain ⟨x,hx,he⟩:=List.findIdx_lt_length.1 e
   rw [beq_iff_eq.1 he] at hx
   exact h hx
  rw [if_neg this]
  simp [h]
theorem ret_int {k:IntKind} {a b:Int} (h:b=a):Ending.returned (.int k a)=.returned (.int k b):=by rw [h]
def endsS:ByteArray:=⟨#[32,9,40,41,34]⟩
theorem ends_ix (c:UInt8):decide (0≤Lib.indexByte endsS.data.toList c)=ends c:=by
 rw [Bool.eq_iff_iff,decide_eq_true_iff,indexB]
 unfold ends endsS
 simp [or_assoc]
theorem ends_any (c:UInt8) (w:World):Calls Tryz.prog 141 #[.int .u8 (c.toNat:Int)] w fun e w'=>e=.returned (.bool (ends c))∧w=w':=by
 have c0:=(Tryz.strings_IndexByte endsS (c.toNat:Int) w)
 have e0:(c.toNat:Int).toNat.toUInt8=c:=by simp
 rw [e0] at c0
 have hx:=ends_ix c
 generalize Lib.indexByte endsS.data.toList c=r at *
 rw [← hx]
 clear hx e0
 go_enter Tryz.func141,Tryz.ntmps141
 go_wp2_with (go_at_call 171; refine c0.mono ?_; rintro e w' ⟨rfl,rfl⟩)
 go_ret
 exact ⟨rfl,rfl⟩
def tailS (s:ByteArray):ByteArray:=s.extract 1 s.size
theorem tailS_data (s:ByteArray):(tailS s).data.toList=s.data.toList.tail:=by
 unfold tailS; rw [Lib.extract_data,List.take_of_length_le (by rw [List.length_drop,bsize]; omega),List.drop_one]
set_option maxHeartbeats 400000 in
theorem quoted_any (s:ByteArray) (w:World) (h1 : 1≤s.size) (hs:s.size≤1048576):Calls Tryz.prog 140 #[.string s] w fun e w'=>e=.returned (.int .i64 (quotedN s.data.toList:Nat))∧w=w':=by
 have c0:=(Tryz.strings_IndexByte (tailS s) 34 w)
 have e0:(34:Int).toNat.toUInt8=34:=by decide
 rw [e0,tailS_data,index_c] at c0
 have F1:Hid (tailS s=s.extract 1 s.size):=rfl
 have hq:Hid (quotedN s.data.toList=if atC 34 s.data.toList.tail<s.data.toList.tail.length then atC 34 s.data.toList.tail+2 else 0):=rfl
 have hl:s.data.toList.tail.length≤1048576:=by rw [List.length_tail,bsize]; omega
 generalize atC 34 s.data.toList.tail=k at *
 generalize s.data.toList.tail.length=n at *
 by_cases hk:k<n
 ·rw [if_pos hk] at c0
  have F2:Hid (quotedN s.data.toList=k+2):=zh (by rw [hq.out,if_pos hk])
  rw [F2.out]
  have hk2:(k:Int)≤1048576:=by omega
  clear hq hk
  go_enter Tryz.func140,Tryz.ntmps140
  go_wp2_with (go_at_call 171; (try rw [← F1.out]); refine c0.mono ?_; rintro e w' ⟨rfl,rfl⟩)
  go_ret
  exact ⟨by go_num,rfl⟩
 ·rw [if_neg hk] at c0
  have F2:Hid (quotedN s.data.toList=0):=zh (by rw [hq.out,if_neg hk])
  rw [F2.out]
  clear hq hk
  go_enter Tryz.func140,Tryz.ntmps140
  go_wp2_with (go_at_call 171; (try rw [← F1.out]); refine c0.mono ?_; rintro e w' ⟨rfl,rfl⟩)
  go_ret
  exact ⟨rfl,rfl⟩
def dropS (n:Nat) (s:ByteArray):ByteArray:=s.extract n s.size
theorem dropS_data (n:Nat) (s:ByteArray):(dropS n s).data.toList=s.data.toList.drop n:=by
 unfold dropS; rw [Lib.extract_data,List.take_of_length_le (by rw [List.length_drop,bsize]; omega)]
theorem dropS_size (n:Nat) (s:ByteArray):(dropS n s).size=s.size - n:=by unfold dropS; rw [ByteArray.size_extract]; omega
theorem quoted_drop (s:ByteArray) (k:Nat) (w:World) (h1:k<s.size) (hs:s.size≤1048576):Calls Tryz.prog 140 #[.string (s.extract k s.size)] w fun e w'=>e=.returned (.int .i64 (quotedN (s.data.toList.drop k):Nat))∧w=w':=by
 have:=quoted_any (dropS k s) w (by rw [dropS_size]; omega) (by rw [dropS_size]; omega)
 rw [dropS_data] at this
 exact this
theorem get_of (s:ByteArray) (k:Nat) (h:k<s.size):s.data.toList[k]?=some s[k]:=by
 rw [List.getElem?_eq_getElem (by rw [bsize]; exact h)]; rfl
theorem u8_eq (c d:UInt8):((c.toNat:Int) == (d.toNat:Int))=(c == d):=by
 rw [Bool.eq_iff_iff,beq_iff_eq,beq_iff_eq]
 constructor
 ·intro h
  exact UInt8.toNat_inj.1 (by omega)
 ·rintro rfl; rfl
set_option maxHeartbeats 1600000 in
theorem piece_any (s:ByteArray) (w:World) (h1 : 0<s.size) (hs:s.size≤1048576):Calls Tryz.prog 98 #[.string s] w fun e w'=>e=.returned (.int .i64 (pieceN s.data.toList:Nat))∧w=w':=by
 have hh:s.data.toList.head?=some s[0]:=by rw [← get_of s 0 h1]; cases s.data.toList <;> rfl
 have u0:=u8_eq s[0] 40
 have u1:=u8_eq s[0] 41
 have u2:=u8_eq s[0] 34
 simp only [show (UInt8.toNat 40:Int)=40 from rfl,show (UInt8.toNat 41:Int)=41 from rfl,show (UInt8.toNat 34:Int)=34 from rfl] at u0 u1 u2
 by_cases e0:s[0]=40
 ·have e1:pieceN s.data.toList=1:=by unfold pieceN; rw [hh,if_pos (.inl (by rw [e0]))]
  have t0:((s[0].toNat:Int) == 40)=true:=by rw [u0]; exact beq_iff_eq.2 e0
  rw [e1]
  clear e1 hh u0 u1 u2 e0
  go_enter Tryz.func98,Tryz.ntmps98
  go_wp2
  go_ret
  exact ⟨rfl,rfl⟩
 have t0:((s[0].toNat:Int) == 40)=false:=by rw [u0]; exact beq_eq_false_iff_ne.2 e0
 by_cases e1:s[0]=41
 ·have e2:pieceN s.data.toList=1:=by unfold pieceN; rw [hh,if_pos (.inr (by rw [e1]))]
  have t1:((s[0].toNat:Int) == 41)=true:=by rw [u1]; exact beq_iff_eq.2 e1
  rw [e2]
  clear e2 hh u0 u1 u2 e0 e1
  go_enter Tryz.func98,Tryz.ntmps98
  go_wp2
  go_ret
  exact ⟨rfl,rfl⟩
 have t1:((s[0].toNat:Int) == 41)=false:=by rw [u1]; exact beq_eq_false_iff_ne.2 e1
 have hno:¬ (s.data.toList.head?=some 40∨s.data.toList.head?=some 41):=by rw [hh]; simp [e0,e1]
 by_cases e2:s[0]=34
 ·have e3:pieceN s.data.toList=quotedN s.data.toList:=by unfold pieceN; rw [if_neg hno,hh,e2,if_pos rfl]
  have t2:((s[0].toNat:Int) == 34)=true:=by rw [u2]; exact beq_iff_eq.2 e2
  have c0:=quoted_any s w (by omega) hs
  rw [e3]
  clear e3 hno hh u0 u1 u2 e0 e1 e2
  generalize quotedN s.data.toList=r at *
  go_enter Tryz.func98,Tryz.ntmps98
  go_wp2_with (go_at_call 140; refine c0.mono ?_; rintro e w' ⟨rfl,rfl⟩)
  go_ret
  exact ⟨rfl,rfl⟩
 have t2:((s[0].toNat:Int) == 34)=false:=by rw [u2]; exact beq_eq_false_iff_ne.2 e2
 have e3:pieceN s.data.toList=if s.data.toList[endAt s.data.toList]?=some 34∧s.data.toList[endAt s.data.toList - 1]?=some 58 then (if quotedN (s.data.toList.drop (endAt s.data.toList))=0 then 0 else endAt s.data.toList+quotedN (s.data.toList.drop (endAt s.data.toList))) else endAt s.data.toList:=by
  unfold pieceN; rw [if_neg hno,hh,if_neg (by simpa using e2)]
 have E3:=zh e3
 have E2:=zh e2
 have Hend:=zh (findIdx_of ends s.data.toList)
 clear e3 hno hh u0 u1 u2 e0 e1 e2
 go_enter Tryz.func98,Tryz.ntmps98
 go_wp2_with fail
 go_loopw [3] (fun i wr=>∃ k:Nat,k≤s.size∧i=.int .i64 k∧w=wr∧Hid (∀ x∈s.data.toList.take k,ends x=false)) (fun i _=>s.size - (intOf i).toNat)
 case atStart=>exact ⟨0,Nat.zero_le _,rfl,rfl,zh (fun x hx=>by simp at hx)⟩
 case round =>
  obtain ⟨k,hk,rfl,rfl,hal⟩:=hrel
  have hk0:(0:Int)≤(k:Int):=by omega
  by_cases hlt:k<s.size
  ·have hts:=take_snoc s k hlt
   by_cases he:ends s[k]=true
   ·have Hk:Hid (endAt s.data.toList=k):=zh (Hend.out k hal.out (by rw [bsize]; omega) (fun _=>he))
    have u3:=u8_eq s[k] 34
    rw [show (UInt8.toNat 34:Int)=34 from rfl] at u3
    by_cases q:s[k]=34
    ·have t3:((s[k].toNat:Int) == 34)=true:=by rw [u3]; exact beq_iff_eq.2 q
     obtain ⟨j,rfl⟩:∃ j,k=j+1:=by
      match k with
      | 0=>exact absurd q E2.out
      | j+1=>exact ⟨j,rfl⟩
     have hj:j<s.size:=by omega
     have u4:=u8_eq s[j] 58
     rw [show (UInt8.toNat 58:Int)=58 from rfl] at u4
     have g1:=get_of s (j+1) hlt
     have g2:=get_of s j hj
     have c2:=quoted_drop s (j+1) w hlt hs
     have hj0:(0:Int)≤(j:Int):=by omega
     have e8:((j+1:Nat):Int)=(j:Int)+1:=by omega
     by_cases q2:s[j]=58
     ·have t4:((s[j].toNat:Int) == 58)=true:=by rw [u4]; exact beq_iff_eq.2 q2
      have E4:Hid (pieceN s.data.toList=if quotedN (s.data.toList.drop (j+1))=0 then 0 else j+1+quotedN (s.data.toList.drop (j+1))):=zh (by
       rw [E3.out,Hk.out,Nat.add_sub_cancel,g1,g2,q,q2,if_pos ⟨rfl,rfl⟩])
      have hq:=quotedN_le (s.data.toList.drop (j+1))
      rw [List.length_drop,bsize] at hq
      clear u3 u4 g1 g2 q q2 hts hal Hk E3 Hend
      generalize quotedN (s.data.toList.drop (j+1))=r at *
      by_cases hr:r=0
      ·subst hr
       have E5:Hid (pieceN s.data.toList=0):=zh (by rw [E4.out]; rfl)
       clear E4 hq
       go_wp2_with (first | (go_at_call 141; refine (ends_any s[j+1] _).mono ?_; rintro e w' ⟨rfl,rfl⟩) | (go_at_call 140; refine c2.mono ?_; rintro e w' ⟨rfl,rfl⟩))
       go_ret
       exact ⟨ret_int (by rw [E5.out]; first | rfl | omega),rfl⟩
      ·have E5:Hid (pieceN s.data.toList=j+1+r):=zh (by rw [E4.out,if_neg hr])
       have hr':((r:Int) == 0)=false:=by rw [beq_eq_false_iff_ne]; omega
       clear E4 hr
       go_wp2_with (first | (go_at_call 141; refine (ends_any s[j+1] _).mono ?_; rintro e w' ⟨rfl,rfl⟩) | (go_at_call 140; refine c2.mono ?_; rintro e w' ⟨rfl,rfl⟩))
       go_ret
       exact ⟨ret_int (by rw [E5.out]; first | rfl | omega),rfl⟩
     ·have t4:((s[j].toNat:Int) == 58)=false:=by rw [u4]; exact beq_eq_false_iff_ne.2 q2
      have E5:Hid (pieceN s.data.toList=j+1):=zh (by
       rw [E3.out,Hk.out,Nat.add_sub_cancel,g1,g2,if_neg (by simp [q2])])
      clear u3 u4 g1 g2 q q2 hts hal Hk E3 Hend c2
      go_wp2_with (go_at_call 141; refine (ends_any s[j+1] _).mono ?_; rintro e w' ⟨rfl,rfl⟩)
      go_ret
      exact ⟨ret_int (by rw [E5.out]; omega),rfl⟩
    ·have t3:((s[k].toNat:Int) == 34)=false:=by rw [u3]; exact beq_eq_false_iff_ne.2 q
     have g1:=get_of s k hlt
     have E5:Hid (pieceN s.data.toList=k):=zh (by
      rw [E3.out,Hk.out,g1,if_neg (by simp [q])])
     clear u3 g1 q hts hal Hk E3 Hend
     go_wp2_with (go_at_call 141; refine (ends_any s[k] _).mono ?_; rintro e w' ⟨rfl,rfl⟩)
     go_ret
     exact ⟨ret_int (by rw [E5.out]),rfl⟩
   ·have he':ends s[k]=false:=by simpa using he
    have Hnx:Hid (∀ x∈s.data.toList.take (k+1),ends x=false):=zh (fun x hx=>by
     rw [hts,List.mem_append] at hx
     rcases hx with hx | hx
     ·exact hal.out x hx
     ·rw [List.mem_singleton] at hx; rw [hx]; exact he')
    clear hts hal he E3 Hend
    go_wp2_with (go_at_call 141; refine (ends_any s[k] _).mono ?_; rintro e w' ⟨rfl,rfl⟩)
    go_roundw
    case rel=>exact ⟨k+1,by omega,by go_num,by first | rfl | trivial,Hnx⟩
    case measure=>simp [intOf]; omega
  ·obtain rfl:k=s.size:=by omega
   have hn:s.data.toList[s.size]?=none:=List.getElem?_eq_none (by rw [bsize]; omega)
   have Hk:Hid (endAt s.data.toList=s.size):=zh (Hend.out s.size hal.out (by rw [bsize]; omega) (fun h=>absurd h (by rw [bsize]; omega)))
   have E5:Hid (pieceN s.data.toList=s.size):=zh (by
    rw [E3.out,Hk.out,hn,if_neg (by simp)])
   clear hal hn Hk E3 Hend
   go_wp2
   go_ret
   exact ⟨ret_int (by rw [E5.out]),rfl⟩
end Go.Proofs.YtlfpfkallgkjdaaGreat.Qp
end

section
namespace Go.Proofs.YtlfpfkallgkjdaaGreat.Qp
open Go.RowKit Ut Tk Qy
def PcsPost (w:World) (o:Option (List P)) (e:Ending) (w':World):Prop :=
 match o with
 | some l=>∃ v,e=.returned (.tuple #[v,.bool true])∧w'.ownsRow w.heap.size 9 1 v l.length (sv l)∧Below w.heap.size w w'
 | none=>e=.returned (.tuple #[.slice none 0 0,.bool false])∧Below w.heap.size w w'
def szOf:Value→Nat | .string x=>x.size | _=>0
theorem dl_nil (s:ByteArray) (h:s.size=0):s.data.toList=[]:=List.length_eq_zero_iff.1 (by rw [bsize]; exact h)
theorem dl_cons (s:ByteArray) (h : 0<s.size):s.data.toList=s[0] :: s.data.toList.drop 1:=by
 have e:s[0]=s.data.toList[0]'(by rw [bsize]; exact h):=rfl
 rw [e]
 exact (List.drop_eq_getElem_cons (i:=0) (by rw [bsize]; exact h))
set_option maxHeartbeats 1600000 in
theorem pieces_any (s:ByteArray) (w:World) (hs:s.size≤1048576):Calls Tryz.prog 60 #[.string s] w (PcsPost w (pieces s.data.toList)):=by
 obtain ⟨i0,hi0,hz0,hz1,hz2⟩:=info_parts str_info
 have Hs:=zh hs
 clear hs
 go_enter Tryz.func60,Tryz.ntmps60
 go_wp2_with fail
 go_loopw [0,4] (fun x v wr=>∃ (r:ByteArray) (acc:List P),x=.string r∧r.size≤s.size∧Hid (pieces s.data.toList=(pieces r.data.toList).map (acc ++ ·))∧acc.length+r.size≤1048576∧Strs w wr v acc) (fun x _ _=>szOf x)
 case atStart=>exact ⟨s,[],rfl,zG _,zh (by simp),by simpa using Hs.out,⟨World.ownsRow_nil _ _ _ _,Below.refl _ _⟩⟩
 case round =>
  obtain ⟨r0,acc,rfl,hr0,hpc,hac,hT⟩:=hrel
  have HT:=zh hT
  clear hT
  have Ro:=zh (zG r0.size)
  go_wp2_with fail
  go_loopw [0] (fun x wi=>∃ r:ByteArray,x=.string r∧r.size≤r0.size∧Hid (pieces r.data.toList=pieces r0.data.toList)∧wr=wi) (fun x _=>szOf x)
  case atStart=>exact ⟨r0,rfl,zG _,zh rfl,rfl⟩
  case round =>
   obtain ⟨r,rfl,hr,hpr,rfl⟩:=hrel
   have Hpc:Hid (pieces s.data.toList=(pieces r.data.toList).map (acc ++ ·)):=zh (by rw [hpr.out]; exact hpc.out)
   by_cases h0:r.size=0
   ·have hd:=dl_nil r h0
    have hd2:r.toList=[]:=by rw [tl]; exact hd
    have Fin:Hid (pieces s.data.toList=some acc):=zh (by rw [Hpc.out,hd,pieces_nil]; simp)
    clear hd h0
    go_wp2_with fail
    go_ret2
    exact (by rw [Fin.out]; exact ⟨_,rfl,HT.out.own,HT.out.bel⟩)
   ·have h1 : 0<r.size:=by omega
    have hd:=dl_cons r h1
    have he1:r.toList.isEmpty=false:=by rw [tl,hd]; rfl
    have u0:=u8_eq r[0] 32
    have u1:=u8_eq r[0] 9
    simp only [show (UInt8.toNat 32:Int)=32 from rfl,show (UInt8.toNat 9:Int)=9 from rfl] at u0 u1
    have hdp:=dropS_data 1 r
    have hds:=dropS_size 1 r
    have hb0:blank r[0]=(r[0] == 32 || r[0] == 9):=rfl
    by_cases hb:blank r[0]=true
    ·have Hn:Hid (pieces (dropS 1 r).data.toList=pieces r0.data.toList):=zh (by rw [hdp,← hpr.out,hd,pieces_blank _ _ hb]; rfl)
     have hb2:((r[0].toNat:Int) == 32)=true∨(((r[0].toNat:Int) == 32)=false∧((r[0].toNat:Int) == 9)=true):=by
      rw [u0,u1]
      rw [hb0] at hb
      cases h9:r[0] == 32 with
      | true=>exact .inl rfl
      | false=>rw [h9] at hb; exact .inr ⟨rfl,by simpa using hb⟩
     have hdS:Hid (dropS 1 r=r.extract 1 r.size):=rfl
     have hsz:Hid ((r.extract 1 r.size).size=r.size - 1):=zh (by rw [← hdS.out]; exact hds)
     clear hd u0 u1 hdp hds hb0 hb h0 Hpc hpr
     rcases hb2 with t0 | ⟨t0,t1⟩
     all_goals
      go_wp2_with fail
      go_roundw
      case rel=>exact ⟨dropS 1 r,rfl,by rw [hdS.out,hsz.out]; omega,Hn,by first | rfl | trivial⟩
      case measure=>simp [szOf]; omega
    ·have hb':blank r[0]=false:=by simpa using hb
     have t0:((r[0].toNat:Int) == 32)=false:=by
      rw [u0]; rw [hb0] at hb'; simp only [Bool.or_eq_false_iff] at hb'; exact hb'.1
     have t1:((r[0].toNat:Int) == 9)=false:=by
      rw [u1]; rw [hb0] at hb'; simp only [Bool.or_eq_false_iff] at hb'; exact hb'.2
     have c0:=piece_any r wr h1 (by have:=Hs.out; omega)
     have hle:=pieceN_le r.data.toList
     rw [bsize] at hle
     have hpn:Hid (pieces r.data.toList=if pieceN r.data.toList=0 then none else (pieces (r.data.toList.drop (pieceN r.data.toList))).map (fun l=>r.data.toList.take (pieceN r.data.toList) :: l)):=zh (by
      have:=pieces_cons r[0] (r.data.toList.drop 1) hb'
      rw [← hd] at this
      exact this)
     clear hd u0 u1 hdp hds hb0 hb hb' hpr
     generalize pieceN r.data.toList=n at *
     have hn0:(0:Int)≤(n:Int):=by omega
     have hn1:(n:Int)≤(r.size:Int):=by omega
     by_cases hn:n=0
     ·have Fin:Hid (pieces s.data.toList=none):=zh (by rw [Hpc.out,hpn.out,if_pos hn]; rfl)
      subst hn
      clear hpn Hpc
      go_wp2_with (go_at_call 98; refine c0.mono ?_; rintro e w' ⟨rfl,rfl⟩)
      go_ret2
      exact (by rw [Fin.out]; exact ⟨rfl,HT.out.bel⟩)
     ·have hn':((n:Int) == 0)=false:=by rw [beq_eq_false_iff_ne]; omega
      have Hx:Hid (r.extract 0 n=str (r.data.toList.take n)):=zh (by
       rw [← of_str (r.extract 0 n),Lib.extract_data]; simp)
      have Hn:Hid (pieces s.data.toList=(pieces (dropS n r).data.toList).map ((acc ++ [r.data.toList.take n]) ++ ·)):=zh (by
       rw [Hpc.out,hpn.out,if_neg hn,dropS_data,Option.map_map]
       congr 1
       funext l
       simp)
      have hdS:Hid (dropS n r=r.extract n r.size):=rfl
      have hds:=dropS_size n r
      have Hsz:Hid ((r.extract n r.size).size=r.size - n):=zh (by rw [← hdS.out]; exact hds)
      have hown:=HT.out.own
      have hbs:=HT.out.bel.size
      have hnpos : 0<n:=by omega
      clear hpn Hpc hn hds h0
      generalize r.data.toList.take n=x at *
      go_wp2_with (first
       | (go_at_call 98; refine c0.mono ?_; rintro e w' ⟨rfl,rfl⟩)
       | (at_builtin; refine wpList_append_own _ rfl _ _ 49 rfl w.heap.size 9 i0 _ 1 16 Tryz.underlying49 hi0 hz0 hz1 hz2 rfl (by decide) _ _ _ rfl (hown.alloc _) ⟨wr.heap.size,0,none⟩ 1 1 [.string (r.extract 0 n)] rfl rfl ?d1 ?d2 ?d3 ?d4 ?d5 ?_))
      case d1=>exact World.news_of_block (cs:=#[.string (r.extract 0 n)]) (t:=9) (fr:=(0,0)) (heap_alloc_new wr _)
      case d2=>intro u hu; simp at hu; subst hu; rfl
      case d3=>unfold maxLen; omega
      case d4=>omega
      case d5=>simp; omega
      intro v' w5 hown5 hg5 _
      rw [Hx.out] at hown5
      have HT5:=zh ((HT.out.below ((Below.refl _ _).alloc (zG _) _)).put hown5 hg5)
      clear hown5 hg5 hown
      go_wp2_with fail
      go_roundw
      case rel=>exact ⟨dropS n r,acc ++ [x],rfl,by rw [hdS.out,Hsz.out]; omega,Hn,by rw [hdS.out,Hsz.out,List.length_append,List.length_singleton]; omega,HT5.out⟩
      case measure=>simp [szOf,Hsz.out]; omega
end Go.Proofs.YtlfpfkallgkjdaaGreat.Qp
end

section
namespace Go.Proofs.YtlfpfkallgkjdaaGreat.Qp
open Go.RowKit Qy
inductive QF (w:World) (S:Nat→Prop):Q→List Value→Prop
 | mk {k:Int} {nm:ByteArray} {ws:List ByteArray} {l:List Q} {A C:Option Addr} {n c m d:Nat} (vss:List (List Value)) (hn:ws.length=n) (hw:ReadsS w S 1 A n (ws.map Value.string)) (hm:l.length=m) (hv:vss.length=m)
   (h4:∀ v∈vss,v.length=4) (hl:ReadsS w S 4 C m vss.flatten) (kids:∀ i (h:i<l.length) (h':i<vss.length),QF w S l[i] vss[i]):QF w S (.mk k nm ws l) [.int .i64 k,.string nm,.slice A n c,.slice C m d]
section
variable {w w':World} {S S':Nat→Prop} {q:Q} {vs:List Value}
theorem QF.keep (hk:∀ b o,S b→w'.cell? ⟨b,o,none⟩=w.cell? ⟨b,o,none⟩) (h:QF w S q vs):QF w' S q vs:=by
 induction h with
 | mk vss hn hw hm hv h4 hl _ ih=>exact .mk vss hn (hw.keep hk) hm hv h4 (hl.keep hk) ih
theorem QF.mono (h:QF w S q vs) (hS:∀ b,S b→S' b):QF w S' q vs:=by
 induction h with
 | mk vss hn hw hm hv h4 hl _ ih=>exact .mk vss hn (hw.mono hS) hm hv h4 (hl.mono hS) ih
theorem QF.at_ {B:Nat} (h:QF w S q vs) (hS:∀ b,S b→b<B):QAt w B q vs:=by
 induction h with
 | mk vss hn hw hm hv h4 hl _ ih=>exact .mk vss hn (hw.reads hS) hm hv h4 (hl.reads hS) ih
theorem QF.len (h:QF w S q vs):vs.length=4:=by cases h; rfl
theorem QF.four (h:QF w S q vs):∃ A n c C m d,vs=[.int .i64 q.kind,.string q.name,.slice A n c,.slice C m d]:=by
 cases h with
 | @mk _ _ _ _ A C n c m d vss hn hw hm hv h4 hl kids=>exact ⟨A,n,c,C,m,d,rfl⟩
end
def Kin (base:Nat) (w:World) (v:Value) (b:Nat):Prop:=base≤b∧b<w.heap.size∧v.ownBlock≠some b
structure Qs (base:Nat) (w:World) (v:Value) (l:List Q) (vss:List (List Value)):Prop where
 lv:vss.length=l.length
 own:w.ownsRow base 52 4 v l.length vss.flatten
 kid:∀ i (h:i<l.length) (h':i<vss.length),QF w (Kin base w v) l[i] vss[i]
theorem Qs.start (base:Nat) (w:World):Qs base w (.slice none 0 0) [] []:=⟨rfl,World.ownsRow_nil _ _ _ _,fun i h=>absurd h (by simp)⟩
theorem Qs.four {base:Nat} {w:World} {v:Value} {l:List Q} {vss:List (List Value)} (h:Qs base w v l vss):∀ u∈vss,u.length=4:=fun u hu=>by
 obtain ⟨j,hj,rfl⟩:=List.mem_iff_getElem.1 hu
 exact (h.kid j (by rw [← h.lv]; exact hj) hj).len
theorem Qs.grown {base:Nat} {w w':World} {v:Value} {l:List Q} {vss:List (List Value)} {row:Option Nat} (h:Qs base w v l vss) (hg:w.grownBy w' row) (hr:∀ b,row=some b→b<base):Qs base w' v l vss:=by
 refine ⟨h.lv,h.own.kept hg ?_,fun i a b=>?_⟩
 ·cases hv:v.ownBlock with
  | none=>exact .inl rfl
  | some k =>
   refine .inr (fun e=>?_)
   have:=(h.own.lt k hv).1
   have:=hr k e.symm
   omega
 ·refine ((h.kid i a b).keep fun g o hS=>?_).mono fun g hS=>⟨hS.1,Nat.lt_of_lt_of_le hS.2.1 hg.size,hS.2.2⟩
  refine World.cell?_of_block (hg.block g hS.2.1 (fun e=>?_))
  have:=hr g e.symm
  have:=hS.1
  omega
theorem Qs.put {base:Nat} {w w':World} {v v':Value} {l:List Q} {q:Q} {vss:List (List Value)} {u:List Value} (h:Qs base w v l vss) (hq:QF w (Kin base w v) q u)
  (hp:w'.ownsRow base 52 4 v' (l.length+1) (vss.flatten ++ u)) (hg:w.grownBy w' v.ownBlock) (hv:v'.ownBlock=v.ownBlock∨v'.ownBlock=some w.heap.size):Qs base w' v' (l ++ [q]) (vss ++ [u]):=by
 have keep:∀ (q:Q) (u:List Value),QF w (Kin base w v) q u→QF w' (Kin base w' v') q u:=fun q u hq=>by
  refine (hq.keep fun g o hS=>?_).mono fun g hS=>⟨hS.1,Nat.lt_of_lt_of_le hS.2.1 hg.size,fun e=>?_⟩
  ·exact World.cell?_of_block (hg.block g hS.2.1 (fun e=>hS.2.2 e.symm))
  ·rcases hv with hv | hv
   ·exact hS.2.2 (hv.symm.trans e)
   ·have h1:some w.heap.size=some g:=hv.symm.trans e
    injection h1 with h1
    have:=hS.2.1
    omega
 refine ⟨by simp [h.lv],?_,fun i a b=>?_⟩
 ·rw [List.flatten_append,List.length_append]
  simpa using hp
 ·by_cases hi:i<l.length
  ·rw [List.getElem_append_left hi,List.getElem_append_left (by rw [h.lv]; exact hi)]
   exact keep _ _ (h.kid i hi (by rw [h.lv]; exact hi))
  ·have hi':i=l.length:=by simp at a; omega
   subst hi'
   rw [List.getElem_append_right (by omega),List.getElem_append_right (by rw [h.lv]; omega)]
   simp only [Nat.sub_self,h.lv,List.getElem_cons_zero]
   exact keep _ _ hq
theorem Qs.query {base:Nat} {w:World} {v:Value} {l:List Q} {vss:List (List Value)} (h:Qs base w v l vss) (k:Int):∃ C d,v=.slice C l.length d ∧
  QF w (fun b=>base≤b∧b<w.heap.size) (.mk k ByteArray.empty [] l) [.int .i64 k,.string ByteArray.empty,.slice none 0 0,.slice C l.length d]:=by
 obtain ⟨C,d,rfl,_⟩:=own_shape h.own
 exact ⟨C,d,rfl,.mk vss rfl (by simpa using ReadsS.none_) rfl h.lv h.four ((ReadsS.of_own h.own).mono fun b hb=>⟨hb.1,hb.2.1⟩) fun i a b=>(h.kid i a b).mono fun g hS=>⟨hS.1,hS.2.1⟩⟩
theorem Qs.first {base:Nat} {w:World} {v:Value} {q:Q} {vss:List (List Value)} (h:Qs base w v [q] vss):∃ b d A n c C m d',v=.slice (some ⟨b,0,none⟩) 1 d∧b<w.heap.size∧base≤b ∧
  w.cell? ⟨b,0,none⟩=some (.int .i64 q.kind)∧w.cell? ⟨b,1,none⟩=some (.string q.name)∧w.cell? ⟨b,2,none⟩=some (.slice A n c)∧w.cell? ⟨b,3,none⟩=some (.slice C m d') ∧
  QF w (fun b=>base≤b∧b<w.heap.size) q [.int .i64 q.kind,.string q.name,.slice A n c,.slice C m d']:=by
 obtain ⟨A0,d,rfl,_⟩:=own_shape h.own
 have hlv:=h.lv
 obtain ⟨u,rfl⟩:∃ u,vss=[u]:=List.length_eq_one_iff.1 hlv
 have hq:=(h.kid 0 (by simp) (by simp)).mono (S':=fun b=>base≤b∧b<w.heap.size) fun g hS=>⟨hS.1,hS.2.1⟩
 simp only [List.getElem_cons_zero] at hq
 obtain ⟨A,n,c,C,m,d',rfl⟩:=hq.four
 have hS:=ReadsS.of_own h.own
 obtain ⟨b,o,e,hb,hc⟩:=hS.2 (by simp)
 have ho:o=0:=by
  rcases h.own.2 with ⟨hv,h0⟩ | ⟨g,cap,cur,hv,_⟩
  ·simp at h0
  ·injection hv with hv
   rw [e] at hv
   injection hv with hv
   injection hv
 subst ho
 subst e
 have c0:=hc 0 (.int .i64 q.kind) rfl
 have c1:=hc 1 (.string q.name) rfl
 have c2:=hc 2 (.slice A n c) rfl
 have c3:=hc 3 (.slice C m d') rfl
 exact ⟨b,d,A,n,c,C,m,d',rfl,hb.2.1,hb.1,c0,c1,c2,c3,hq⟩
theorem grownBy_trans {w w1 w2:World} {row:Option Nat} (h:w.grownBy w1 row) (k:w1.grownBy w2 row):w.grownBy w2 row :=
 ⟨k.os.trans h.os,k.tape.trans h.tape,k.output.trans h.output,Nat.le_trans h.size k.size,fun i hi hr=>(k.block i (Nat.lt_of_lt_of_le hi h.size) hr).trans (h.block i hi hr)⟩
theorem grownBy_new {w w1 w2:World} {row row2:Option Nat} (h:w.grownBy w1 row) (k:w1.grownBy w2 row2) (hn:∀ b,row2=some b→w.heap.size≤b):w.grownBy w2 row :=
 ⟨k.os.trans h.os,k.tape.trans h.tape,k.output.trans h.output,Nat.le_trans h.size k.size,fun i hi hr=>(k.block i (Nat.lt_of_lt_of_le hi h.size) (fun e=>by have:=hn i e.symm; omega)).trans (h.block i hi hr)⟩
theorem grownBy_refl (w:World) (row:Option Nat):w.grownBy w row:=⟨rfl,rfl,rfl,zG _,fun _ _ _=>rfl⟩
theorem grownBy_below {w w1 w2:World} {row:Option Nat} (h:w.grownBy w1 row) (k:Below w1.heap.size w1 w2):w.grownBy w2 row:=grownBy_trans h (grow_of_below k row)
theorem grownBy_set (w:World) (g:Nat) (i:Nat) (u:Value):w.grownBy (w.setCell ⟨g,i,none⟩ u) (some g) :=
 ⟨rfl,rfl,rfl,by simp [World.setCell],fun k _ hk=>Below.heap_setCell _ _ _ _ (fun e=>hk (by rw [e]))⟩
theorem below_of_grown {w w1 w2:World} {g:Nat} (h:Below w.heap.size w w1) (k:w1.grownBy w2 (some g)) (hg:w.heap.size≤g):Below w.heap.size w w2 :=
 h.grown k h.size (fun b e=>by injection e with e; omega)
end Go.Proofs.YtlfpfkallgkjdaaGreat.Qp
end

section
namespace Go.Proofs.YtlfpfkallgkjdaaGreat.Qp
open Go.RowKit Ut Tk Qy
structure Rd (B:Nat) (w:World) (g:Nat) (l:List P):Prop where
 ex:∃ A n c,Blk w g 139 #[.slice A n c]∧l.length=n∧n≤c∧ReadsS w (fun b=>b<B∧b≠g) 1 A n (sv l)
 low:B≤w.heap.size
 ne:∀ x∈l,x≠[]
 many:l.length≤1048576
theorem Rd.lt {B:Nat} {w:World} {g:Nat} {l:List P} (h:Rd B w g l):g<w.heap.size:=by
 obtain ⟨A,n,c,hB,_⟩:=h.ex
 exact hB.lt
theorem Rd.other {B:Nat} {w w':World} {g:Nat} {l:List P} {row:Option Nat} (h:Rd B w g l) (hg:w.grownBy w' row) (hr:∀ b,row=some b→B≤b∧b≠g):Rd B w' g l:=by
 obtain ⟨A,n,c,hB,hn,hc,hR⟩:=h.ex
 refine ⟨⟨A,n,c,hB.grown hg (fun e=>(hr g e.symm).2 rfl),hn,hc,hR.keep fun b o hS=>World.cell?_of_block (w:=w) (hg.block b (Nat.lt_of_lt_of_le hS.1 h.low) (fun e=>?_))⟩,Nat.le_trans h.low hg.size,h.ne,h.many⟩
 have:=(hr b e.symm).1
 have:=hS.1
 omega
theorem Rd.below {B:Nat} {w w':World} {g:Nat} {l:List P} (h:Rd B w g l) (hb:Below w.heap.size w w'):Rd B w' g l :=
 h.other (grow_of_below hb none) (fun b e=>by cases e)
theorem Rd.grown {B:Nat} {w w':World} {g:Nat} {l:List P} {row:Option Nat} (h:Rd B w g l) (hg:w.grownBy w' row) (hr:∀ b,row=some b→w.heap.size≤b):Rd B w' g l :=
 h.below ((Below.refl _ _).grown hg (zG _) hr)
theorem str_ne (s:P) (h:s≠[]):(str s).toList.isEmpty=false:=by
 rw [tl,str_data]
 cases s with
 | nil=>exact absurd rfl h
 | cons a t=>rfl
theorem peek_nil (B:Nat) (w:World) (g:Nat) (h:Rd B w g []):Calls Tryz.prog 100 #[.pointer (some ⟨g,0,none⟩)] w fun e w'=>e=.returned (.string ByteArray.empty)∧w=w':=by
 obtain ⟨A,n,c,hB,hn,hc,hR⟩:=h.ex
 have h0:=hB.cell 0
 simp at h0
 obtain rfl:n=0:=by simpa using hn.symm
 clear hB hn hR h
 go_enter Tryz.func100,Tryz.ntmps100
 go_wp2
 go_ret
 exact ⟨rfl,rfl⟩
theorem peek_cons (B:Nat) (w:World) (g:Nat) (s:P) (l:List P) (h:Rd B w g (s :: l)):Calls Tryz.prog 100 #[.pointer (some ⟨g,0,none⟩)] w fun e w'=>e=.returned (.string (str s))∧w=w':=by
 obtain ⟨A,n,c,hB,hn,hc,hR⟩:=h.ex
 have h0:=hB.cell 0
 simp at h0
 have hn1 : 0<n:=by rw [← hn]; simp
 obtain ⟨b,o,rfl,hb,hcl⟩:=hR.2 hn1
 have h1:=hcl 0 (.string (str s)) rfl
 have hn2:((n:Int) == 0)=false:=by rw [beq_eq_false_iff_ne]; omega
 simp at h1
 clear hB hn hR h hcl hb
 go_enter Tryz.func100,Tryz.ntmps100
 go_wp2
 go_ret
 exact ⟨rfl,rfl⟩
theorem must_yes (g:Nat) (w:World):Calls Tryz.prog 63 #[.pointer (some ⟨g,0,none⟩),.bool true] w fun e w'=>e=.returned (.tuple #[])∧w=w':=by
 go_enter Tryz.func63,Tryz.ntmps63
 go_wp2
 go_end0
 exact ⟨rfl,rfl⟩
theorem must_no (g:Nat) (w:World):Calls Tryz.prog 63 #[.pointer (some ⟨g,0,none⟩),.bool false] w fun e w'=>e=.panicked [{ v:=.iface 134 (.agg #[.int .i64 170]),recovered:=false }]∧w=w':=by
 go_enter Tryz.func63,Tryz.ntmps63
 go_wp2
 exact ⟨rfl,rfl,rfl⟩
theorem next_nil (B:Nat) (w:World) (g:Nat) (h:Rd B w g []):Calls Tryz.prog 101 #[.pointer (some ⟨g,0,none⟩)] w fun e w'=>e=.returned (.string ByteArray.empty)∧w=w':=by
 have c0:=peek_nil B w g h
 clear h
 go_enter Tryz.func101,Tryz.ntmps101
 go_wp2_with (go_at_call 100; refine c0.mono ?_; rintro e w' ⟨rfl,rfl⟩)
 go_ret
 exact ⟨rfl,rfl⟩
theorem next_cons (B:Nat) (w:World) (g:Nat) (s:P) (l:List P) (h:Rd B w g (s :: l)):Calls Tryz.prog 101 #[.pointer (some ⟨g,0,none⟩)] w fun e w'=>e=.returned (.string (str s))∧Rd B w' g l∧w.grownBy w' (some g):=by
 have c0:=peek_cons B w g s l h
 obtain ⟨A,n,c,hB,hn,hc,hR⟩:=h.ex
 have h0:=hB.cell 0
 have hfz:=hB.frozen 0
 simp at h0
 have hn1 : 0<n:=by rw [← hn]; simp
 have he:=str_ne s (h.ne s (by simp))
 obtain ⟨b,o,rfl,hb,hcl⟩:=hR.2 hn1
 have Fin:∀ (A':Option Addr) (c':Nat),n - 1≤c'→(1<n→A'=some ⟨b,o+1,none⟩)→Rd B (w.setCell ⟨g,0,none⟩ (.slice A' (n - 1) c')) g l:=fun A' c' h1 h2=>by
  refine ⟨⟨A',n - 1,c',hB.set_ 0 _,by rw [List.length_cons] at hn; omega,h1,⟨by rw [sv_len]; rw [List.length_cons] at hn; omega,fun hp=>?_⟩⟩,by simpa [World.setCell] using h.low,fun x hx=>h.ne x (by simp [hx]),by have:=h.many; rw [List.length_cons] at this; omega⟩
  refine ⟨b,o+1,h2 (by omega),hb,fun j u hu=>?_⟩
  have:=hcl (j+1) u (by simpa [sv] using hu)
  rw [World.cell?_of_block (w:=w) (Below.heap_setCell w ⟨g,0,none⟩ _ b hb.2)]
  rw [← this]; congr 2; omega
 have FIN:=zh Fin
 clear Fin hB hn hR h hcl
 by_cases hc1:c=1
 ·obtain rfl:n=1:=by omega
  subst hc1
  go_enter Tryz.func101,Tryz.ntmps101
  go_wp2_with (go_at_call 100; refine c0.mono ?_; rintro e w' ⟨rfl,rfl⟩)
  go_ret
  exact ⟨rfl,FIN.out _ _ (zG _) (fun h=>absurd h (by omega)),grownBy_set w g 0 _⟩
 ·go_enter Tryz.func101,Tryz.ntmps101
  go_wp2_with (go_at_call 100; refine c0.mono ?_; rintro e w' ⟨rfl,rfl⟩)
  go_ret
  exact ⟨rfl,FIN.out _ _ (by omega) (fun h=>rfl),grownBy_set w g 0 _⟩
end Go.Proofs.YtlfpfkallgkjdaaGreat.Qp
end

section
namespace Go.Proofs.YtlfpfkallgkjdaaGreat.Qp
open Go.RowKit Ut Tk Qy
def set4 (w:World) (g:Nat) (a b c d:Value):World:=(((w.setCell ⟨g,0,none⟩ a).setCell ⟨g,1,none⟩ b).setCell ⟨g,2,none⟩ c).setCell ⟨g,3,none⟩ d
theorem _root_.Go.Proofs.YtlfpfkallgkjdaaGreat.Blk.four {w:World} {g:Nat} {t:TypeId} {x0 x1 x2 x3:Value} (h:Blk w g t #[x0,x1,x2,x3]) :
  w.cell? ⟨g,0,none⟩=some x0∧w.cell? ⟨g,1,none⟩=some x1∧w.cell? ⟨g,2,none⟩=some x2∧w.cell? ⟨g,3,none⟩=some x3 ∧
  w.frozen? ⟨g,0,none⟩=false∧w.frozen? ⟨g,1,none⟩=false∧w.frozen? ⟨g,2,none⟩=false∧w.frozen? ⟨g,3,none⟩=false :=
 ⟨h.cell 0,h.cell 1,h.cell 2,h.cell 3,h.frozen 0,h.frozen 1,h.frozen 2,h.frozen 3⟩
theorem _root_.Go.Proofs.YtlfpfkallgkjdaaGreat.Blk.set4 {w:World} {g:Nat} {t:TypeId} {x0 x1 x2 x3:Value} (h:Blk w g t #[x0,x1,x2,x3]) (a b c d:Value):Blk (set4 w g a b c d) g t #[a,b,c,d] :=
 (((h.set_ 0 a).set_ 1 b).set_ 2 c).set_ 3 d
theorem set4_other (w:World) (g k:Nat) (a b c d:Value) (h:k≠g):(set4 w g a b c d).heap[k]?=w.heap[k]?:=by
 unfold set4
 rw [Below.heap_setCell _ _ _ _ h,Below.heap_setCell _ _ _ _ h,Below.heap_setCell _ _ _ _ h,Below.heap_setCell _ _ _ _ h]
theorem set4_size (w:World) (g:Nat) (a b c d:Value):(set4 w g a b c d).heap.size=w.heap.size:=by simp [set4,World.setCell]
theorem below_set4 {B g:Nat} {w0 w:World} (hb:Below B w0 w) (hBg:B≤g) (a b c d:Value):Below B w0 (set4 w g a b c d) :=
 (((hb.setCell (p:=⟨g,0,none⟩) hBg a).setCell (p:=⟨g,1,none⟩) hBg b).setCell (p:=⟨g,2,none⟩) hBg c).setCell (p:=⟨g,3,none⟩) hBg d
def OkQ (base:Nat) (w:World) (q:Q) (e:Ending) (w':World):Prop:=∃ a0 a1 a2 a3,e=.returned (.agg #[a0,a1,a2,a3])∧QF w' (fun b=>base≤b∧b<w'.heap.size) q [a0,a1,a2,a3]∧Below w.heap.size w w'
def badE:Ending:=.panicked [{ v:=.iface 134 (.agg #[.int .i64 170]),recovered:=false }]
def LfPost (w:World) (o:Option Q) (e:Ending) (w':World):Prop :=
 match o with
 | some q=>OkQ w.heap.size w q e w'
 | none=>e=badE∧Below w.heap.size w w'
theorem QF.grow {w w':World} {base:Nat} {q:Q} {vs:List Value} (h:QF w (fun b=>base≤b∧b<w.heap.size) q vs) (hb:Below w.heap.size w w'):QF w' (fun b=>base≤b∧b<w'.heap.size) q vs :=
 (h.keep fun _ _ hS=>hb.cell (p:=⟨_,_,none⟩) hS.2).mono fun _ hS=>⟨hS.1,Nat.lt_of_lt_of_le hS.2 hb.size⟩
theorem oneQ_many (k:Int) (l:List Q) (h:l.length≠1):oneQ k l=.mk k ByteArray.empty [] l:=by
 match l,h with
 | [],_=>rfl
 | [q],h=>simp at h
 | _ :: _ :: _,_=>rfl
set_option maxHeartbeats 800000 in
theorem one_any (base:Nat) (k:Int) (v:Value) (l:List Q) (vss:List (List Value)) (w:World) (hQ:Qs base w v l vss) (hl:l≠[]):Calls Tryz.prog 102 #[.int .i64 k,v] w (OkQ base w (oneQ k l)):=by
 by_cases h1:l.length=1
 ·obtain ⟨q,rfl⟩:=List.length_eq_one_iff.1 h1
  obtain ⟨b,d,A,n,c,C,m,d',rfl,hb,hbase,c0,c1,c2,c3,hF⟩:=hQ.first
  have hh:=Blk.new w 52 #[.int .i64 q.kind,.string q.name,.slice A n c,.slice C m d']
  have hbl:=(Below.refl w.heap.size w).alloc (zG _) (.cells #[.int .i64 q.kind,.string q.name,.slice A n c,.slice C m d'] 52)
  have HF:=zh (hF.grow hbl)
  have Hbl:=zh hbl
  clear hQ hl h1 hF hbl
  go_enter Tryz.func102,Tryz.ntmps102
  go_wp2_with fail
  exact bodyPost_ret (results_cell rfl rfl (run_loadVar_row _ w.heap.size 52 52 #[.int .i64 q.kind,.string q.name,.slice A n c,.slice C m d'] (0,0) _ hh Tryz.underlying52 rfl (by kernel_rfl))) rfl ⟨_,_,_,_,rfl,HF.out,Hbl.out⟩
 ·rw [oneQ_many k l h1]
  obtain ⟨C,d,rfl,hF⟩:=hQ.query k
  have hbl:=(Below.refl w.heap.size w).alloc (zG _) (.cells #[.int .i64 k,.string ByteArray.empty,.slice none 0 0,.slice C l.length d] 52)
  have hh:=Blk.new w 52 #[.int .i64 k,.string ByteArray.empty,.slice none 0 0,.slice C l.length d]
  have HF:=zh (hF.grow hbl)
  have Hbl:=zh hbl
  have h1':((l.length:Int) == 1)=false:=by rw [beq_eq_false_iff_ne]; omega
  clear hQ hl h1 hF hbl
  generalize l.length=n at *
  go_enter Tryz.func102,Tryz.ntmps102
  go_wp2_with fail
  exact bodyPost_ret (results_cell rfl rfl (run_loadVar_row _ w.heap.size 52 52 #[.int .i64 k,.string ByteArray.empty,.slice none 0 0,.slice C n d] (0,0) _ hh Tryz.underlying52 rfl (by kernel_rfl))) rfl ⟨_,_,_,_,rfl,HF.out,Hbl.out⟩
set_option maxHeartbeats 800000 in
theorem words_q (g:Nat) (nm s:ByteArray) (w:World) (hs:s.size≤1048576):Calls Tryz.prog 189 #[.pointer (some ⟨g,0,none⟩),.string nm,.string s] w (LfPost w (wordsQ nm.data.toList (words s.data.toList))):=by
 have hb0:=(Below.refl w.heap.size w).alloc (zG _) (.cells #[.int .i64 0,.string ByteArray.empty,.slice none 0 0,.slice none 0 0] 52)
 have c0:=words_any s (w.alloc (.cells #[.int .i64 0,.string ByteArray.empty,.slice none 0 0,.slice none 0 0] 52)) hs
 have hB:=Blk.new w 52 #[.int .i64 0,.string ByteArray.empty,.slice none 0 0,.slice none 0 0]
 have hz:(w.alloc (.cells #[.int .i64 0,.string ByteArray.empty,.slice none 0 0,.slice none 0 0] 52)).heap.size=w.heap.size+1:=by simp
 have HB:=zh hB
 have Hb0:=zh hb0
 have Hz:=zh hz
 have Hnm:=zh (of_str nm)
 have hwl:=words_len s
 clear hB hb0 hz
 generalize words s.data.toList=l at *
 go_enter Tryz.func189,Tryz.ntmps189
 go_wp2_with fail
 refine c0.mono ?_
 rintro e w2 ⟨v,rfl,hown,hb⟩
 have hsz:w.heap.size+1≤w2.heap.size:=by have:=hb.size; rw [Hz.out] at this; exact this
 rw [Hz.out] at hown
 obtain ⟨A,c,rfl,_⟩:=own_shape hown
 have hB2:=HB.out.below hb (by rw [Hz.out]; omega)
 have hR:=(ReadsS.of_own hown).mono (S':=fun b=>w.heap.size+1≤b∧b<w2.heap.size) fun b hS=>⟨hS.1,hS.2.1⟩
 have Hb2:=zh (Hb0.out.trans (hb.mono (by rw [Hz.out]; omega)))
 have HR:=zh hR
 have hlt:=hB2.lt
 have HB2:=zh hB2
 obtain ⟨q0,q1,q2,q3,f0,f1,f2,f3⟩:=HB2.out.four
 clear hown hb hR c0 hB2
 by_cases h0:l.length=0
 ·have Fin:Hid (wordsQ nm.data.toList l=none):=zh (by unfold wordsQ; rw [if_pos (List.length_eq_zero_iff.1 h0)])
  have h0':decide (0<(l.length:Int))=false:=decide_eq_false (by omega)
  have h0'':(l.length:Int)≤0:=by omega
  clear HR
  generalize l.length=n at *
  obtain rfl:n=0:=h0
  go_wp2_with (go_at_call 63; refine (must_no g _).mono ?_; rintro e w' ⟨rfl,rfl⟩)
  exact ⟨rfl,by rw [Fin.out]; exact ⟨rfl,Hb2.out⟩⟩
 ·have h0':(0:Int)<(l.length:Int):=by omega
  by_cases h1:l.length=1
  ·have Fin:Hid (wordsQ nm.data.toList l=some (.mk 2 nm (l.map str) [])):=zh (by
    unfold wordsQ; rw [if_neg (fun e=>h0 (by rw [e]; rfl)),if_pos h1,Hnm.out])
   generalize hn:l.length=n at *
   have Hn:=zh hn
   have h0d:decide (0<n)=true:=decide_eq_true (by omega)
   clear hn h0
   have h1':((n:Int) == 1)=true:=by rw [h1]; rfl
   clear h1
   have hF:QF (set4 w2 w.heap.size (.int .i64 2) (.string nm) (.slice A n c) (.slice none 0 0)) (fun b=>w.heap.size≤b∧b<(set4 w2 w.heap.size (.int .i64 2) (.string nm) (.slice A n c) (.slice none 0 0)).heap.size) (.mk 2 nm (l.map str) []) [.int .i64 2,.string nm,.slice A n c,.slice none 0 0] :=
    .mk [] (by rw [List.length_map]; exact Hn.out) ((HR.out.keep fun b o hS=>World.cell?_of_block (w:=w2) (set4_other w2 w.heap.size b _ _ _ _ (by omega))).mono fun b hS=>⟨by omega,by rw [set4_size]; exact hS.2⟩) rfl rfl (by simp) ReadsS.none_ (fun i hi=>absurd hi (by simp))
   have hbl:=below_set4 Hb2.out (zG _) (.int .i64 2) (.string nm) (.slice A n c) (.slice none 0 0)
   have hh:=HB2.out.set4 (.int .i64 2) (.string nm) (.slice A n c) (.slice none 0 0)
   have HF:=zh hF
   have Hbl:=zh hbl
   have Hh:=zh hh
   clear hF hbl hh HR Hb2
   go_wp2_with (go_at_call 63; refine (must_yes g _).mono ?_; rintro e w' ⟨rfl,rfl⟩)
   refine bodyPost_ret (results_cell rfl rfl (run_loadVar_row _ w.heap.size 52 52 #[.int .i64 2,.string nm,.slice A n c,.slice none 0 0] (0,0) _ Hh.out Tryz.underlying52 rfl (by kernel_rfl))) rfl ?_
   rw [Fin.out]
   exact ⟨_,_,_,_,rfl,HF.out,Hbl.out⟩
  ·have Fin:Hid (wordsQ nm.data.toList l=some (.mk 4 nm (l.map str) [])):=zh (by
    unfold wordsQ; rw [if_neg (fun e=>h0 (by rw [e]; rfl)),if_neg h1,Hnm.out])
   generalize hn:l.length=n at *
   have Hn:=zh hn
   have h0d:decide (0<n)=true:=decide_eq_true (by omega)
   clear hn h0
   have h1':((n:Int) == 1)=false:=by rw [beq_eq_false_iff_ne]; omega
   clear h1
   have hF:QF (set4 w2 w.heap.size (.int .i64 4) (.string nm) (.slice A n c) (.slice none 0 0)) (fun b=>w.heap.size≤b∧b<(set4 w2 w.heap.size (.int .i64 4) (.string nm) (.slice A n c) (.slice none 0 0)).heap.size) (.mk 4 nm (l.map str) []) [.int .i64 4,.string nm,.slice A n c,.slice none 0 0] :=
    .mk [] (by rw [List.length_map]; exact Hn.out) ((HR.out.keep fun b o hS=>World.cell?_of_block (w:=w2) (set4_other w2 w.heap.size b _ _ _ _ (by omega))).mono fun b hS=>⟨by omega,by rw [set4_size]; exact hS.2⟩) rfl rfl (by simp) ReadsS.none_ (fun i hi=>absurd hi (by simp))
   have hbl:=below_set4 Hb2.out (zG _) (.int .i64 4) (.string nm) (.slice A n c) (.slice none 0 0)
   have hh:=HB2.out.set4 (.int .i64 4) (.string nm) (.slice A n c) (.slice none 0 0)
   have HF:=zh hF
   have Hbl:=zh hbl
   have Hh:=zh hh
   clear hF hbl hh HR Hb2
   go_wp2_with (go_at_call 63; refine (must_yes g _).mono ?_; rintro e w' ⟨rfl,rfl⟩)
   refine bodyPost_ret (results_cell rfl rfl (run_loadVar_row _ w.heap.size 52 52 #[.int .i64 4,.string nm,.slice A n c,.slice none 0 0] (0,0) _ Hh.out Tryz.underlying52 rfl (by kernel_rfl))) rfl ?_
   rw [Fin.out]
   exact ⟨_,_,_,_,rfl,HF.out,Hbl.out⟩
end Go.Proofs.YtlfpfkallgkjdaaGreat.Qp
end

section
namespace Go.Proofs.YtlfpfkallgkjdaaGreat.Ut
open Go.RowKit
set_option maxHeartbeats 800000 in
theorem runes_ref (s:ByteArray) (w:World) (hs:s.size≤4398046511104) :
  Calls Tryz.prog 135 #[.string s] w fun e w'=>∃ v,e=.returned v∧w'.ownsRow w.heap.size 3 1 v (runes s.data.toList).length (rv (runes s.data.toList))∧Below w.heap.size w w':=by
 obtain ⟨i0,hi0,hz0,hz1,hz2⟩:=info_parts int_info
 go_enter Tryz.func135,Tryz.ntmps135
 go_wp2
 go_loopw [3,4] (fun v i wr=>∃ (k:Nat) (l:List Nat),k≤s.size∧i=.int .i64 k∧l.length≤k∧runes s.data.toList=l ++ runes (s.data.toList.drop k)∧wr.ownsRow w.heap.size 3 1 v l.length (rv l)∧Below w.heap.size w wr)
  (fun _ i _=>s.size - (intOf i).toNat)
 case atStart=>exact ⟨0,[],Nat.zero_le _,rfl,by simp,rfl,World.ownsRow_nil _ _ _ _,Below.refl _ _⟩
 case round =>
  obtain ⟨k,l,hk,rfl,hlk,hru,hown,hb⟩:=hrel
  by_cases hlt:k<s.size
  ·have hne:s.data.toList.drop k≠[]:=by rw [drop_cons s k hlt]; simp
   have hsz:=dec_size _ hne
   rw [List.length_drop,bsize] at hsz
   have hrc:=runes_cons _ hne
   rw [hrc,List.drop_drop] at hru
   have c:=decr_any s (k:Int) wr (by omega)
   rw [decAt_nat] at c
   have Hru:=zh hru
   clear hrc hru hne
   generalize dec (s.data.toList.drop k)=d at *
   have hd1:=hsz.1
   have hd2:=hsz.2.1
   have hd4:=hsz.2.2
   clear hsz
   go_wp2_with fail
   refine c.mono ?_
   rintro e wr ⟨rfl,rfl⟩
   have hbw:=hb
   have hown2:=hown
   have hsz2:=hbw.size
   go_wp2_with (at_builtin; refine wpList_append_own _ rfl _ _ 38 rfl w.heap.size 3 i0 (.int .i64 0) 1 8 Tryz.underlying38 hi0 hz0 hz1 hz2 rfl (by decide) _ _ _ rfl (hown2.alloc _) ⟨wr.heap.size,0,none⟩ 1 1 [.int .i64 (d.1:Int)] rfl rfl ?c1 ?c2 ?c3 ?c4 ?c5 ?_)
   case c1=>exact World.news_of_block (cs:=#[.int .i64 (d.1:Int)]) (t:=3) (fr:=(0,0)) (heap_alloc_new wr _)
   case c2=>intro u hu; simp at hu; subst hu; rfl
   case c3=>unfold maxLen; omega
   case c4=>omega
   case c5=>simp; omega
   intro v' w3 hown3 hg3 _
   have hb3:Below w.heap.size w w3:=(hbw.alloc hsz2 _).grown hg3 (by simp; omega) (fun j hj=>(hown2.lt _ hj).1)
   have Hb3:=zh hb3
   have Hown3:=zh hown3
   clear hb3 hown3 hg3 hown2 hbw hown hb
   go_wp2
   go_roundw
   case rel=>exact ⟨k+d.2,l ++ [d.1],by omega,by go_num,by rw [List.length_append]; simp; omega,by rw [Hru.out]; simp,by
     rw [List.length_append]
     have:=Hown3.out
     simpa [rv] using this,Hb3.out⟩
   case measure=>simp [intOf]; omega
  ·have hd0:s.data.toList.drop k=[]:=drop_out s k (by omega)
   rw [hd0,runes_nil,List.append_nil] at hru
   have Hru:=zh hru
   clear hru hd0
   go_wp2
   go_ret
   exact ⟨_,rfl,by rw [Hru.out]; exact hown,hb⟩
end Go.Proofs.YtlfpfkallgkjdaaGreat.Ut
end
