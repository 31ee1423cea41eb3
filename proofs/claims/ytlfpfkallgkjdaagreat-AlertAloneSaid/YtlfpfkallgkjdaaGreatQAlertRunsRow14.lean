/- strings.Cut at one byte, strings.Contains of one byte: the walks. -/
import Derived.Test.YtlfpfkallgkjdaaGreatQAlertRunsRow13
import Derived.Test.YtlfpfkallgkjdaaGreatQAlertRunsRow0
import Derived.Test.YtlfpfkallgkjdaaGreatQAlertRunsRow16
set_option linter.unusedSimpArgs false
set_option maxRecDepth 20000
section
namespace Go.Proofs.YtlfpfkallgkjdaaGreat.Tk
open Go.RowKit Ut
def atC (c:UInt8) (l:List UInt8):Nat:=l.findIdx (· == c)
theorem index_c (c:UInt8) (l:List UInt8):Lib.indexByte l c=if atC c l<l.length then ((atC c l:Nat):Int) else -1:=by
 unfold atC
 induction l with
 | nil=>rfl
 | cons x l ih =>
  rw [Lib.indexByte,List.findIdx_cons]
  by_cases hx:(x == c)=true
  ·rw [hx]; simp
  ·have hx':(x == c)=false:=by simpa using hx
   rw [hx',ih]
   simp only [Bool.false_eq_true,if_false,cond_false,List.length_cons]
   generalize l.findIdx (fun x=>x == c)=n
   by_cases h:n<l.length
   ·have h':n+1<l.length+1:=by omega
    rw [if_pos h,if_pos h',if_neg (by simp)]
    simp
   ·have h':¬ n+1<l.length+1:=by omega
    rw [if_neg h,if_neg h']
    simp
def oneS (c:UInt8):ByteArray:=⟨#[c]⟩
theorem index_one (c:UInt8) (s:ByteArray) (w:World):Calls Tryz.prog 199 #[.string s,.string (oneS c)] w fun e w'=>e=.returned (.int .i64 (if atC c s.data.toList<s.size then ((atC c s.data.toList:Nat):Int) else -1))∧w=w' :=
 (Tryz.stringslite_Index_one s c w).mono fun _ _ ⟨he,hw⟩=>⟨by rw [he,index_c,bsize],hw.symm⟩
def befC (c:UInt8) (s:ByteArray):ByteArray:=s.extract 0 (atC c s.data.toList)
def behC (c:UInt8) (s:ByteArray):ByteArray:=s.extract (atC c s.data.toList+1) s.size
theorem befC_data (c:UInt8) (s:ByteArray):(befC c s).data.toList=s.data.toList.take (atC c s.data.toList):=by unfold befC; rw [Lib.extract_data]; simp
theorem behC_data (c:UInt8) (s:ByteArray):(behC c s).data.toList=s.data.toList.drop (atC c s.data.toList+1):=by
 unfold behC; rw [Lib.extract_data,List.take_of_length_le (by rw [List.length_drop,bsize]; omega)]
theorem befC_size (c:UInt8) (s:ByteArray):(befC c s).size≤s.size:=by unfold befC; rw [ByteArray.size_extract]; omega
theorem behC_size (c:UInt8) (s:ByteArray):(behC c s).size≤s.size:=by unfold behC; rw [ByteArray.size_extract]; omega
set_option maxHeartbeats 400000 in
theorem lcutC_yes (c:UInt8) (s:ByteArray) (w:World) (hs:s.size≤1048576) (h:atC c s.data.toList<s.size):Calls Tryz.prog 196 #[.string s,.string (oneS c)] w fun e w'=>e=.returned (.tuple #[.string (befC c s),.string (behC c s),.bool true])∧Below w.heap.size w w':=by
 have cc:=index_one c s w
 rw [if_pos h] at cc
 have F1:Hid (befC c s=s.extract 0 (atC c s.data.toList)):=rfl
 have F2:Hid (behC c s=s.extract (atC c s.data.toList+1) s.size):=rfl
 have hcs:(oneS c).size=1:=rfl
 generalize atC c s.data.toList=k at *
 generalize befC c s=x at *
 generalize behC c s=y at *
 generalize oneS c=sep at *
 have h0:(0:Int)≤(k:Int):=by omega
 have h1:(k:Int)≤(s.size:Int):=by omega
 have h2:IntKind.i64.wrap ((k:Int)+1)=(k:Int)+1:=IntWalk.i64_in _ (by omega)
 have h3:(0:Int)≤(k:Int)+1:=by omega
 have h4:(k:Int)+1≤(s.size:Int):=by omega
 go_enter Tryz.func196,Tryz.ntmps196
 go_wp2_with (go_at_call 199; refine cc.mono ?_; rintro e w' ⟨rfl,rfl⟩)
 go_region
 go_wp2
 go_ret3
 rw [F1.out,F2.out]
 exact ⟨rfl,(Below.refl _ _).drew⟩
theorem lcutC_no (c:UInt8) (s:ByteArray) (w:World) (h:¬ atC c s.data.toList<s.size):Calls Tryz.prog 196 #[.string s,.string (oneS c)] w fun e w'=>e=.returned (.tuple #[.string s,.string ByteArray.empty,.bool false])∧Below w.heap.size w w':=by
 have cc:=index_one c s w
 rw [if_neg h] at cc
 clear h
 generalize oneS c=sep at *
 go_enter Tryz.func196,Tryz.ntmps196
 go_wp2_with (go_at_call 199; refine cc.mono ?_; rintro e w' ⟨rfl,rfl⟩)
 go_ret3
 exact ⟨rfl,Below.refl _ _⟩
theorem cutC_yes (c:UInt8) (s:ByteArray) (w:World) (hs:s.size≤1048576) (h:atC c s.data.toList<s.size):Calls Tryz.prog 187 #[.string s,.string (oneS c)] w fun e w'=>e=.returned (.tuple #[.string (befC c s),.string (behC c s),.bool true])∧Below w.heap.size w w':=by
 have cc:=lcutC_yes c s w hs h
 generalize oneS c=sep at *
 go_enter Tryz.func187,Tryz.ntmps187
 go_wp2_with (go_at_call 196; refine cc.mono ?_; rintro e w2 ⟨rfl,hb2⟩)
 go_ret3
 exact ⟨rfl,hb2⟩
theorem cutC_no (c:UInt8) (s:ByteArray) (w:World) (h:¬ atC c s.data.toList<s.size):Calls Tryz.prog 187 #[.string s,.string (oneS c)] w fun e w'=>e=.returned (.tuple #[.string s,.string ByteArray.empty,.bool false])∧Below w.heap.size w w':=by
 have cc:=lcutC_no c s w h
 generalize oneS c=sep at *
 go_enter Tryz.func187,Tryz.ntmps187
 go_wp2_with (go_at_call 196; refine cc.mono ?_; rintro e w2 ⟨rfl,hb2⟩)
 go_ret3
 exact ⟨rfl,hb2⟩
def headC (c:UInt8) (s:ByteArray):ByteArray:=if atC c s.data.toList<s.size then befC c s else s
theorem headC_data (c:UInt8) (s:ByteArray):(headC c s).data.toList=s.data.toList.take (atC c s.data.toList):=by
 unfold headC
 split
 ·exact befC_data c s
 ·rw [List.take_of_length_le (by rw [bsize]; omega)]
def CutHead (c:UInt8) (s:ByteArray) (w:World) (e:Ending) (w':World):Prop:=∃ (y:ByteArray) (b:Bool),e=.returned (.tuple #[.string (headC c s),.string y,.bool b])∧Below w.heap.size w w'
theorem cutC_head (c:UInt8) (s:ByteArray) (w:World) (hs:s.size≤1048576):Calls Tryz.prog 187 #[.string s,.string (oneS c)] w (CutHead c s w):=by
 by_cases h:atC c s.data.toList<s.size
 ·refine (cutC_yes c s w hs h).mono fun e w' ⟨he,hb⟩=>⟨behC c s,true,?_,hb⟩
  rw [he]; unfold headC; rw [if_pos h]
 ·refine (cutC_no c s w h).mono fun e w' ⟨he,hb⟩=>⟨ByteArray.empty,false,?_,hb⟩
  rw [he]; unfold headC; rw [if_neg h]
def hasC (c:UInt8) (s:ByteArray):Bool:=decide (atC c s.data.toList<s.size)
theorem containsC (c:UInt8) (s:ByteArray) (w:World):Calls Tryz.prog 188 #[.string s,.string (oneS c)] w fun e w'=>e=.returned (.bool (hasC c s))∧w=w' :=
 (Tryz.strings_Contains_one s c w).mono fun _ _ ⟨he,hw⟩=>⟨by
  rw [he,index_c,bsize]
  unfold hasC
  congr 2
  split
  ·rename_i h
   rw [decide_eq_true h]; simp
  ·rename_i h
   rw [decide_eq_false h]; rfl,hw.symm⟩
end Go.Proofs.YtlfpfkallgkjdaaGreat.Tk
end

section
namespace Go.Proofs.YtlfpfkallgkjdaaGreat.Tk
open Go.RowKit Ut
def colonS:ByteArray:=⟨#[58]⟩
def bef (s:ByteArray):ByteArray:=s.extract 0 (colonAt s.data.toList)
def termV (a b:ByteArray):ByteArray:=str (term a.data.toList b.data.toList)
def termOk (a b:ByteArray):Bool:=isN a.data.toList && isW b.data.toList
theorem termV_eq (a b:ByteArray):a ++ colonS ++ b=termV a b:=by
 have h:∀ x y:ByteArray,(x ++ y).data.toList=x.data.toList ++ y.data.toList:=fun x y=>by simp
 rw [← of_str (a ++ colonS ++ b)]
 unfold termV term
 rw [h,h]
 simp [colonS]
set_option maxHeartbeats 400000 in
theorem term_noB (a b:ByteArray) (w:World) (ha:a.size≤140737488351232) (hb:b.size≤140737488351232) (h:termOk a b=false):Calls Tryz.prog 69 #[.string a,.string b] w fun e w'=>e=.returned (.tuple #[.string ByteArray.empty,.int .i64 1])∧Below w.heap.size w w':=by
 have c1:=isName_anyB a w ha
 by_cases hn:isN a.data.toList=true
 ·have hw:isW b.data.toList=false:=by unfold termOk at h; rw [hn,Bool.true_and] at h; exact h
  have c2:=fun wx=>isWord_anyB b wx hb
  rw [hn] at c1
  rw [hw] at c2
  have C2:=zh c2
  clear hn hw c2 h
  go_enter Tryz.func69,Tryz.ntmps69
  go_wp2_with (first | (go_at_call 104; refine c1.mono ?_; rintro e w2 ⟨rfl,hb2⟩) | (go_at_call 105; refine (C2.out _).mono ?_; rintro e w3 ⟨rfl,hb3⟩))
  go_ret2
  exact ⟨rfl,hb2.trans (hb3.mono hb2.size)⟩
 ·have hn':isN a.data.toList=false:=by simpa using hn
  rw [hn'] at c1
  clear hn hn' h
  go_enter Tryz.func69,Tryz.ntmps69
  go_wp2_with (go_at_call 104; refine c1.mono ?_; rintro e w2 ⟨rfl,hb2⟩)
  go_ret2
  exact ⟨rfl,hb2⟩
set_option maxHeartbeats 400000 in
theorem term_yesB (a b:ByteArray) (w:World) (ha:a.size≤140737488351232) (hb:b.size≤140737488351232) (h:termOk a b=true):Calls Tryz.prog 69 #[.string a,.string b] w fun e w'=>e=.returned (.tuple #[.string (termV a b),.int .i64 0])∧Below w.heap.size w w':=by
 unfold termOk at h
 rw [Bool.and_eq_true] at h
 have c1:=isName_anyB a w ha
 have c2:=fun wx=>isWord_anyB b wx hb
 rw [h.1] at c1
 rw [h.2] at c2
 have C2:=zh c2
 have F:Hid (a ++ colonS ++ b=termV a b):=zh (termV_eq a b)
 clear h c2
 generalize termV a b=t at *
 go_enter Tryz.func69,Tryz.ntmps69
 go_wp2_with (first | (go_at_call 104; refine c1.mono ?_; rintro e w2 ⟨rfl,hb2⟩) | (go_at_call 105; refine (C2.out _).mono ?_; rintro e w3 ⟨rfl,hb3⟩))
 go_ret2
 rw [← F.out]
 exact ⟨rfl,hb2.trans (hb3.mono hb2.size)⟩
end Go.Proofs.YtlfpfkallgkjdaaGreat.Tk
end

section
namespace Go.Proofs.YtlfpfkallgkjdaaGreat.Qp
open Go.RowKit Ut Tk Qy
theorem indexB (l:List UInt8) (c:UInt8):(0≤Lib.indexByte l c)↔c∈l:=by
 rw [index_c]
 unfold atC
 by_cases h:c∈l
 ·have:l.findIdx (· == c)<l.length:=List.findIdx_lt_length.2 ⟨c,h,by simp⟩
  rw [if_pos this]
  simp [h]
 ·have:¬ l.findIdx (· == c)<l.length:=fun e=>by
   obtain ⟨x,hx,he⟩:=List.findIdx_lt_length.1 e
   rw [beq_iff_eq.1 he] at hx
   exact h hx
  rw [if_neg this]
  simp [h]
theorem ret_int {k:IntKind} {a b:Int} (h:b=a):Ending.returned (.int k a)=.returned (.int k b):=by rw [h]
def endsS:ByteArray:=⟨#[32,9,40,41,34]⟩
theorem ends_ix (c:UInt8):decide (0≤Lib.indexByte endsS.data.toList c)=ends c:=by
 rw [Bool.eq_iff_iff,decide_eq_true_iff,indexB]
 unfold ends endsS
 simp [or_assoc]
theorem ends_any (c:UInt8) (w:World):Calls Tryz.prog 141 #[.int .u8 (c.toNat:Int)] w fun e w'=>e=.returned (.bool (ends c))∧w=w':=by
 have c0:=(Tryz.strings_IndexByte endsS (c.toNat:Int) w)
 have e0:(c.toNat:Int).toNat.toUInt8=c:=by simp
 rw [e0] at c0
 have hx:=ends_ix c
 generalize Lib.indexByte endsS.data.toList c=r at *
 rw [← hx]
 clear hx e0
 go_enter Tryz.func141,Tryz.ntmps141
 go_wp2_with (go_at_call 171; refine c0.mono ?_; rintro e w' ⟨rfl,rfl⟩)
 go_ret
 exact ⟨rfl,rfl⟩
def tailS (s:ByteArray):ByteArray:=s.extract 1 s.size
theorem tailS_data (s:ByteArray):(tailS s).data.toList=s.data.toList.tail:=by
 unfold tailS; rw [Lib.extract_data,List.take_of_length_le (by rw [List.length_drop,bsize]; omega),List.drop_one]
set_option maxHeartbeats 400000 in
theorem quoted_any (s:ByteArray) (w:World) (h1 : 1≤s.size) (hs:s.size≤1048576):Calls Tryz.prog 140 #[.string s] w fun e w'=>e=.returned (.int .i64 (quotedN s.data.toList:Nat))∧w=w':=by
 have c0:=(Tryz.strings_IndexByte (tailS s) 34 w)
 have e0:(34:Int).toNat.toUInt8=34:=by decide
 rw [e0,tailS_data,index_c] at c0
 have F1:Hid (tailS s=s.extract 1 s.size):=rfl
 have hq:Hid (quotedN s.data.toList=if atC 34 s.data.toList.tail<s.data.toList.tail.length then atC 34 s.data.toList.tail+2 else 0):=rfl
 have hl:s.data.toList.tail.length≤1048576:=by rw [List.length_tail,bsize]; omega
 generalize atC 34 s.data.toList.tail=k at *
 generalize s.data.toList.tail.length=n at *
 by_cases hk:k<n
 ·rw [if_pos hk] at c0
  have F2:Hid (quotedN s.data.toList=k+2):=zh (by rw [hq.out,if_pos hk])
  rw [F2.out]
  have hk2:(k:Int)≤1048576:=by omega
  clear hq hk
  go_enter Tryz.func140,Tryz.ntmps140
  go_wp2_with (go_at_call 171; (try rw [← F1.out]); refine c0.mono ?_; rintro e w' ⟨rfl,rfl⟩)
  go_ret
  exact ⟨by go_num,rfl⟩
 ·rw [if_neg hk] at c0
  have F2:Hid (quotedN s.data.toList=0):=zh (by rw [hq.out,if_neg hk])
  rw [F2.out]
  clear hq hk
  go_enter Tryz.func140,Tryz.ntmps140
  go_wp2_with (go_at_call 171; (try rw [← F1.out]); refine c0.mono ?_; rintro e w' ⟨rfl,rfl⟩)
  go_ret
  exact ⟨rfl,rfl⟩
def dropS (n:Nat) (s:ByteArray):ByteArray:=s.extract n s.size
theorem dropS_data (n:Nat) (s:ByteArray):(dropS n s).data.toList=s.data.toList.drop n:=by
 unfold dropS; rw [Lib.extract_data,List.take_of_length_le (by rw [List.length_drop,bsize]; omega)]
theorem dropS_size (n:Nat) (s:ByteArray):(dropS n s).size=s.size - n:=by unfold dropS; rw [ByteArray.size_extract]; omega
theorem quoted_drop (s:ByteArray) (k:Nat) (w:World) (h1:k<s.size) (hs:s.size≤1048576):Calls Tryz.prog 140 #[.string (s.extract k s.size)] w fun e w'=>e=.returned (.int .i64 (quotedN (s.data.toList.drop k):Nat))∧w=w':=by
 have:=quoted_any (dropS k s) w (by rw [dropS_size]; omega) (by rw [dropS_size]; omega)
 rw [dropS_data] at this
 exact this
theorem get_of (s:ByteArray) (k:Nat) (h:k<s.size):s.data.toList[k]?=some s[k]:=by
 rw [List.getElem?_eq_getElem (by rw [bsize]; exact h)]; rfl
theorem u8_eq (c d:UInt8):((c.toNat:Int) == (d.toNat:Int))=(c == d):=by
 rw [Bool.eq_iff_iff,beq_iff_eq,beq_iff_eq]
 constructor
 ·intro h
  exact UInt8.toNat_inj.1 (by omega)
 ·rintro rfl; rfl
set_option maxHeartbeats 1600000 in
theorem piece_any (s:ByteArray) (w:World) (h1 : 0<s.size) (hs:s.size≤1048576):Calls Tryz.prog 98 #[.string s] w fun e w'=>e=.returned (.int .i64 (pieceN s.data.toList:Nat))∧w=w':=by
 have hh:s.data.toList.head?=some s[0]:=by rw [← get_of s 0 h1]; cases s.data.toList <;> rfl
 have u0:=u8_eq s[0] 40
 have u1:=u8_eq s[0] 41
 have u2:=u8_eq s[0] 34
 simp only [show (UInt8.toNat 40:Int)=40 from rfl,show (UInt8.toNat 41:Int)=41 from rfl,show (UInt8.toNat 34:Int)=34 from rfl] at u0 u1 u2
 by_cases e0:s[0]=40
 ·have e1:pieceN s.data.toList=1:=by unfold pieceN; rw [hh,if_pos (.inl (by rw [e0]))]
  have t0:((s[0].toNat:Int) == 40)=true:=by rw [u0]; exact beq_iff_eq.2 e0
  rw [e1]
  clear e1 hh u0 u1 u2 e0
  go_enter Tryz.func98,Tryz.ntmps98
  go_wp2
  go_ret
  exact ⟨rfl,rfl⟩
 have t0:((s[0].toNat:Int) == 40)=false:=by rw [u0]; exact beq_eq_false_iff_ne.2 e0
 by_cases e1:s[0]=41
 ·have e2:pieceN s.data.toList=1:=by unfold pieceN; rw [hh,if_pos (.inr (by rw [e1]))]
  have t1:((s[0].toNat:Int) == 41)=true:=by rw [u1]; exact beq_iff_eq.2 e1
  rw [e2]
  clear e2 hh u0 u1 u2 e0 e1
  go_enter Tryz.func98,Tryz.ntmps98
  go_wp2
  go_ret
  exact ⟨rfl,rfl⟩
 have t1:((s[0].toNat:Int) == 41)=false:=by rw [u1]; exact beq_eq_false_iff_ne.2 e1
 have hno:¬ (s.data.toList.head?=some 40∨s.data.toList.head?=some 41):=by rw [hh]; simp [e0,e1]
 by_cases e2:s[0]=34
 ·have e3:pieceN s.data.toList=quotedN s.data.toList:=by unfold pieceN; rw [if_neg hno,hh,e2,if_pos rfl]
  have t2:((s[0].toNat:Int) == 34)=true:=by rw [u2]; exact beq_iff_eq.2 e2
  have c0:=quoted_any s w (by omega) hs
  rw [e3]
  clear e3 hno hh u0 u1 u2 e0 e1 e2
  generalize quotedN s.data.toList=r at *
  go_enter Tryz.func98,Tryz.ntmps98
  go_wp2_with (go_at_call 140; refine c0.mono ?_; rintro e w' ⟨rfl,rfl⟩)
  go_ret
  exact ⟨rfl,rfl⟩
 have t2:((s[0].toNat:Int) == 34)=false:=by rw [u2]; exact beq_eq_false_iff_ne.2 e2
 have e3:pieceN s.data.toList=if s.data.toList[endAt s.data.toList]?=some 34∧s.data.toList[endAt s.data.toList - 1]?=some 58 then (if quotedN (s.data.toList.drop (endAt s.data.toList))=0 then 0 else endAt s.data.toList+quotedN (s.data.toList.drop (endAt s.data.toList))) else endAt s.data.toList:=by
  unfold pieceN; rw [if_neg hno,hh,if_neg (by simpa using e2)]
 have E3:=zh e3
 have E2:=zh e2
 have Hend:=zh (findIdx_of ends s.data.toList)
 clear e3 hno hh u0 u1 u2 e0 e1 e2
 go_enter Tryz.func98,Tryz.ntmps98
 go_wp2_with fail
 go_loopw [3] (fun i wr=>∃ k:Nat,k≤s.size∧i=.int .i64 k∧w=wr∧Hid (∀ x∈s.data.toList.take k,ends x=false)) (fun i _=>s.size - (intOf i).toNat)
 case atStart=>exact ⟨0,Nat.zero_le _,rfl,rfl,zh (fun x hx=>by simp at hx)⟩
 case round =>
  obtain ⟨k,hk,rfl,rfl,hal⟩:=hrel
  have hk0:(0:Int)≤(k:Int):=by omega
  by_cases hlt:k<s.size
  ·have hts:=take_snoc s k hlt
   by_cases he:ends s[k]=true
   ·have Hk:Hid (endAt s.data.toList=k):=zh (Hend.out k hal.out (by rw [bsize]; omega) (fun _=>he))
    have u3:=u8_eq s[k] 34
    rw [show (UInt8.toNat 34:Int)=34 from rfl] at u3
    by_cases q:s[k]=34
    ·have t3:((s[k].toNat:Int) == 34)=true:=by rw [u3]; exact beq_iff_eq.2 q
     obtain ⟨j,rfl⟩:∃ j,k=j+1:=by
      match k with
      | 0=>exact absurd q E2.out
      | j+1=>exact ⟨j,rfl⟩
     have hj:j<s.size:=by omega
     have u4:=u8_eq s[j] 58
     rw [show (UInt8.toNat 58:Int)=58 from rfl] at u4
     have g1:=get_of s (j+1) hlt
     have g2:=get_of s j hj
     have c2:=quoted_drop s (j+1) w hlt hs
     have hj0:(0:Int)≤(j:Int):=by omega
     have e8:((j+1:Nat):Int)=(j:Int)+1:=by omega
     by_cases q2:s[j]=58
     ·have t4:((s[j].toNat:Int) == 58)=true:=by rw [u4]; exact beq_iff_eq.2 q2
      have E4:Hid (pieceN s.data.toList=if quotedN (s.data.toList.drop (j+1))=0 then 0 else j+1+quotedN (s.data.toList.drop (j+1))):=zh (by
       rw [E3.out,Hk.out,Nat.add_sub_cancel,g1,g2,q,q2,if_pos ⟨rfl,rfl⟩])
      have hq:=quotedN_le (s.data.toList.drop (j+1))
      rw [List.length_drop,bsize] at hq
      clear u3 u4 g1 g2 q q2 hts hal Hk E3 Hend
      generalize quotedN (s.data.toList.drop (j+1))=r at *
      by_cases hr:r=0
      ·subst hr
       have E5:Hid (pieceN s.data.toList=0):=zh (by rw [E4.out]; rfl)
       clear E4 hq
       go_wp2_with (first | (go_at_call 141; refine (ends_any s[j+1] _).mono ?_; rintro e w' ⟨rfl,rfl⟩) | (go_at_call 140; refine c2.mono ?_; rintro e w' ⟨rfl,rfl⟩))
       go_ret
       exact ⟨ret_int (by rw [E5.out]; first | rfl | omega),rfl⟩
      ·have E5:Hid (pieceN s.data.toList=j+1+r):=zh (by rw [E4.out,if_neg hr])
       have hr':((r:Int) == 0)=false:=by rw [beq_eq_false_iff_ne]; omega
       clear E4 hr
       go_wp2_with (first | (go_at_call 141; refine (ends_any s[j+1] _).mono ?_; rintro e w' ⟨rfl,rfl⟩) | (go_at_call 140; refine c2.mono ?_; rintro e w' ⟨rfl,rfl⟩))
       go_ret
       exact ⟨ret_int (by rw [E5.out]; first | rfl | omega),rfl⟩
     ·have t4:((s[j].toNat:Int) == 58)=false:=by rw [u4]; exact beq_eq_false_iff_ne.2 q2
      have E5:Hid (pieceN s.data.toList=j+1):=zh (by
       rw [E3.out,Hk.out,Nat.add_sub_cancel,g1,g2,if_neg (by simp [q2])])
      clear u3 u4 g1 g2 q q2 hts hal Hk E3 Hend c2
      go_wp2_with (go_at_call 141; refine (ends_any s[j+1] _).mono ?_; rintro e w' ⟨rfl,rfl⟩)
      go_ret
      exact ⟨ret_int (by rw [E5.out]; omega),rfl⟩
    ·have t3:((s[k].toNat:Int) == 34)=false:=by rw [u3]; exact beq_eq_false_iff_ne.2 q
     have g1:=get_of s k hlt
     have E5:Hid (pieceN s.data.toList=k):=zh (by
      rw [E3.out,Hk.out,g1,if_neg (by simp [q])])
     clear u3 g1 q hts hal Hk E3 Hend
     go_wp2_with (go_at_call 141; refine (ends_any s[k] _).mono ?_; rintro e w' ⟨rfl,rfl⟩)
     go_ret
     exact ⟨ret_int (by rw [E5.out]),rfl⟩
   ·have he':ends s[k]=false:=by simpa using he
    have Hnx:Hid (∀ x∈s.data.toList.take (k+1),ends x=false):=zh (fun x hx=>by
     rw [hts,List.mem_append] at hx
     rcases hx with hx | hx
     ·exact hal.out x hx
     ·rw [List.mem_singleton] at hx; rw [hx]; exact he')
    clear hts hal he E3 Hend
    go_wp2_with (go_at_call 141; refine (ends_any s[k] _).mono ?_; rintro e w' ⟨rfl,rfl⟩)
    go_roundw
    case rel=>exact ⟨k+1,by omega,by go_num,by first | rfl | trivial,Hnx⟩
    case measure=>simp [intOf]; omega
  ·obtain rfl:k=s.size:=by omega
   have hn:s.data.toList[s.size]?=none:=List.getElem?_eq_none (by rw [bsize]; omega)
   have Hk:Hid (endAt s.data.toList=s.size):=zh (Hend.out s.size hal.out (by rw [bsize]; omega) (fun h=>absurd h (by rw [bsize]; omega)))
   have E5:Hid (pieceN s.data.toList=s.size):=zh (by
    rw [E3.out,Hk.out,hn,if_neg (by simp)])
   clear hal hn Hk E3 Hend
   go_wp2
   go_ret
   exact ⟨ret_int (by rw [E5.out]),rfl⟩
end Go.Proofs.YtlfpfkallgkjdaaGreat.Qp
end
