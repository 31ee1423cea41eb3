/- qparse: ends, quoted, piece: the walks. -/
import Derived.BigQuiet
import Derived.Maps.AppendAt
import Derived.Recover
import Derived.Test.YtmomjpolkkbhnaaGreatQModelPagesRow7
import Derived.Test.YtmomjpolkkbhnaaGreatQModelPagesRow8
import Derived.Test.YtmomjpolkkbhnaaGreatQModelPagesRow3
import Derived.Test.YtmomjpolkkbhnaaGreatQModelPagesRow0
set_option linter.unusedSimpArgs false
set_option maxRecDepth 20000
section
namespace Go.Proofs.YtmomjpolkkbhnaaGreat.Qp
open Go.RowKit Ut Tk Qy
theorem indexB (l:List UInt8) (c:UInt8):(0≤Lib.indexByte l c)↔c∈l:=by
 rw [index_c]
 unfold atC
 by_cases h:c∈l
 ·have:l.findIdx (· == c)<l.length:=List.findIdx_lt_length.2 ⟨c,h,by simp⟩
  rw [if_pos this]
  simp [h]
 ·have:¬ l.findIdx (· == c)<l.length:=fun e=>by
   obtain ⟨x,hx,he⟩:=List.findIdx_lt_length.1 e
   rw [beq_iff_eq.1 he] at hx
   exact h hx
  rw [if_neg this]
  simp [h]
theorem ret_int {k:IntKind} {a b:Int} (h:b=a):Ending.returned (.int k a)=.returned (.int k b):=by rw [h]
def endsS:ByteArray:=⟨#[32,9,40,41,34]⟩
theorem ends_ix (c:UInt8):decide (0≤Lib.indexByte endsS.data.toList c)=ends c:=by
 rw [Bool.eq_iff_iff,decide_eq_true_iff,indexB]
 unfold ends endsS
 simp [or_assoc]
theorem ends_any (c:UInt8) (w:World):Calls Tryz.prog 151 #[.int .u8 (c.toNat:Int)] w fun e w'=>e=.returned (.bool (ends c))∧w=w':=by
 have c0:=(Tryz.strings_IndexByte endsS (c.toNat:Int) w)
 have e0:(c.toNat:Int).toNat.toUInt8=c:=by simp
 rw [e0] at c0
 have hx:=ends_ix c
 generalize Lib.indexByte endsS.data.toList c=r at *
 rw [← hx]
 clear hx e0
 go_enter Tryz.func151,Tryz.ntmps151
 go_wp2_with (go_at_call 175; refine c0.mono ?_; rintro e w' ⟨rfl,rfl⟩)
 go_ret
 exact ⟨rfl,rfl⟩
def tailS (s:ByteArray):ByteArray:=s.extract 1 s.size
theorem tailS_data (s:ByteArray):(tailS s).data.toList=s.data.toList.tail:=by
 unfold tailS; rw [Lib.extract_data,List.take_of_length_le (by rw [List.length_drop,bsize]; omega),List.drop_one]
set_option maxHeartbeats 400000 in
theorem quoted_any (s:ByteArray) (w:World) (h1 : 1≤s.size) (hs:s.size≤1048576):Calls Tryz.prog 150 #[.string s] w fun e w'=>e=.returned (.int .i64 (quotedN s.data.toList:Nat))∧w=w':=by
 have c0:=(Tryz.strings_IndexByte (tailS s) 34 w)
 have e0:(34:Int).toNat.toUInt8=34:=by decide
 rw [e0,tailS_data,index_c] at c0
 have F1:Hid (tailS s=s.extract 1 s.size):=rfl
 have hq:Hid (quotedN s.data.toList=if atC 34 s.data.toList.tail<s.data.toList.tail.length then atC 34 s.data.toList.tail+2 else 0):=rfl
 have hl:s.data.toList.tail.length≤1048576:=by rw [List.length_tail,bsize]; omega
 generalize atC 34 s.data.toList.tail=k at *
 generalize s.data.toList.tail.length=n at *
 by_cases hk:k<n
 ·rw [if_pos hk] at c0
  have F2:Hid (quotedN s.data.toList=k+2):=zh (by rw [hq.out,if_pos hk])
  rw [F2.out]
  have hk2:(k:Int)≤1048576:=by omega
  clear hq hk
  go_enter Tryz.func150,Tryz.ntmps150
  go_wp2_with (go_at_call 175; (try rw [← F1.out]); refine c0.mono ?_; rintro e w' ⟨rfl,rfl⟩)
  go_ret
  exact ⟨by go_num,rfl⟩
 ·rw [if_neg hk] at c0
  have F2:Hid (quotedN s.data.toList=0):=zh (by rw [hq.out,if_neg hk])
  rw [F2.out]
  clear hq hk
  go_enter Tryz.func150,Tryz.ntmps150
  go_wp2_with (go_at_call 175; (try rw [← F1.out]); refine c0.mono ?_; rintro e w' ⟨rfl,rfl⟩)
  go_ret
  exact ⟨rfl,rfl⟩
def dropS (n:Nat) (s:ByteArray):ByteArray:=s.extract n s.size
theorem dropS_data (n:Nat) (s:ByteArray):(dropS n s).data.toList=s.data.toList.drop n:=by
 unfold dropS; rw [Lib.extract_data,List.take_of_length_le (by rw [List.length_drop,bsize]; omega)]
theorem dropS_size (n:Nat) (s:ByteArray):(dropS n s).size=s.size - n:=by unfold dropS; rw [ByteArray.size_extract]; omega
theorem quoted_drop (s:ByteArray) (k:Nat) (w:World) (h1:k<s.size) (hs:s.size≤1048576):Calls Tryz.prog 150 #[.string (s.extract k s.size)] w fun e w'=>e=.returned (.int .i64 (quotedN (s.data.toList.drop k):Nat))∧w=w':=by
 have:=quoted_any (dropS k s) w (by rw [dropS_size]; omega) (by rw [dropS_size]; omega)
 rw [dropS_data] at this
 exact this
theorem get_of (s:ByteArray) (k:Nat) (h:k<s.size):s.data.toList[k]?=some s[k]:=by
 rw [List.getElem?_eq_getElem (by rw [bsize]; exact h)]; rfl
theorem u8_eq (c d:UInt8):((c.toNat:Int) == (d.toNat:Int))=(c == d):=by
 rw [Bool.eq_iff_iff,beq_iff_eq,beq_iff_eq]
 constructor
 ·intro h
  exact UInt8.toNat_inj.1 (by omega)
 ·rintro rfl; rfl
set_option maxHeartbeats 1600000 in
theorem piece_any (s:ByteArray) (w:World) (h1 : 0<s.size) (hs:s.size≤1048576):Calls Tryz.prog 124 #[.string s] w fun e w'=>e=.returned (.int .i64 (pieceN s.data.toList:Nat))∧w=w':=by
 have hh:s.data.toList.head?=some s[0]:=by rw [← get_of s 0 h1]; cases s.data.toList <;> rfl
 have u0:=u8_eq s[0] 40
 have u1:=u8_eq s[0] 41
 have u2:=u8_eq s[0] 34
 simp only [show (UInt8.toNat 40:Int)=40 from rfl,show (UInt8.toNat 41:Int)=41 from rfl,show (UInt8.toNat 34:Int)=34 from rfl] at u0 u1 u2
 by_cases e0:s[0]=40
 ·have e1:pieceN s.data.toList=1:=by unfold pieceN; rw [hh,if_pos (.inl (by rw [e0]))]
  have t0:((s[0].toNat:Int) == 40)=true:=by rw [u0]; exact beq_iff_eq.2 e0
  rw [e1]
  clear e1 hh u0 u1 u2 e0
  go_enter Tryz.func124,Tryz.ntmps124
  go_wp2
  go_ret
  exact ⟨rfl,rfl⟩
 have t0:((s[0].toNat:Int) == 40)=false:=by rw [u0]; exact beq_eq_false_iff_ne.2 e0
 by_cases e1:s[0]=41
 ·have e2:pieceN s.data.toList=1:=by unfold pieceN; rw [hh,if_pos (.inr (by rw [e1]))]
  have t1:((s[0].toNat:Int) == 41)=true:=by rw [u1]; exact beq_iff_eq.2 e1
  rw [e2]
  clear e2 hh u0 u1 u2 e0 e1
  go_enter Tryz.func124,Tryz.ntmps124
  go_wp2
  go_ret
  exact ⟨rfl,rfl⟩
 have t1:((s[0].toNat:Int) == 41)=false:=by rw [u1]; exact beq_eq_false_iff_ne.2 e1
 have hno:¬ (s.data.toList.head?=some 40∨s.data.toList.head?=some 41):=by rw [hh]; simp [e0,e1]
 by_cases e2:s[0]=34
 ·have e3:pieceN s.data.toList=quotedN s.data.toList:=by unfold pieceN; rw [if_neg hno,hh,e2,if_pos rfl]
  have t2:((s[0].toNat:Int) == 34)=true:=by rw [u2]; exact beq_iff_eq.2 e2
  have c0:=quoted_any s w (by omega) hs
  rw [e3]
  clear e3 hno hh u0 u1 u2 e0 e1 e2
  generalize quotedN s.data.toList=r at *
  go_enter Tryz.func124,Tryz.ntmps124
  go_wp2_with (go_at_call 150; refine c0.mono ?_; rintro e w' ⟨rfl,rfl⟩)
  go_ret
  exact ⟨rfl,rfl⟩
 have t2:((s[0].toNat:Int) == 34)=false:=by rw [u2]; exact beq_eq_false_iff_ne.2 e2
 have e3:pieceN s.data.toList=if s.data.toList[endAt s.data.toList]?=some 34∧s.data.toList[endAt s.data.toList - 1]?=some 58 then (if quotedN (s.data.toList.drop (endAt s.data.toList))=0 then 0 else endAt s.data.toList+quotedN (s.data.toList.drop (endAt s.data.toList))) else endAt s.data.toList:=by
  unfold pieceN; rw [if_neg hno,hh,if_neg (by simpa using e2)]
 have E3:=zh e3
 have E2:=zh e2
 have Hend:=zh (findIdx_of ends s.data.toList)
 clear e3 hno hh u0 u1 u2 e0 e1 e2
 go_enter Tryz.func124,Tryz.ntmps124
 go_wp2_with fail
 go_loopw [3] (fun i wr=>∃ k:Nat,k≤s.size∧i=.int .i64 k∧w=wr∧Hid (∀ x∈s.data.toList.take k,ends x=false)) (fun i _=>s.size - (intOf i).toNat)
 case atStart=>exact ⟨0,Nat.zero_le _,rfl,rfl,zh (fun x hx=>by simp at hx)⟩
 case round =>
  obtain ⟨k,hk,rfl,rfl,hal⟩:=hrel
  have hk0:(0:Int)≤(k:Int):=by omega
  by_cases hlt:k<s.size
  ·have hts:=take_snoc s k hlt
   by_cases he:ends s[k]=true
   ·have Hk:Hid (endAt s.data.toList=k):=zh (Hend.out k hal.out (by rw [bsize]; omega) (fun _=>he))
    have u3:=u8_eq s[k] 34
    rw [show (UInt8.toNat 34:Int)=34 from rfl] at u3
    by_cases q:s[k]=34
    ·have t3:((s[k].toNat:Int) == 34)=true:=by rw [u3]; exact beq_iff_eq.2 q
     obtain ⟨j,rfl⟩:∃ j,k=j+1:=by
      match k with
      | 0=>exact absurd q E2.out
      | j+1=>exact ⟨j,rfl⟩
     have hj:j<s.size:=by omega
     have u4:=u8_eq s[j] 58
     rw [show (UInt8.toNat 58:Int)=58 from rfl] at u4
     have g1:=get_of s (j+1) hlt
     have g2:=get_of s j hj
     have c2:=quoted_drop s (j+1) w hlt hs
     have hj0:(0:Int)≤(j:Int):=by omega
     have e8:((j+1:Nat):Int)=(j:Int)+1:=by omega
     by_cases q2:s[j]=58
     ·have t4:((s[j].toNat:Int) == 58)=true:=by rw [u4]; exact beq_iff_eq.2 q2
      have E4:Hid (pieceN s.data.toList=if quotedN (s.data.toList.drop (j+1))=0 then 0 else j+1+quotedN (s.data.toList.drop (j+1))):=zh (by
       rw [E3.out,Hk.out,Nat.add_sub_cancel,g1,g2,q,q2,if_pos ⟨rfl,rfl⟩])
      have hq:=quotedN_le (s.data.toList.drop (j+1))
      rw [List.length_drop,bsize] at hq
      clear u3 u4 g1 g2 q q2 hts hal Hk E3 Hend
      generalize quotedN (s.data.toList.drop (j+1))=r at *
      by_cases hr:r=0
      ·subst hr
       have E5:Hid (pieceN s.data.toList=0):=zh (by rw [E4.out]; rfl)
       clear E4 hq
       go_wp2_with (first | (go_at_call 151; refine (ends_any s[j+1] _).mono ?_; rintro e w' ⟨rfl,rfl⟩) | (go_at_call 150; refine c2.mono ?_; rintro e w' ⟨rfl,rfl⟩))
       go_ret
       exact ⟨ret_int (by rw [E5.out]; first | rfl | omega),rfl⟩
      ·have E5:Hid (pieceN s.data.toList=j+1+r):=zh (by rw [E4.out,if_neg hr])
       have hr':((r:Int) == 0)=false:=by rw [beq_eq_false_iff_ne]; omega
       clear E4 hr
       go_wp2_with (first | (go_at_call 151; refine (ends_any s[j+1] _).mono ?_; rintro e w' ⟨rfl,rfl⟩) | (go_at_call 150; refine c2.mono ?_; rintro e w' ⟨rfl,rfl⟩))
       go_ret
       exact ⟨ret_int (by rw [E5.out]; first | rfl | omega),rfl⟩
     ·have t4:((s[j].toNat:Int) == 58)=false:=by rw [u4]; exact beq_eq_false_iff_ne.2 q2
      have E5:Hid (pieceN s.data.toList=j+1):=zh (by
       rw [E3.out,Hk.out,Nat.add_sub_cancel,g1,g2,if_neg (by simp [q2])])
      clear u3 u4 g1 g2 q q2 hts hal Hk E3 Hend c2
      go_wp2_with (go_at_call 151; refine (ends_any s[j+1] _).mono ?_; rintro e w' ⟨rfl,rfl⟩)
      go_ret
      exact ⟨ret_int (by rw [E5.out]; omega),rfl⟩
    ·have t3:((s[k].toNat:Int) == 34)=false:=by rw [u3]; exact beq_eq_false_iff_ne.2 q
     have g1:=get_of s k hlt
     have E5:Hid (pieceN s.data.toList=k):=zh (by
      rw [E3.out,Hk.out,g1,if_neg (by simp [q])])
     clear u3 g1 q hts hal Hk E3 Hend
     go_wp2_with (go_at_call 151; refine (ends_any s[k] _).mono ?_; rintro e w' ⟨rfl,rfl⟩)
     go_ret
     exact ⟨ret_int (by rw [E5.out]),rfl⟩
   ·have he':ends s[k]=false:=by simpa using he
    have Hnx:Hid (∀ x∈s.data.toList.take (k+1),ends x=false):=zh (fun x hx=>by
     rw [hts,List.mem_append] at hx
     rcases hx with hx | hx
     ·exact hal.out x hx
     ·rw [List.mem_singleton] at hx; rw [hx]; exact he')
    clear hts hal he E3 Hend
    go_wp2_with (go_at_call 151; refine (ends_any s[k] _).mono ?_; rintro e w' ⟨rfl,rfl⟩)
    go_roundw
    case rel=>exact ⟨k+1,by omega,by go_num,by first | rfl | trivial,Hnx⟩
    case measure=>simp [intOf]; omega
  ·obtain rfl:k=s.size:=by omega
   have hn:s.data.toList[s.size]?=none:=List.getElem?_eq_none (by rw [bsize]; omega)
   have Hk:Hid (endAt s.data.toList=s.size):=zh (Hend.out s.size hal.out (by rw [bsize]; omega) (fun h=>absurd h (by rw [bsize]; omega)))
   have E5:Hid (pieceN s.data.toList=s.size):=zh (by
    rw [E3.out,Hk.out,hn,if_neg (by simp)])
   clear hal hn Hk E3 Hend
   go_wp2
   go_ret
   exact ⟨ret_int (by rw [E5.out]),rfl⟩
end Go.Proofs.YtmomjpolkkbhnaaGreat.Qp
end

section
namespace Go.Proofs.YtmomjpolkkbhnaaGreat.Qp
open Go.RowKit Ut Tk Qy
def PcsPost (w:World) (o:Option (List P)) (e:Ending) (w':World):Prop :=
 match o with
 | some l=>∃ v,e=.returned (.tuple #[v,.bool true])∧w'.ownsRow w.heap.size 9 1 v l.length (sv l)∧Below w.heap.size w w'
 | none=>e=.returned (.tuple #[.slice none 0 0,.bool false])∧Below w.heap.size w w'
def szOf:Value→Nat | .string x=>x.size | _=>0
theorem dl_nil (s:ByteArray) (h:s.size=0):s.data.toList=[]:=List.length_eq_zero_iff.1 (by rw [bsize]; exact h)
theorem dl_cons (s:ByteArray) (h : 0<s.size):s.data.toList=s[0] :: s.data.toList.drop 1:=by
 have e:s[0]=s.data.toList[0]'(by rw [bsize]; exact h):=rfl
 rw [e]
 exact (List.drop_eq_getElem_cons (i:=0) (by rw [bsize]; exact h))
set_option maxHeartbeats 1600000 in
theorem pieces_any (s:ByteArray) (w:World) (hs:s.size≤1048576):Calls Tryz.prog 95 #[.string s] w (PcsPost w (pieces s.data.toList)):=by
 obtain ⟨i0,hi0,hz0,hz1,hz2⟩:=info_parts str_info
 have Hs:=zh hs
 clear hs
 go_enter Tryz.func95,Tryz.ntmps95
 go_wp2_with fail
 go_loopw [0,4] (fun x v wr=>∃ (r:ByteArray) (acc:List P),x=.string r∧r.size≤s.size∧Hid (pieces s.data.toList=(pieces r.data.toList).map (acc ++ ·))∧acc.length+r.size≤1048576∧Strs w wr v acc) (fun x _ _=>szOf x)
 case atStart=>exact ⟨s,[],rfl,zG _,zh (by simp),by simpa using Hs.out,⟨World.ownsRow_nil _ _ _ _,Below.refl _ _⟩⟩
 case round =>
  obtain ⟨r0,acc,rfl,hr0,hpc,hac,hT⟩:=hrel
  have HT:=zh hT
  clear hT
  have Ro:=zh (zG r0.size)
  go_wp2_with fail
  go_loopw [0] (fun x wi=>∃ r:ByteArray,x=.string r∧r.size≤r0.size∧Hid (pieces r.data.toList=pieces r0.data.toList)∧wr=wi) (fun x _=>szOf x)
  case atStart=>exact ⟨r0,rfl,zG _,zh rfl,rfl⟩
  case round =>
   obtain ⟨r,rfl,hr,hpr,rfl⟩:=hrel
   have Hpc:Hid (pieces s.data.toList=(pieces r.data.toList).map (acc ++ ·)):=zh (by rw [hpr.out]; exact hpc.out)
   by_cases h0:r.size=0
   ·have hd:=dl_nil r h0
    have hd2:r.toList=[]:=by rw [tl]; exact hd
    have Fin:Hid (pieces s.data.toList=some acc):=zh (by rw [Hpc.out,hd,pieces_nil]; simp)
    clear hd h0
    go_wp2_with fail
    go_ret2
    exact (by rw [Fin.out]; exact ⟨_,rfl,HT.out.own,HT.out.bel⟩)
   ·have h1 : 0<r.size:=by omega
    have hd:=dl_cons r h1
    have he1:r.toList.isEmpty=false:=by rw [tl,hd]; rfl
    have u0:=u8_eq r[0] 32
    have u1:=u8_eq r[0] 9
    simp only [show (UInt8.toNat 32:Int)=32 from rfl,show (UInt8.toNat 9:Int)=9 from rfl] at u0 u1
    have hdp:=dropS_data 1 r
    have hds:=dropS_size 1 r
    have hb0:blank r[0]=(r[0] == 32 || r[0] == 9):=rfl
    by_cases hb:blank r[0]=true
    ·have Hn:Hid (pieces (dropS 1 r).data.toList=pieces r0.data.toList):=zh (by rw [hdp,← hpr.out,hd,pieces_blank _ _ hb]; rfl)
     have hb2:((r[0].toNat:Int) == 32)=true∨(((r[0].toNat:Int) == 32)=false∧((r[0].toNat:Int) == 9)=true):=by
      rw [u0,u1]
      rw [hb0] at hb
      cases h9:r[0] == 32 with
      | true=>exact .inl rfl
      | false=>rw [h9] at hb; exact .inr ⟨rfl,by simpa using hb⟩
     have hdS:Hid (dropS 1 r=r.extract 1 r.size):=rfl
     have hsz:Hid ((r.extract 1 r.size).size=r.size - 1):=zh (by rw [← hdS.out]; exact hds)
     clear hd u0 u1 hdp hds hb0 hb h0 Hpc hpr
     rcases hb2 with t0 | ⟨t0,t1⟩
     all_goals
      go_wp2_with fail
      go_roundw
      case rel=>exact ⟨dropS 1 r,rfl,by rw [hdS.out,hsz.out]; omega,Hn,by first | rfl | trivial⟩
      case measure=>simp [szOf]; omega
    ·have hb':blank r[0]=false:=by simpa using hb
     have t0:((r[0].toNat:Int) == 32)=false:=by
      rw [u0]; rw [hb0] at hb'; simp only [Bool.or_eq_false_iff] at hb'; exact hb'.1
     have t1:((r[0].toNat:Int) == 9)=false:=by
      rw [u1]; rw [hb0] at hb'; simp only [Bool.or_eq_false_iff] at hb'; exact hb'.2
     have c0:=piece_any r wr h1 (by have:=Hs.out; omega)
     have hle:=pieceN_le r.data.toList
     rw [bsize] at hle
     have hpn:Hid (pieces r.data.toList=if pieceN r.data.toList=0 then none else (pieces (r.data.toList.drop (pieceN r.data.toList))).map (fun l=>r.data.toList.take (pieceN r.data.toList) :: l)):=zh (by
      have:=pieces_cons r[0] (r.data.toList.drop 1) hb'
      rw [← hd] at this
      exact this)
     clear hd u0 u1 hdp hds hb0 hb hb' hpr
     generalize pieceN r.data.toList=n at *
     have hn0:(0:Int)≤(n:Int):=by omega
     have hn1:(n:Int)≤(r.size:Int):=by omega
     by_cases hn:n=0
     ·have Fin:Hid (pieces s.data.toList=none):=zh (by rw [Hpc.out,hpn.out,if_pos hn]; rfl)
      subst hn
      clear hpn Hpc
      go_wp2_with (go_at_call 124; refine c0.mono ?_; rintro e w' ⟨rfl,rfl⟩)
      go_ret2
      exact (by rw [Fin.out]; exact ⟨rfl,HT.out.bel⟩)
     ·have hn':((n:Int) == 0)=false:=by rw [beq_eq_false_iff_ne]; omega
      have Hx:Hid (r.extract 0 n=str (r.data.toList.take n)):=zh (by
       rw [← of_str (r.extract 0 n),Lib.extract_data]; simp)
      have Hn:Hid (pieces s.data.toList=(pieces (dropS n r).data.toList).map ((acc ++ [r.data.toList.take n]) ++ ·)):=zh (by
       rw [Hpc.out,hpn.out,if_neg hn,dropS_data,Option.map_map]
       congr 1
       funext l
       simp)
      have hdS:Hid (dropS n r=r.extract n r.size):=rfl
      have hds:=dropS_size n r
      have Hsz:Hid ((r.extract n r.size).size=r.size - n):=zh (by rw [← hdS.out]; exact hds)
      have hown:=HT.out.own
      have hbs:=HT.out.bel.size
      have hnpos : 0<n:=by omega
      clear hpn Hpc hn hds h0
      generalize r.data.toList.take n=x at *
      go_wp2_with (first
       | (go_at_call 124; refine c0.mono ?_; rintro e w' ⟨rfl,rfl⟩)
       | (at_builtin; refine wpList_append_own _ rfl _ _ 57 rfl w.heap.size 9 i0 _ 1 16 Tryz.underlying57 hi0 hz0 hz1 hz2 rfl (by decide) _ _ _ rfl (hown.alloc _) ⟨wr.heap.size,0,none⟩ 1 1 [.string (r.extract 0 n)] rfl rfl ?d1 ?d2 ?d3 ?d4 ?d5 ?_))
      case d1=>exact World.news_of_block (cs:=#[.string (r.extract 0 n)]) (t:=9) (fr:=(0,0)) (heap_alloc_new wr _)
      case d2=>intro u hu; simp at hu; subst hu; rfl
      case d3=>unfold maxLen; omega
      case d4=>omega
      case d5=>simp; omega
      intro v' w5 hown5 hg5 _
      rw [Hx.out] at hown5
      have HT5:=zh ((HT.out.below ((Below.refl _ _).alloc (zG _) _)).put hown5 hg5)
      clear hown5 hg5 hown
      go_wp2_with fail
      go_roundw
      case rel=>exact ⟨dropS n r,acc ++ [x],rfl,by rw [hdS.out,Hsz.out]; omega,Hn,by rw [hdS.out,Hsz.out,List.length_append,List.length_singleton]; omega,HT5.out⟩
      case measure=>simp [szOf,Hsz.out]; omega
end Go.Proofs.YtmomjpolkkbhnaaGreat.Qp
end

section
namespace Go.Proofs.YtmomjpolkkbhnaaGreat.Qp
open Go.RowKit Ut Tk Qy
structure Rd (B:Nat) (w:World) (g:Nat) (l:List P):Prop where
 ex:∃ A n c,Blk w g 154 #[.slice A n c]∧l.length=n∧n≤c∧ReadsS w (fun b=>b<B∧b≠g) 1 A n (sv l)
 low:B≤w.heap.size
 ne:∀ x∈l,x≠[]
 many:l.length≤1048576
theorem Rd.lt {B:Nat} {w:World} {g:Nat} {l:List P} (h:Rd B w g l):g<w.heap.size:=by
 obtain ⟨A,n,c,hB,_⟩:=h.ex
 exact hB.lt
theorem Rd.other {B:Nat} {w w':World} {g:Nat} {l:List P} {row:Option Nat} (h:Rd B w g l) (hg:w.grownBy w' row) (hr:∀ b,row=some b→B≤b∧b≠g):Rd B w' g l:=by
 obtain ⟨A,n,c,hB,hn,hc,hR⟩:=h.ex
 refine ⟨⟨A,n,c,hB.grown hg (fun e=>(hr g e.symm).2 rfl),hn,hc,hR.keep fun b o hS=>World.cell?_of_block (w:=w) (hg.block b (Nat.lt_of_lt_of_le hS.1 h.low) (fun e=>?_))⟩,Nat.le_trans h.low hg.size,h.ne,h.many⟩
 have:=(hr b e.symm).1
 have:=hS.1
 omega
theorem Rd.below {B:Nat} {w w':World} {g:Nat} {l:List P} (h:Rd B w g l) (hb:Below w.heap.size w w'):Rd B w' g l :=
 h.other (grow_of_below hb none) (fun b e=>by cases e)
theorem Rd.grown {B:Nat} {w w':World} {g:Nat} {l:List P} {row:Option Nat} (h:Rd B w g l) (hg:w.grownBy w' row) (hr:∀ b,row=some b→w.heap.size≤b):Rd B w' g l :=
 h.below ((Below.refl _ _).grown hg (zG _) hr)
theorem str_ne (s:P) (h:s≠[]):(str s).toList.isEmpty=false:=by
 rw [tl,str_data]
 cases s with
 | nil=>exact absurd rfl h
 | cons a t=>rfl
theorem peek_nil (B:Nat) (w:World) (g:Nat) (h:Rd B w g []):Calls Tryz.prog 126 #[.pointer (some ⟨g,0,none⟩)] w fun e w'=>e=.returned (.string ByteArray.empty)∧w=w':=by
 obtain ⟨A,n,c,hB,hn,hc,hR⟩:=h.ex
 have h0:=hB.cell 0
 simp at h0
 obtain rfl:n=0:=by simpa using hn.symm
 clear hB hn hR h
 go_enter Tryz.func126,Tryz.ntmps126
 go_wp2
 go_ret
 exact ⟨rfl,rfl⟩
theorem peek_cons (B:Nat) (w:World) (g:Nat) (s:P) (l:List P) (h:Rd B w g (s :: l)):Calls Tryz.prog 126 #[.pointer (some ⟨g,0,none⟩)] w fun e w'=>e=.returned (.string (str s))∧w=w':=by
 obtain ⟨A,n,c,hB,hn,hc,hR⟩:=h.ex
 have h0:=hB.cell 0
 simp at h0
 have hn1 : 0<n:=by rw [← hn]; simp
 obtain ⟨b,o,rfl,hb,hcl⟩:=hR.2 hn1
 have h1:=hcl 0 (.string (str s)) rfl
 have hn2:((n:Int) == 0)=false:=by rw [beq_eq_false_iff_ne]; omega
 simp at h1
 clear hB hn hR h hcl hb
 go_enter Tryz.func126,Tryz.ntmps126
 go_wp2
 go_ret
 exact ⟨rfl,rfl⟩
theorem must_yes (g:Nat) (w:World):Calls Tryz.prog 98 #[.pointer (some ⟨g,0,none⟩),.bool true] w fun e w'=>e=.returned (.tuple #[])∧w=w':=by
 go_enter Tryz.func98,Tryz.ntmps98
 go_wp2
 go_end0
 exact ⟨rfl,rfl⟩
theorem must_no (g:Nat) (w:World):Calls Tryz.prog 98 #[.pointer (some ⟨g,0,none⟩),.bool false] w fun e w'=>e=.panicked [{ v:=.iface 149 (.agg #[.int .i64 170]),recovered:=false }]∧w=w':=by
 go_enter Tryz.func98,Tryz.ntmps98
 go_wp2
 exact ⟨rfl,rfl,rfl⟩
theorem next_nil (B:Nat) (w:World) (g:Nat) (h:Rd B w g []):Calls Tryz.prog 127 #[.pointer (some ⟨g,0,none⟩)] w fun e w'=>e=.returned (.string ByteArray.empty)∧w=w':=by
 have c0:=peek_nil B w g h
 clear h
 go_enter Tryz.func127,Tryz.ntmps127
 go_wp2_with (go_at_call 126; refine c0.mono ?_; rintro e w' ⟨rfl,rfl⟩)
 go_ret
 exact ⟨rfl,rfl⟩
theorem next_cons (B:Nat) (w:World) (g:Nat) (s:P) (l:List P) (h:Rd B w g (s :: l)):Calls Tryz.prog 127 #[.pointer (some ⟨g,0,none⟩)] w fun e w'=>e=.returned (.string (str s))∧Rd B w' g l∧w.grownBy w' (some g):=by
 have c0:=peek_cons B w g s l h
 obtain ⟨A,n,c,hB,hn,hc,hR⟩:=h.ex
 have h0:=hB.cell 0
 have hfz:=hB.frozen 0
 simp at h0
 have hn1 : 0<n:=by rw [← hn]; simp
 have he:=str_ne s (h.ne s (by simp))
 obtain ⟨b,o,rfl,hb,hcl⟩:=hR.2 hn1
 have Fin:∀ (A':Option Addr) (c':Nat),n - 1≤c'→(1<n→A'=some ⟨b,o+1,none⟩)→Rd B (w.setCell ⟨g,0,none⟩ (.slice A' (n - 1) c')) g l:=fun A' c' h1 h2=>by
  refine ⟨⟨A',n - 1,c',hB.set_ 0 _,by rw [List.length_cons] at hn; omega,h1,⟨by rw [sv_len]; rw [List.length_cons] at hn; omega,fun hp=>?_⟩⟩,by simpa [World.setCell] using h.low,fun x hx=>h.ne x (by simp [hx]),by have:=h.many; rw [List.length_cons] at this; omega⟩
  refine ⟨b,o+1,h2 (by omega),hb,fun j u hu=>?_⟩
  have:=hcl (j+1) u (by simpa [sv] using hu)
  rw [World.cell?_of_block (w:=w) (Below.heap_setCell w ⟨g,0,none⟩ _ b hb.2)]
  rw [← this]; congr 2; omega
 have FIN:=zh Fin
 clear Fin hB hn hR h hcl
 by_cases hc1:c=1
 ·obtain rfl:n=1:=by omega
  subst hc1
  go_enter Tryz.func127,Tryz.ntmps127
  go_wp2_with (go_at_call 126; refine c0.mono ?_; rintro e w' ⟨rfl,rfl⟩)
  go_ret
  exact ⟨rfl,FIN.out _ _ (zG _) (fun h=>absurd h (by omega)),grownBy_set w g 0 _⟩
 ·go_enter Tryz.func127,Tryz.ntmps127
  go_wp2_with (go_at_call 126; refine c0.mono ?_; rintro e w' ⟨rfl,rfl⟩)
  go_ret
  exact ⟨rfl,FIN.out _ _ (by omega) (fun h=>rfl),grownBy_set w g 0 _⟩
end Go.Proofs.YtmomjpolkkbhnaaGreat.Qp
end

section
namespace Go.Proofs.YtmomjpolkkbhnaaGreat.Qp
open Go.RowKit Ut Tk Qy
def set4 (w:World) (g:Nat) (a b c d:Value):World:=(((w.setCell ⟨g,0,none⟩ a).setCell ⟨g,1,none⟩ b).setCell ⟨g,2,none⟩ c).setCell ⟨g,3,none⟩ d
theorem _root_.Go.Proofs.YtmomjpolkkbhnaaGreat.Blk.four {w:World} {g:Nat} {t:TypeId} {x0 x1 x2 x3:Value} (h:Blk w g t #[x0,x1,x2,x3]) :
  w.cell? ⟨g,0,none⟩=some x0∧w.cell? ⟨g,1,none⟩=some x1∧w.cell? ⟨g,2,none⟩=some x2∧w.cell? ⟨g,3,none⟩=some x3 ∧
  w.frozen? ⟨g,0,none⟩=false∧w.frozen? ⟨g,1,none⟩=false∧w.frozen? ⟨g,2,none⟩=false∧w.frozen? ⟨g,3,none⟩=false :=
 ⟨h.cell 0,h.cell 1,h.cell 2,h.cell 3,h.frozen 0,h.frozen 1,h.frozen 2,h.frozen 3⟩
theorem _root_.Go.Proofs.YtmomjpolkkbhnaaGreat.Blk.set4 {w:World} {g:Nat} {t:TypeId} {x0 x1 x2 x3:Value} (h:Blk w g t #[x0,x1,x2,x3]) (a b c d:Value):Blk (set4 w g a b c d) g t #[a,b,c,d] :=
 (((h.set_ 0 a).set_ 1 b).set_ 2 c).set_ 3 d
theorem set4_other (w:World) (g k:Nat) (a b c d:Value) (h:k≠g):(set4 w g a b c d).heap[k]?=w.heap[k]?:=by
 unfold set4
 rw [Below.heap_setCell _ _ _ _ h,Below.heap_setCell _ _ _ _ h,Below.heap_setCell _ _ _ _ h,Below.heap_setCell _ _ _ _ h]
theorem set4_size (w:World) (g:Nat) (a b c d:Value):(set4 w g a b c d).heap.size=w.heap.size:=by simp [set4,World.setCell]
theorem below_set4 {B g:Nat} {w0 w:World} (hb:Below B w0 w) (hBg:B≤g) (a b c d:Value):Below B w0 (set4 w g a b c d) :=
 (((hb.setCell (p:=⟨g,0,none⟩) hBg a).setCell (p:=⟨g,1,none⟩) hBg b).setCell (p:=⟨g,2,none⟩) hBg c).setCell (p:=⟨g,3,none⟩) hBg d
def OkQ (base:Nat) (w:World) (q:Q) (e:Ending) (w':World):Prop:=∃ a0 a1 a2 a3,e=.returned (.agg #[a0,a1,a2,a3])∧QF w' (fun b=>base≤b∧b<w'.heap.size) q [a0,a1,a2,a3]∧Below w.heap.size w w'
def badE:Ending:=.panicked [{ v:=.iface 149 (.agg #[.int .i64 170]),recovered:=false }]
def LfPost (w:World) (o:Option Q) (e:Ending) (w':World):Prop :=
 match o with
 | some q=>OkQ w.heap.size w q e w'
 | none=>e=badE∧Below w.heap.size w w'
theorem QF.grow {w w':World} {base:Nat} {q:Q} {vs:List Value} (h:QF w (fun b=>base≤b∧b<w.heap.size) q vs) (hb:Below w.heap.size w w'):QF w' (fun b=>base≤b∧b<w'.heap.size) q vs :=
 (h.keep fun _ _ hS=>hb.cell (p:=⟨_,_,none⟩) hS.2).mono fun _ hS=>⟨hS.1,Nat.lt_of_lt_of_le hS.2 hb.size⟩
theorem oneQ_many (k:Int) (l:List Q) (h:l.length≠1):oneQ k l=.mk k ByteArray.empty [] l:=by
 match l,h with
 | [],_=>rfl
 | [q],h=>simp at h
 | _ :: _ :: _,_=>rfl
set_option maxHeartbeats 800000 in
theorem one_any (base:Nat) (k:Int) (v:Value) (l:List Q) (vss:List (List Value)) (w:World) (hQ:Qs base w v l vss) (hl:l≠[]):Calls Tryz.prog 128 #[.int .i64 k,v] w (OkQ base w (oneQ k l)):=by
 by_cases h1:l.length=1
 ·obtain ⟨q,rfl⟩:=List.length_eq_one_iff.1 h1
  obtain ⟨b,d,A,n,c,C,m,d',rfl,hb,hbase,c0,c1,c2,c3,hF⟩:=hQ.first
  have hh:=Blk.new w 60 #[.int .i64 q.kind,.string q.name,.slice A n c,.slice C m d']
  have hbl:=(Below.refl w.heap.size w).alloc (zG _) (.cells #[.int .i64 q.kind,.string q.name,.slice A n c,.slice C m d'] 60)
  have HF:=zh (hF.grow hbl)
  have Hbl:=zh hbl
  clear hQ hl h1 hF hbl
  go_enter Tryz.func128,Tryz.ntmps128
  go_wp2_with fail
  exact bodyPost_ret (results_cell rfl rfl (run_loadVar_row _ w.heap.size 60 60 #[.int .i64 q.kind,.string q.name,.slice A n c,.slice C m d'] (0,0) _ hh Tryz.underlying60 rfl (by kernel_rfl))) rfl ⟨_,_,_,_,rfl,HF.out,Hbl.out⟩
 ·rw [oneQ_many k l h1]
  obtain ⟨C,d,rfl,hF⟩:=hQ.query k
  have hbl:=(Below.refl w.heap.size w).alloc (zG _) (.cells #[.int .i64 k,.string ByteArray.empty,.slice none 0 0,.slice C l.length d] 60)
  have hh:=Blk.new w 60 #[.int .i64 k,.string ByteArray.empty,.slice none 0 0,.slice C l.length d]
  have HF:=zh (hF.grow hbl)
  have Hbl:=zh hbl
  have h1':((l.length:Int) == 1)=false:=by rw [beq_eq_false_iff_ne]; omega
  clear hQ hl h1 hF hbl
  generalize l.length=n at *
  go_enter Tryz.func128,Tryz.ntmps128
  go_wp2_with fail
  exact bodyPost_ret (results_cell rfl rfl (run_loadVar_row _ w.heap.size 60 60 #[.int .i64 k,.string ByteArray.empty,.slice none 0 0,.slice C n d] (0,0) _ hh Tryz.underlying60 rfl (by kernel_rfl))) rfl ⟨_,_,_,_,rfl,HF.out,Hbl.out⟩
set_option maxHeartbeats 800000 in
theorem words_q (g:Nat) (nm s:ByteArray) (w:World) (hs:s.size≤1048576):Calls Tryz.prog 196 #[.pointer (some ⟨g,0,none⟩),.string nm,.string s] w (LfPost w (wordsQ nm.data.toList (words s.data.toList))):=by
 have hb0:=(Below.refl w.heap.size w).alloc (zG _) (.cells #[.int .i64 0,.string ByteArray.empty,.slice none 0 0,.slice none 0 0] 60)
 have c0:=words_any s (w.alloc (.cells #[.int .i64 0,.string ByteArray.empty,.slice none 0 0,.slice none 0 0] 60)) hs
 have hB:=Blk.new w 60 #[.int .i64 0,.string ByteArray.empty,.slice none 0 0,.slice none 0 0]
 have hz:(w.alloc (.cells #[.int .i64 0,.string ByteArray.empty,.slice none 0 0,.slice none 0 0] 60)).heap.size=w.heap.size+1:=by simp
 have HB:=zh hB
 have Hb0:=zh hb0
 have Hz:=zh hz
 have Hnm:=zh (of_str nm)
 have hwl:=words_len s
 clear hB hb0 hz
 generalize words s.data.toList=l at *
 go_enter Tryz.func196,Tryz.ntmps196
 go_wp2_with fail
 refine c0.mono ?_
 rintro e w2 ⟨v,rfl,hown,hb⟩
 have hsz:w.heap.size+1≤w2.heap.size:=by have:=hb.size; rw [Hz.out] at this; exact this
 rw [Hz.out] at hown
 obtain ⟨A,c,rfl,_⟩:=own_shape hown
 have hB2:=HB.out.below hb (by rw [Hz.out]; omega)
 have hR:=(ReadsS.of_own hown).mono (S':=fun b=>w.heap.size+1≤b∧b<w2.heap.size) fun b hS=>⟨hS.1,hS.2.1⟩
 have Hb2:=zh (Hb0.out.trans (hb.mono (by rw [Hz.out]; omega)))
 have HR:=zh hR
 have hlt:=hB2.lt
 have HB2:=zh hB2
 obtain ⟨q0,q1,q2,q3,f0,f1,f2,f3⟩:=HB2.out.four
 clear hown hb hR c0 hB2
 by_cases h0:l.length=0
 ·have Fin:Hid (wordsQ nm.data.toList l=none):=zh (by unfold wordsQ; rw [if_pos (List.length_eq_zero_iff.1 h0)])
  have h0':decide (0<(l.length:Int))=false:=decide_eq_false (by omega)
  have h0'':(l.length:Int)≤0:=by omega
  clear HR
  generalize l.length=n at *
  obtain rfl:n=0:=h0
  go_wp2_with (go_at_call 98; refine (must_no g _).mono ?_; rintro e w' ⟨rfl,rfl⟩)
  exact ⟨rfl,by rw [Fin.out]; exact ⟨rfl,Hb2.out⟩⟩
 ·have h0':(0:Int)<(l.length:Int):=by omega
  by_cases h1:l.length=1
  ·have Fin:Hid (wordsQ nm.data.toList l=some (.mk 2 nm (l.map str) [])):=zh (by
    unfold wordsQ; rw [if_neg (fun e=>h0 (by rw [e]; rfl)),if_pos h1,Hnm.out])
   generalize hn:l.length=n at *
   have Hn:=zh hn
   have h0d:decide (0<n)=true:=decide_eq_true (by omega)
   clear hn h0
   have h1':((n:Int) == 1)=true:=by rw [h1]; rfl
   clear h1
   have hF:QF (set4 w2 w.heap.size (.int .i64 2) (.string nm) (.slice A n c) (.slice none 0 0)) (fun b=>w.heap.size≤b∧b<(set4 w2 w.heap.size (.int .i64 2) (.string nm) (.slice A n c) (.slice none 0 0)).heap.size) (.mk 2 nm (l.map str) []) [.int .i64 2,.string nm,.slice A n c,.slice none 0 0] :=
    .mk [] (by rw [List.length_map]; exact Hn.out) ((HR.out.keep fun b o hS=>World.cell?_of_block (w:=w2) (set4_other w2 w.heap.size b _ _ _ _ (by omega))).mono fun b hS=>⟨by omega,by rw [set4_size]; exact hS.2⟩) rfl rfl (by simp) ReadsS.none_ (fun i hi=>absurd hi (by simp))
   have hbl:=below_set4 Hb2.out (zG _) (.int .i64 2) (.string nm) (.slice A n c) (.slice none 0 0)
   have hh:=HB2.out.set4 (.int .i64 2) (.string nm) (.slice A n c) (.slice none 0 0)
   have HF:=zh hF
   have Hbl:=zh hbl
   have Hh:=zh hh
   clear hF hbl hh HR Hb2
   go_wp2_with (go_at_call 98; refine (must_yes g _).mono ?_; rintro e w' ⟨rfl,rfl⟩)
   refine bodyPost_ret (results_cell rfl rfl (run_loadVar_row _ w.heap.size 60 60 #[.int .i64 2,.string nm,.slice A n c,.slice none 0 0] (0,0) _ Hh.out Tryz.underlying60 rfl (by kernel_rfl))) rfl ?_
   rw [Fin.out]
   exact ⟨_,_,_,_,rfl,HF.out,Hbl.out⟩
  ·have Fin:Hid (wordsQ nm.data.toList l=some (.mk 4 nm (l.map str) [])):=zh (by
    unfold wordsQ; rw [if_neg (fun e=>h0 (by rw [e]; rfl)),if_neg h1,Hnm.out])
   generalize hn:l.length=n at *
   have Hn:=zh hn
   have h0d:decide (0<n)=true:=decide_eq_true (by omega)
   clear hn h0
   have h1':((n:Int) == 1)=false:=by rw [beq_eq_false_iff_ne]; omega
   clear h1
   have hF:QF (set4 w2 w.heap.size (.int .i64 4) (.string nm) (.slice A n c) (.slice none 0 0)) (fun b=>w.heap.size≤b∧b<(set4 w2 w.heap.size (.int .i64 4) (.string nm) (.slice A n c) (.slice none 0 0)).heap.size) (.mk 4 nm (l.map str) []) [.int .i64 4,.string nm,.slice A n c,.slice none 0 0] :=
    .mk [] (by rw [List.length_map]; exact Hn.out) ((HR.out.keep fun b o hS=>World.cell?_of_block (w:=w2) (set4_other w2 w.heap.size b _ _ _ _ (by omega))).mono fun b hS=>⟨by omega,by rw [set4_size]; exact hS.2⟩) rfl rfl (by simp) ReadsS.none_ (fun i hi=>absurd hi (by simp))
   have hbl:=below_set4 Hb2.out (zG _) (.int .i64 4) (.string nm) (.slice A n c) (.slice none 0 0)
   have hh:=HB2.out.set4 (.int .i64 4) (.string nm) (.slice A n c) (.slice none 0 0)
   have HF:=zh hF
   have Hbl:=zh hbl
   have Hh:=zh hh
   clear hF hbl hh HR Hb2
   go_wp2_with (go_at_call 98; refine (must_yes g _).mono ?_; rintro e w' ⟨rfl,rfl⟩)
   refine bodyPost_ret (results_cell rfl rfl (run_loadVar_row _ w.heap.size 60 60 #[.int .i64 4,.string nm,.slice A n c,.slice none 0 0] (0,0) _ Hh.out Tryz.underlying60 rfl (by kernel_rfl))) rfl ?_
   rw [Fin.out]
   exact ⟨_,_,_,_,rfl,HF.out,Hbl.out⟩
end Go.Proofs.YtmomjpolkkbhnaaGreat.Qp
end
