/- Plain facts on words of texts. No program. -/
import Derived.Deep.CutRange
import Derived.Maps.AppendAt
import Derived.Test.YtlfpfkallgkjdaaGreatQAlertRunsRow0
import Derived.Test.YtlfpfkallgkjdaaGreatQAlertRunsRow3
import Derived.Test.YtlfpfkallgkjdaaGreatQAlertRunsRow4
set_option linter.unusedSectionVars false
set_option linter.unusedSimpArgs false
set_option linter.unusedVariables false
set_option maxRecDepth 20000
section
namespace Go.Proofs.YtlfpfkallgkjdaaGreat.Tk
open Go.RowKit Ut
def wordGo (a:List UInt8):List Nat→List UInt8
 | []=>a
 | r :: t=>if 32<a.length+(enc (lower (r:Int))).length then a else wordGo (a ++ enc (lower (r:Int))) t
def word (l:List Nat):List UInt8:=wordGo [] l
theorem wordGo_cons (a:List UInt8) (r:Nat) (t:List Nat):wordGo a (r :: t)=if 32<a.length+(enc (lower (r:Int))).length then a else wordGo (a ++ enc (lower (r:Int))) t:=rfl
theorem wordGo_len:∀ (l:List Nat) (a:List UInt8),a.length≤32→(wordGo a l).length≤32
 | [],a,h=>h
 | r :: t,a,h=>by
  rw [wordGo_cons]
  split
  ·exact h
  ·exact wordGo_len t _ (by rw [List.length_append]; omega)
theorem word_len (l:List Nat):(word l).length≤32:=wordGo_len l [] (by simp)
def last (c:List Nat):List (List Nat):=if c=[] then [] else [c]
def runs (c:List Nat):List Nat→List (List Nat)
 | []=>last c
 | r :: t=>if isWord (r:Int) then runs (c ++ [r]) t else last c ++ runs [] t
theorem runs_nil (c:List Nat):runs c []=last c:=rfl
theorem runs_cons (c:List Nat) (r:Nat) (t:List Nat):runs c (r :: t)=if isWord (r:Int) then runs (c ++ [r]) t else last c ++ runs [] t:=rfl
theorem runs_end:∀ (l c:List Nat) (b:Nat),isWord (b:Int)=false→runs c (l ++ [b])=runs c l
 | [],c,b,h=>by
  rw [List.nil_append,runs_cons,h,if_neg (by decide),runs_nil,runs_nil]
  simp [last]
 | r :: t,c,b,h=>by
  rw [List.cons_append,runs_cons,runs_cons,runs_end t _ b h,runs_end t _ b h]
def words (s:List UInt8):List (List UInt8):=(runs [] (runes s)).map word
end Go.Proofs.YtlfpfkallgkjdaaGreat.Tk
end

section
namespace Go.Proofs.YtlfpfkallgkjdaaGreat.Tk
open Go.RowKit Ut
def low (r:Nat):Nat:=(lower (r:Int)).toNat
theorem low_cast (r:Nat) (h:Ut.Good r):((low r:Nat):Int)=lower (r:Int):=Int.toNat_of_nonneg (lower_good r h).1
theorem low_good (r:Nat) (h:Ut.Good r):Ut.Good (low r):=(lower_good r h).2
theorem low_word (r:Nat) (h:Ut.Good r):isWord (low r:Nat)=isWord (r:Int):=by rw [low_cast r h,lower_word]
theorem low_low (r:Nat) (h:Ut.Good r):lower ((low r:Nat):Int)=lower (r:Int):=by rw [low_cast r h,lower_lower]
def wordN (a:List UInt8):List Nat→Nat
 | []=>0
 | r :: t=>if 32<a.length+(enc (lower (r:Int))).length then 0 else wordN (a ++ enc (lower (r:Int))) t+1
theorem wordN_cons (a:List UInt8) (r:Nat) (t:List Nat):wordN a (r :: t)=if 32<a.length+(enc (lower (r:Int))).length then 0 else wordN (a ++ enc (lower (r:Int))) t+1:=rfl
theorem wordGo_take:∀ (l:List Nat) (a:List UInt8),wordGo a (l.take (wordN a l))=wordGo a l
 | [],a=>rfl
 | r :: t,a=>by
  rw [wordN_cons,wordGo_cons]
  split
  ·rename_i h
   simp only [List.take_zero]
   rfl
  ·rename_i h
   rw [List.take_succ_cons,wordGo_cons,if_neg h,wordGo_take]
theorem wordGo_enc:∀ (l:List Nat) (a:List UInt8),wordGo a l=a ++ encode ((ints (l.take (wordN a l))).map lower)
 | [],a=>by simp [wordGo,ints,encode]
 | r :: t,a=>by
  rw [wordN_cons,wordGo_cons]
  split
  ·simp [ints,encode]
  ·rw [List.take_succ_cons,wordGo_enc t]
   simp [ints,encode]
theorem wordN_pos (r:Nat) (t:List Nat) : 1≤wordN [] (r :: t):=by
 rw [wordN_cons,if_neg (by have:=(enc_len (lower (r:Int))).2; simp; omega)]
 omega
theorem wordGo_low:∀ (l:List Nat) (a:List UInt8),(∀ r∈l,Ut.Good r)→wordGo a (l.map low)=wordGo a l
 | [],a,_=>rfl
 | r :: t,a,h=>by
  rw [List.map_cons,wordGo_cons,wordGo_cons,low_low r (h r (by simp)),wordGo_low t _ (fun x hx=>h x (by simp [hx]))]
theorem word_low (l:List Nat) (h:∀ r∈l,Ut.Good r):word (l.map low)=word l:=wordGo_low l [] h
def told (l:List Nat):List Nat:=(l.take (wordN [] l)).map low
theorem word_told (l:List Nat) (h:∀ r∈l,Ut.Good r):word (told l)=word l:=by
 unfold told
 rw [word_low _ (fun r hr=>h r (List.mem_of_mem_take hr))]
 exact wordGo_take l []
theorem runes_word (l:List Nat) (h:∀ r∈l,Ut.Good r) (t:List UInt8):runes (word l ++ t)=told l ++ runes t:=by
 have e:word l=encode ((ints (l.take (wordN [] l))).map lower):=by
  have:=wordGo_enc l []
  rw [List.nil_append] at this
  exact this
 rw [e,runes_encode,fix_lower _ (fun r hr=>h r (List.mem_of_mem_take hr))]
 rfl
theorem told_ne (l:List Nat) (h:l≠[]):told l≠[]:=by
 obtain ⟨r,t,rfl⟩:∃ r t,l=r :: t:=by cases l with | nil=>exact absurd rfl h | cons r t=>exact ⟨r,t,rfl⟩
 intro e
 have h1:=wordN_pos r t
 have h2:=congrArg List.length e
 unfold told at h2
 rw [List.length_map,List.length_take,List.length_cons,List.length_nil] at h2
 omega
def Run (l:List Nat):Prop:=l≠[]∧(∀ r∈l,Ut.Good r)∧∀ r∈l,isWord (r:Int)=true
theorem told_run (l:List Nat) (h:Run l):Run (told l):=by
 refine ⟨told_ne l h.1,?_,?_⟩
 ·intro r hr
  unfold told at hr
  obtain ⟨x,hx,rfl⟩:=List.mem_map.1 hr
  exact low_good x (h.2.1 x (List.mem_of_mem_take hx))
 ·intro r hr
  unfold told at hr
  obtain ⟨x,hx,rfl⟩:=List.mem_map.1 hr
  rw [low_word x (h.2.1 x (List.mem_of_mem_take hx))]
  exact h.2.2 x (List.mem_of_mem_take hx)
theorem runs_all:∀ (m c x:List Nat),(∀ r∈m,isWord (r:Int)=true)→runs c (m ++ x)=runs (c ++ m) x
 | [],c,x,_=>by simp
 | r :: m,c,x,h=>by
  rw [List.cons_append,runs_cons,h r (by simp),if_pos rfl,runs_all m (c ++ [r]) x (fun y hy=>h y (by simp [hy]))]
  simp
theorem runs_one (m:List Nat) (h:Run m):runs [] m=[m]:=by
 have:=runs_all m [] [] h.2.2
 rw [List.append_nil] at this
 rw [this,List.nil_append,runs_nil]
 rw [last,if_neg h.1]
theorem runs_are:∀ (l c:List Nat),(∀ r∈l,Ut.Good r)→(∀ r∈c,Ut.Good r∧isWord (r:Int)=true)→∀ m∈runs c l,Run m
 | [],c,_,hc,m,hm=>by
  rw [runs_nil] at hm
  unfold last at hm
  split at hm
  ·cases hm
  ·simp only [List.mem_singleton] at hm
   subst hm
   exact ⟨by assumption,fun r hr=>(hc r hr).1,fun r hr=>(hc r hr).2⟩
 | r :: t,c,hl,hc,m,hm=>by
  rw [runs_cons] at hm
  split at hm
  ·rename_i hw
   refine runs_are t (c ++ [r]) (fun x hx=>hl x (by simp [hx])) (fun x hx=>?_) m hm
   rcases List.mem_append.1 hx with hx | hx
   ·exact hc x hx
   ·simp only [List.mem_singleton] at hx
    subst hx
    exact ⟨hl x (by simp),hw⟩
  ·rcases List.mem_append.1 hm with hm | hm
   ·unfold last at hm
    split at hm
    ·cases hm
    ·simp only [List.mem_singleton] at hm
     subst hm
     exact ⟨by assumption,fun r hr=>(hc r hr).1,fun r hr=>(hc r hr).2⟩
   ·exact runs_are t [] (fun x hx=>hl x (by simp [hx])) (fun x hx=>by cases hx) m hm
theorem text_runs (s:List UInt8):∀ m∈runs [] (runes s),Run m:=runs_are _ _ (runes_good s) (fun x hx=>by cases hx)
theorem blank_no:isWord ((32:Nat):Int)=false:=by decide
theorem words_word (s:List UInt8):∀ w∈words s,words w=[w]∧w.length≤32:=by
 intro w hw
 unfold words at hw
 obtain ⟨m,hm,rfl⟩:=List.mem_map.1 hw
 have hr:=text_runs s m hm
 refine ⟨?_,word_len m⟩
 have e:=runes_word m hr.2.1 []
 rw [List.append_nil,runes_nil,List.append_nil] at e
 unfold words
 rw [e,runs_one _ (told_run m hr)]
 show [word (told m)]=[word m]
 rw [word_told m hr.2.1]
def isW (s:List UInt8):Bool:=words s == [s]
theorem isW_len (s:List UInt8) (h : 32<s.length):isW s=false:=by
 unfold isW
 rw [beq_eq_false_iff_ne]
 intro e
 have:=(words_word s s (by rw [e]; simp)).2
 omega
def nameB (c:UInt8):Bool:=c.toNat == 95 || (decide (48≤c.toNat) && decide (c.toNat≤57)) || (decide (97≤c.toNat) && decide (c.toNat≤122))
def isN (s:List UInt8):Bool:=decide (1≤s.length) && decide (s.length≤32) && s.all nameB
def colonAt (s:List UInt8):Nat:=s.findIdx (· == 58)
def term (a b:List UInt8):List UInt8:=a ++ 58 :: b
end Go.Proofs.YtlfpfkallgkjdaaGreat.Tk
end

section
namespace Go.Proofs.YtlfpfkallgkjdaaGreat.Ss
open Go.Shelf Go.RowKit Go.Lib Go.Sort
variable {α:Type} [Inhabited α] {enc : α→List Value} {cf : α→α→Int} {tag : α→Nat}
structure MIn (enc : α→List Value) (cf : α→α→Int) (tag : α→Nat) (k:Nat) (w0:World) (blk off:Nat) (d0 d:Array α) (a m b:Nat) (w:World):Prop where
 hs:d.size=d0.size
 S:SWK enc k w0 blk off d w
 hb:b≤d.size
 s1:Srt cf tag d a m
 s2:Srt cf tag d m b
 tg:Tg tag d a m b
set_option maxHeartbeats 4000000 in
set_option maxRecDepth 1000000 in
theorem sym_step (hW:SWO (ltOf cf)) (k:Nat) (hk2:k=2) (g:Nat) (cb:Array Value) (blk off cap a m b:Nat) (d0 d:Array α) (w0 w:World) (eg:∀ args w,(callFunc g args).run Tryz.prog w=.ok (.enter g args) w) (hC:CmpLays Tryz.prog g cb enc k cf blk off d0.size w0)
  (R:RowK enc k w0 blk off d0) (hI:MIn enc cf tag k w0 blk off d0 d a m b w) (ham:a+2≤m) (hmb:m+2≤b) (hsz:d.size<1099511627776)
  (ih:∀ (a' m' b':Nat) (d':Array α) (w':World),b' - a'<b - a→a'<m'→m'<b'→MIn enc cf tag k w0 blk off d0 d' a' m' b' w' →
   Calls Tryz.prog 151 #[.slice (some ⟨blk,off,none⟩) d'.size cap,.int .i64 a',.int .i64 m',.int .i64 b',.func (.func g) #[] cb] w' (MPost enc cf tag k w0 blk off d' a' b')) :
  Calls Tryz.prog 151 #[.slice (some ⟨blk,off,none⟩) d.size cap,.int .i64 a,.int .i64 m,.int .i64 b,.func (.func g) #[] cb] w (MPost enc cf tag k w0 blk off d a b):=by
 have zE:∀ w,(Go.sizeOf 105).run Tryz.prog w=.ok k w:=by rw [hk2]; exact Tryz.sizeOf105
 have mixed:Tryz.prog.follows Departure.mixedOrders=true:=by kernel_rfl
 have S0:Aside (SWK enc k w0 blk off d w):=hI.S
 have HC:Aside _:=hC
 have HS:=zh hI.hs
 have hb:=hI.hb
 have Q1:=zh hI.s1
 have Q2:=zh hI.s2
 have QT:=zh hI.tg
 have HK:=zh hk2
 have IH:=zh ih
 have e1:((m:Int) - (a:Int)=1)=False:=eq_false (by omega)
 have e2:((b:Int) - (m:Int)=1)=False:=eq_false (by omega)
 have e1':((m:Int) - (a:Int) == 1)=false:=by simp; omega
 have e2':((b:Int) - (m:Int) == 1)=false:=by simp; omega
 obtain ⟨mid,hmid⟩:∃ mid,mid=(a+b) / 2:=⟨_,rfl⟩
 have hm1 : 2 * mid≤a+b:=by omega
 have hm2:a+b≤2 * mid+1:=by omega
 have hmz:((a:Int)+(b:Int)) / 2=(mid:Int):=by omega
 clear hk2 hC hI ih hmid
 go_enter Tryz.func151,Tryz.ntmps151
 go_upto_if 140 with (fail)
 go_cut [20,21] from 138 to 146 (fun v20 v21 wx=>∃ lo hi:Nat,v20=.int .i64 (lo:Nat)∧v21=.int .i64 (hi:Nat)∧w=wx∧Hid ((lo+b=mid+m∧hi=mid∧mid<m)∨(lo=a∧hi=m∧m≤mid)))
 case first =>
  by_cases hgt:mid<m
  ·have hgz:(mid:Int)<(m:Int):=by omega
   go_wp2_with fail
   go_meet
   exact ⟨mid+m - b,mid,by go_num,by go_num,rfl,zh (.inl ⟨by omega,rfl,hgt⟩)⟩
  ·have hgz:¬ (mid:Int)<(m:Int):=by omega
   go_wp2_with fail
   go_meet
   exact ⟨a,m,by go_num,by go_num,rfl,zh (.inr ⟨rfl,rfl,by omega⟩)⟩
 case rest =>
 obtain ⟨lo,hi,rfl,rfl,rfl,HLH⟩:=hcut
 obtain ⟨hl1,hl2,hl3,hl4,hl5⟩:a≤lo∧lo≤hi∧hi≤m∧hi≤mid∧mid+m≤lo+b:=by rcases HLH.out with ⟨q1,q2,q3⟩ | ⟨q1,q2,q3⟩ <;> omega
 go_wp2_with fail
 go_loopw [20,21] (fun vi vj wr=>∃ (s r:Nat),lo≤s∧s≤r∧r≤hi∧vi=.int .i64 (s:Nat)∧vj=.int .i64 (r:Nat)∧Aside (SWK enc k w0 blk off d wr)∧Hid (∀ c,lo≤c→c<s→bef cf tag d[c]! d[mid+m - 1 - c]!)∧Hid (∀ c,r≤c→c<hi→bef cf tag d[mid+m - 1 - c]! d[c]!)) (fun vi vj _=>(intOf vj).toNat - (intOf vi).toNat)
 case atStart=>exact ⟨lo,hi,by omega,by omega,by omega,by go_num,by go_num,S0,zh (fun h _ _=>by omega),zh (fun h _ _=>by omega)⟩
 case round =>
  clear S0
  obtain ⟨s,r,hs1,hsr,hr2,rfl,rfl,S1,H1,H2⟩:=hrel
  by_cases hlt:s<r
  ·have hji:(s:Int)<(r:Int):=by omega
   obtain ⟨c0,hc0⟩:∃ c0,c0=(s+r) / 2:=⟨_,rfl⟩
   have hc1 : 2 * c0≤s+r:=by omega
   have hc2:s+r≤2 * c0+1:=by omega
   have hcz:((s:Int)+(r:Int)) / 2=(c0:Int):=by omega
   obtain ⟨P,hP⟩:∃ P,P=mid+m - 1 - c0:=⟨_,rfl⟩
   have hp1:P+c0+1=mid+m:=by omega
   have hPz:(mid:Int)+(m:Int) - 1 - (c0:Int)=(P:Int):=by omega
   have hPw:IntKind.i64.wrap (P:Int)=(P:Int):=by rw [IntKind.wrap_i64]; omega
   have n5:(P:Int)<(d.size:Int):=by omega
   have n6:(c0:Int)<(d.size:Int):=by omega
   have SG:Aside (∀ n os,SWK enc k w0 blk off d (grow (wr.drewN n) os)):=fun n os=>S1.out.grown n os
   have l1:=fun n' os'=>S1.out.ld R HS.out Tryz.prog (P) (by omega) n' os'
   have l2:=fun n' os'=>S1.out.ld R HS.out Tryz.prog (c0) (by omega) n' os'
   have hcg:=fun n' os'=>S1.out.cmp HC.out HS.out d[P]! d[c0]! n' os'
   have F1:Hid (cf d[P]! d[c0]!<0→∀ c,c0≤c→c<hi→bef cf tag d[mid+m - 1 - c]! d[c]!):=zh (fun hc c p1 p2=>sym_hi hW Q1.out Q2.out (c:=c0) (p:=mid+m - 1) (by omega) (by omega) (by rw [← hP]; exact hc) c p1 (by omega) (by omega))
   have F2:Hid (¬ cf d[P]! d[c0]!<0→∀ c,lo≤c→c<c0+1→bef cf tag d[c]! d[mid+m - 1 - c]!):=zh (fun hc c p1 p2=>sym_lo hW Q1.out Q2.out QT.out (c:=c0) (p:=mid+m - 1) (by omega) (by omega) (by omega) (by rw [← hP]; exact hc) c (by omega) (by omega) (by omega))
   obtain ⟨xp,hxp⟩:∃ x,d[P]! = x:=⟨_,rfl⟩
   obtain ⟨xq,hxq⟩:∃ x,d[c0]! = x:=⟨_,rfl⟩
   rw [hxp] at l1
   rw [hxq] at l2
   rw [hxp,hxq] at hcg F1 F2
   clear hxp hxq S1 hc0 hP
   by_cases hlv:cf xp xq<0
   ·have hdec:decide (cf xp xq<0)=true:=decide_eq_true hlv
    have N:=zh (F1.out hlv)
    clear F1 F2
    go_wp2_with fail
    go_quiet_grown (first | (go_at_fn g; refine Calls.grown_of (hcg _ _)))
    have S3:Aside (SWK enc k w0 blk off d (grow (wr.drewN nq) osq)):=SG.out nq osq
    generalize grow (wr.drewN nq) osq=w3 at S3 ⊢
    clear l1 l2 hcg SG
    go_wp2
    go_roundw
    case rel=>exact ⟨s,c0,by omega,by omega,by omega,rfl,by first | rfl | go_num,S3,H1,N⟩
    case measure=>simp [intOf]; omega
   ·have hdec:decide (cf xp xq<0)=false:=decide_eq_false hlv
    have N:=zh (F2.out hlv)
    clear F1 F2
    go_wp2_with fail
    go_quiet_grown (first | (go_at_fn g; refine Calls.grown_of (hcg _ _)))
    have S3:Aside (SWK enc k w0 blk off d (grow (wr.drewN nq) osq)):=SG.out nq osq
    generalize grow (wr.drewN nq) osq=w3 at S3 ⊢
    clear l1 l2 hcg SG
    go_wp2
    go_roundw
    case rel=>exact ⟨c0+1,r,by omega,by omega,by omega,by first | rfl | go_num,rfl,S3,N,H2⟩
    case measure=>simp [intOf]; omega
  ·obtain rfl:s=r:=by omega
   obtain ⟨e,he⟩:∃ e,e=mid+m - s:=⟨_,rfl⟩
   have hez:(mid:Int)+(m:Int) - (s:Int)=(e:Int):=by omega
   have hse:mid+m=s+e:=by omega
   have HSP:Hid (∀ d1:Array α,(∀ x,d1[x]! = rotR d s m e x)→(Srt cf tag d1 a s∧Srt cf tag d1 s mid∧Tg tag d1 a s mid)∧(Srt cf tag d1 mid e∧Srt cf tag d1 e b∧Tg tag d1 mid e b)∧(∀ x y,a≤x→x<mid→mid≤y→y<b→bef cf tag d1[x]! d1[y]!)):=zh (fun d1 hd=>sym_split hW (by omega) (by omega) (by omega) (by omega) (by omega) (by omega) hse Q1.out Q2.out QT.out
    (by
     by_cases h:s=lo
     ·rcases HLH.out with ⟨q1,q2,q3⟩ | ⟨q1,q2,q3⟩ <;> first | exact .inl (by omega) | exact .inr (.inl (by omega))
     ·have h1:=H1.out (s - 1) (by omega) (by omega)
      rw [show mid+m - 1 - (s - 1)=e by omega] at h1
      exact .inr (.inr h1))
    (by
     by_cases h:s=hi
     ·rcases HLH.out with ⟨q1,q2,q3⟩ | ⟨q1,q2,q3⟩ <;> first | exact .inl (by omega) | exact .inr (.inl (by omega))
     ·have h1:=H2.out s (by omega) (by omega)
      rw [show mid+m - 1 - s=e - 1 by omega] at h1
      exact .inr (.inr h1)) hd)
   have hsa:a≤s:=by omega
   have hsm:s≤m:=by omega
   have hsmid:s≤mid:=by omega
   have hme:m≤e:=by omega
   have heb:e≤b:=by omega
   have hmide:mid≤e:=by omega
   clear H1 H2 Q1 Q2 QT hs1 hsr hr2 hlt he hse HLH hl1 hl2 hl3 hl4 hl5
   have hslt:¬ (s:Int)<(s:Int):=by omega
   go_upto_region 39 with (fail)
   go_cut [185] from 178 to 185 (fun v wx=>v=.bool (decide (s<m∧m<e))∧wr=wx)
   case first =>
    by_cases z1:((s:Nat):Int)<((m:Nat):Int)
    ·by_cases z2:((m:Nat):Int)<((e:Nat):Int)
     all_goals
      go_wp2_with fail
      go_meet
      first | exact ⟨congrArg Value.bool (decide_eq_true (by omega)).symm,rfl⟩ | exact ⟨congrArg Value.bool (decide_eq_false (by omega)).symm,rfl⟩
    ·go_wp2_with fail
     go_meet
     exact ⟨congrArg Value.bool (decide_eq_false (by omega)).symm,rfl⟩
   case rest =>
   obtain ⟨rfl,rfl⟩:=hcut
   go_upto_if 185 with (fail)
   go_cut [] from 178 to 191 (fun wx=>∃ d1:Array α,Aside (SWK enc k w0 blk off d1 wx)∧Hid (d1.size=d.size)∧Hid (PermIn a b d d1)∧Hid ((Srt cf tag d1 a s∧Srt cf tag d1 s mid∧Tg tag d1 a s mid)∧(Srt cf tag d1 mid e∧Srt cf tag d1 e b∧Tg tag d1 mid e b)∧(∀ x y,a≤x→x<mid→mid≤y→y<b→bef cf tag d1[x]! d1[y]!)))
   case first =>
    by_cases hrot:s<m∧m<e
    ·rw [decide_eq_true hrot]
     have RT:=zh (rotate_any k HK.out (.func (.func g) #[] cb) blk off cap s m e d0 d w0 wr R HS.out S1.out hrot.1 hrot.2 (by omega) hsz)
     clear S1 hrot
     go_wp2_with fail
     refine RT.out.mono ?_
     rintro ev w2 ⟨rfl,d1,S2,hd1,hP1,hX1⟩
     have P1:Hid (PermIn a b d d1):=zh (permIn_mono _ _ _ _ _ _ hsa heb hb hP1)
     have SP:=zh (HSP.out d1 hX1)
     have D1:=zh hd1
     have S1:Aside (SWK enc k w0 blk off d1 w2):=S2
     clear RT hP1 hX1 HSP hd1 S2
     go_wp2_with fail
     go_meet
     exact ⟨d1,S1,D1,P1,SP⟩
    ·rw [decide_eq_false hrot]
     have SP:=zh (HSP.out d (rot_id d s m e (by omega) hsm hme))
     clear hrot
     go_wp2_with fail
     go_meet
     exact ⟨d,S1,zh rfl,zh (permIn_refl _ _ _),SP⟩
   case rest =>
   obtain ⟨d1,S1,D1,P1,SP⟩:=hcut
   clear HSP hslt
   go_upto_region 41 with (fail)
   go_cut [199] from 192 to 199 (fun v wx=>v=.bool (decide (a<s∧s<mid))∧wc=wx)
   case first =>
    by_cases z1:((a:Nat):Int)<((s:Nat):Int)
    ·by_cases z2:((s:Nat):Int)<((mid:Nat):Int)
     all_goals
      go_wp2_with fail
      go_meet
      first | exact ⟨congrArg Value.bool (decide_eq_true (by omega)).symm,rfl⟩ | exact ⟨congrArg Value.bool (decide_eq_false (by omega)).symm,rfl⟩
    ·go_wp2_with fail
     go_meet
     exact ⟨congrArg Value.bool (decide_eq_false (by omega)).symm,rfl⟩
   case rest =>
   obtain ⟨rfl,rfl⟩:=hcut
   go_upto_if 199 with (fail)
   go_cut [] from 192 to 205 (fun wx=>∃ d2:Array α,Aside (SWK enc k w0 blk off d2 wx)∧Hid (d2.size=d.size)∧Hid (PermIn a mid d1 d2∧Srt cf tag d2 a mid))
   case first =>
    by_cases hc1:a<s∧s<mid
    ·rw [decide_eq_true hc1]
     have c1:=IH.out a s mid d1 _ (by omega) hc1.1 hc1.2 ⟨D1.out.trans HS.out,S1.out,by have:=D1.out; omega,SP.out.1.1,SP.out.1.2.1,SP.out.1.2.2⟩
     rw [D1.out] at c1
     have C1:=zh c1
     clear c1 S1 hc1
     go_wp2_with fail
     refine C1.out.mono ?_
     rintro ev w5 ⟨rfl,d2,S2,hd2,hP2,hS2⟩
     have S5:Aside (SWK enc k w0 blk off d2 w5):=S2
     have D2:Hid (d2.size=d.size):=zh (hd2.trans D1.out)
     have P2:Hid (PermIn a mid d1 d2∧Srt cf tag d2 a mid):=zh ⟨hP2,hS2⟩
     clear C1 S2 hd2 hP2 hS2
     go_wp2_with fail
     go_meet
     exact ⟨d2,S5,D2,P2⟩
    ·rw [decide_eq_false hc1]
     have P2:Hid (PermIn a mid d1 d1∧Srt cf tag d1 a mid):=zh ⟨permIn_refl _ _ _,by
      by_cases h:s=a
      ·have:=SP.out.1.2.1; rwa [h] at this
      ·have:=SP.out.1.1; rwa [show s=mid by omega] at this⟩
     clear hc1
     go_wp2_with fail
     go_meet
     exact ⟨d1,S1,D1,P2⟩
   case rest =>
   obtain ⟨d2,S5,D2,P2⟩:=hcut
   clear S1
   by_cases hc2:mid<e∧e<b
   ·obtain ⟨y1,y2⟩:=hc2
    have v1:(mid:Int)<(e:Int):=by omega
    have v2:(e:Int)<(b:Int):=by omega
    have kp:∀ x,mid≤x→x<b→d2[x]! = d1[x]!:=fun x hx _=>P2.out.1.2.1 x (.inr hx)
    have c2:=IH.out mid e b d2 _ (by omega) y1 y2 ⟨D2.out.trans HS.out,S5.out,by have:=D2.out; omega,SP.out.2.1.1.keep (fun x h1 h2=>kp x h1 (by omega)),SP.out.2.1.2.1.keep (fun x h1 h2=>kp x (by omega) h2),SP.out.2.1.2.2.keep kp⟩
    rw [D2.out] at c2
    have C2:=zh c2
    clear c2 S5 y1 y2 kp
    go_wp2_with fail
    all_goals (
     refine C2.out.mono ?_
     rintro ev w6 ⟨rfl,d3,S3,hd3,hP3,hS3⟩
     have Fin:Hid (SWK enc k w0 blk off d3 w6∧d3.size=d.size∧PermIn a b d d3∧Srt cf tag d3 a b):=zh ⟨S3,hd3.trans D2.out,permIn_trans _ _ _ _ _ P1.out (permIn_trans _ _ _ _ _ (permIn_mono _ _ _ _ _ _ (by omega) (by omega) (by have:=D1.out; omega) P2.out.1) (permIn_mono _ _ _ _ _ _ (by omega) (by omega) (by have:=D2.out; omega) hP3)),sym_done (by omega) (by omega) (by have:=D1.out; omega) SP.out.2.2 P2.out.1 P2.out.2 hP3 hS3⟩
     clear C2 S3 hd3 hP3 hS3 D1 D2 P1 P2 SP
     go_wp2
     go_end0
     exact ⟨rfl,d3,Fin.out⟩)
   ·have Fin:Hid (d2.size=d.size∧PermIn a b d d2∧Srt cf tag d2 a b):=zh ⟨D2.out,permIn_trans _ _ _ _ _ P1.out (permIn_mono _ _ _ _ _ _ (by omega) (by omega) (by have:=D1.out; omega) P2.out.1),sym_done (by omega) (by omega) (by have:=D1.out; omega) SP.out.2.2 P2.out.1 P2.out.2 (permIn_refl _ _ _) (by
     have kp:∀ x,mid≤x→x<b→d2[x]! = d1[x]!:=fun x hx _=>P2.out.1.2.1 x (.inr hx)
     by_cases h:e=mid
     ·have:=SP.out.2.1.2.1.keep (fun x h1 h2=>kp x (by omega) h2); rwa [h] at this
     ·have:=SP.out.2.1.1.keep (fun x h1 h2=>kp x h1 (by omega)); rwa [show e=b by omega] at this)⟩
    clear D1 D2 P1 P2 SP
    by_cases h:mid<e
    ·have v1:(mid:Int)<(e:Int):=by omega
     have v2:¬ (e:Int)<(b:Int):=by omega
     clear h hc2
     go_wp2
     all_goals go_end0
     all_goals exact ⟨rfl,d2,S5.out,Fin.out⟩
    ·have v1:¬ (mid:Int)<(e:Int):=by omega
     clear h hc2
     go_wp2
     all_goals go_end0
     all_goals exact ⟨rfl,d2,S5.out,Fin.out⟩
theorem sym_any (hW:SWO (ltOf cf)) (k:Nat) (hk2:k=2) (g:Nat) (cb:Array Value) (blk off cap:Nat) (d0:Array α) (w0:World) (eg:∀ args w,(callFunc g args).run Tryz.prog w=.ok (.enter g args) w) (hC:CmpLays Tryz.prog g cb enc k cf blk off d0.size w0)
  (R:RowK enc k w0 blk off d0) (hsz:d0.size<1099511627776):∀ (n a m b:Nat) (d:Array α) (w:World),b - a≤n→a<m→m<b→MIn enc cf tag k w0 blk off d0 d a m b w →
   Calls Tryz.prog 151 #[.slice (some ⟨blk,off,none⟩) d.size cap,.int .i64 a,.int .i64 m,.int .i64 b,.func (.func g) #[] cb] w (MPost enc cf tag k w0 blk off d a b):=by
 intro n
 induction n with
 | zero=>intro a m b d w h1 h2 h3; omega
 | succ n ih =>
  intro a m b d w h1 h2 h3 hI
  have hds:=hI.hs
  by_cases hm:m=a+1
  ·exact symL_any hW k hk2 g cb blk off cap a m b hm d0 d w0 w eg hC R hI.hs hI.S hI.hb (by omega) (by omega) (by rw [← hm]; exact hI.s2) (fun y p1 p2=>hI.tg a y (by omega) h2 (by omega) p2)
  ·by_cases hb:b=m+1
   ·exact symR_any hW k hk2 g cb blk off cap a m b hb d0 d w0 w eg hC R hI.hs hI.S hI.hb (by omega) (by omega) hI.s1 (fun y p1 p2=>hI.tg y m p1 p2 (zG _) h3)
   ·exact sym_step hW k hk2 g cb blk off cap a m b d0 d w0 w eg hC R hI (by omega) (by omega) (by omega) (fun a' m' b' d' w' q1 q2 q3 q4=>ih a' m' b' d' w' (by omega) q2 q3 q4)
end Go.Proofs.YtlfpfkallgkjdaaGreat.Ss
end

section
namespace Go.Proofs.YtlfpfkallgkjdaaGreat.Ss
open Go.Sort Go.Proofs
variable {α:Type} [Inhabited α] {cf : α→α→Int} {tag : α→Nat}
def Tgb (tag : α→Nat) (d:Array α) (B n:Nat):Prop:=∀ c x y,x<c * B→c * B≤y→y<n→tag d[x]!<tag d[y]!
def Sb (cf : α→α→Int) (tag : α→Nat) (d:Array α) (B n:Nat):Prop:=∀ c,Srt cf tag d (c * B) (min ((c+1) * B) n)
theorem Tgb.perm {d d':Array α} {B n a b:Nat} (hT:Tgb tag d B n) (hb:b≤d.size) (hin:∀ c,c * B≤a∨b≤c * B) (P:PermIn a b d d') (hbn:b≤n):Tgb tag d' B n:=by
 intro c x y hx hy hn
 have hc:=hin c
 have hT:=hT c
 generalize c * B=q at *
 have h1:∀ x0,x0<q→tag d[x0]!<tag d'[y]!:=fun x0 hx0=>by
  by_cases hyi:a≤y∧y<b
  ·exact permIn_all d d' a b (fun z=>tag d[x0]!<tag z) hb P (fun i hi hi2=>hT x0 i hx0 (by omega) (by omega)) y hyi.1 hyi.2
  ·rw [P.2.1 y (by omega)]; exact hT x0 y hx0 hy hn
 by_cases hxi:a≤x∧x<b
 ·exact permIn_all d d' a b (fun z=>tag z<tag d'[y]!) hb P (fun i hi hi2=>h1 i (by omega)) x hxi.1 hxi.2
 ·rw [P.2.1 x (by omega)]; exact h1 x hx
theorem Tgb.twice {d:Array α} {B n:Nat} (h:Tgb tag d B n):Tgb tag d (2 * B) n:=fun c x y hx hy hn=>by
 have e:c * (2 * B)=(c * 2) * B:=(Nat.mul_assoc c 2 B).symm
 rw [e] at hx hy
 exact h (c * 2) x y hx hy hn
structure Ph (cf : α→α→Int) (tag : α→Nat) (d0 dB dk:Array α) (B n c:Nat):Prop where
 hs:dk.size=d0.size
 hBs:dB.size=d0.size
 hn:n≤d0.size
 P:PermIn 0 n d0 dk
 T:Tgb tag dk (2 * B) n
 S:∀ c'<c,Srt cf tag dk (c' * (2 * B)) ((c'+1) * (2 * B))
 K:∀ x,c * (2 * B)≤x→dk[x]! = dB[x]!
 TB:Tgb tag dB B n
 SB:Sb cf tag dB B n
theorem Ph.start {d0 dB:Array α} {B n:Nat} (hBs:dB.size=d0.size) (hn:n≤d0.size) (P:PermIn 0 n d0 dB) (T:Tgb tag dB B n) (S:Sb cf tag dB B n):Ph cf tag d0 dB dB B n 0 :=
 ⟨hBs,hBs,hn,P,T.twice,fun c' h=>by omega,fun _ _=>rfl,T,S⟩
theorem blk_a (c B:Nat):(c * 2) * B=c * (2 * B):=Nat.mul_assoc c 2 B
theorem blk_m (c B:Nat):(c * 2+1) * B=c * (2 * B)+B:=by rw [Nat.add_mul,Nat.mul_assoc,Nat.one_mul]
theorem blk_b (c B:Nat):(c+1) * (2 * B)=c * (2 * B)+2 * B:=by rw [Nat.add_mul,Nat.one_mul]
theorem Ph.wants {d0 dB dk:Array α} {B n c a b:Nat} (h:Ph cf tag d0 dB dk B n c) (ha:a=c * (2 * B)) (hb:b=min (a+2 * B) n) (hm:a+B<n):Srt cf tag dk a (a+B)∧Srt cf tag dk (a+B) b∧Tg tag dk a (a+B) b:=by
 have s1:=h.SB (c * 2)
 have s2:=h.SB (c * 2+1)
 have t1:=h.TB (c * 2+1)
 have e3:(c * 2+1+1) * B=c * (2 * B)+2 * B:=by rw [Nat.add_mul,blk_m]; omega
 rw [blk_m,blk_a,← ha] at s1
 rw [e3,blk_m,← ha] at s2
 rw [blk_m,← ha] at t1
 have K:=h.K
 rw [← ha] at K
 have hb1:b≤n:=by omega
 refine ⟨(s1.sub (zG _) (by omega)).keep (fun x h1 h2=>K x h1),(s2.sub (zG _) (by omega)).keep (fun x h1 h2=>K x (by omega)),fun x y h1 h2 h3 h4=>?_⟩
 rw [K x h1,K y (by omega)]
 exact t1 x y h2 h3 (by omega)
theorem Ph.next {d0 dB dk d':Array α} {B n c a:Nat} (h:Ph cf tag d0 dB dk B n c) (ha:a=c * (2 * B)) (hb:a+2 * B≤n) (P:PermIn a (a+2 * B) dk d') (S:Srt cf tag d' a (a+2 * B)):Ph cf tag d0 dB d' B n (c+1):=by
 have hs:=h.hs
 have hn:=h.hn
 refine ⟨P.1.trans hs,h.hBs,hn,permIn_trans _ _ _ _ _ h.P (permIn_mono _ _ _ _ _ _ (by omega) (by omega) (by omega) P),h.T.perm (by omega) (fun c'=>?_) P (by omega),fun c' hc'=>?_,fun x hx=>?_,h.TB,h.SB⟩
 ·rcases Nat.lt_or_ge c c' with g | g
  ·refine .inr ?_
   have:=Nat.mul_le_mul_right (2 * B) (show c+1≤c' from g)
   rw [blk_b,← ha] at this
   exact this
  ·exact .inl (by rw [ha]; exact Nat.mul_le_mul_right _ g)
 ·rcases Nat.lt_or_ge c' c with g | g
  ·have e:=Nat.mul_le_mul_right (2 * B) (show c'+1≤c from g)
   rw [← ha] at e
   exact (h.S c' g).keep (fun x h1 h2=>P.2.1 x (.inl (by omega)))
  ·obtain rfl:c'=c:=by omega
   rw [blk_b,← ha]; exact S
 ·rw [blk_b,← ha] at hx
  rw [P.2.1 x (.inr hx)]
  exact h.K x (by rw [← ha]; omega)
theorem Ph.last {d0 dB dk d':Array α} {B n c a:Nat} (h:Ph cf tag d0 dB dk B n c) (ha:a=c * (2 * B)) (hb:n<a+2 * B) (hm:a+B<n) (P:PermIn a n dk d') (S:Srt cf tag d' a n):d'.size=d0.size∧PermIn 0 n d0 d'∧Tgb tag d' (2 * B) n∧Sb cf tag d' (2 * B) n:=by
 have hs:=h.hs
 have hn:=h.hn
 refine ⟨P.1.trans hs,permIn_trans _ _ _ _ _ h.P (permIn_mono _ _ _ _ _ _ (by omega) (by omega) (by omega) P),h.T.perm (by omega) (fun c'=>?_) P (by omega),fun c'=>?_⟩
 ·rcases Nat.lt_or_ge c c' with g | g
  ·refine .inr ?_
   have:=Nat.mul_le_mul_right (2 * B) (show c+1≤c' from g)
   rw [blk_b,← ha] at this
   omega
  ·exact .inl (by rw [ha]; exact Nat.mul_le_mul_right _ g)
 ·rcases Nat.lt_trichotomy c' c with g | g | g
  ·have e:=Nat.mul_le_mul_right (2 * B) (show c'+1≤c from g)
   rw [← ha] at e
   exact ((h.S c' g).keep (fun x h1 h2=>P.2.1 x (.inl (by omega)))).sub (zG _) (by omega)
  ·subst g
   rw [blk_b,← ha]
   exact S.sub (zG _) (by omega)
  ·have:=Nat.mul_le_mul_right (2 * B) (show c+1≤c' from g)
   rw [blk_b,← ha] at this
   exact Srt.one _ (by omega)
theorem Ph.done {d0 dB dk:Array α} {B n c a:Nat} (h:Ph cf tag d0 dB dk B n c) (ha:a=c * (2 * B)) (hm:n≤a+B):dk.size=d0.size∧PermIn 0 n d0 dk∧Tgb tag dk (2 * B) n∧Sb cf tag dk (2 * B) n:=by
 refine ⟨h.hs,h.P,h.T,fun c'=>?_⟩
 rcases Nat.lt_trichotomy c' c with g | g | g
 ·exact (h.S c' g).sub (zG _) (by omega)
 ·subst g
  have s1:=h.SB (c' * 2)
  rw [blk_m,blk_a,← ha] at s1
  rw [blk_b,← ha]
  have K:=h.K
  rw [← ha] at K
  exact (s1.sub (zG _) (by omega)).keep (fun x h1 h2=>K x h1)
 ·have:=Nat.mul_le_mul_right (2 * B) (show c+1≤c' from g)
  rw [blk_b,← ha] at this
  exact Srt.one _ (by omega)
theorem Sb.whole {d:Array α} {B n:Nat} (h:Sb cf tag d B n) (hB:n≤B):Srt cf tag d 0 n:=by
 have:=h 0
 rw [Nat.zero_mul,Nat.zero_add,Nat.one_mul] at this
 exact this.sub (zG _) (by omega)
structure Pi (cf : α→α→Int) (tag : α→Nat) (d0 dk:Array α) (B n c:Nat):Prop where
 hs:dk.size=d0.size
 hn:n≤d0.size
 P:PermIn 0 n d0 dk
 T:Tgb tag dk B n
 S:∀ c'<c,Srt cf tag dk (c' * B) ((c'+1) * B)
 K:∀ x,c * B≤x→dk[x]! = d0[x]!
 O:∀ x y,x<y→y<n→tag d0[x]!<tag d0[y]!
theorem Pi.start {d0:Array α} {B n:Nat} (hn:n≤d0.size) (O:∀ x y,x<y→y<n→tag d0[x]!<tag d0[y]!):Pi cf tag d0 d0 B n 0 :=
 ⟨rfl,hn,permIn_refl _ _ _,fun c x y hx hy hn=>O x y (by omega) hn,fun c' h=>by omega,fun _ _=>rfl,O⟩
theorem Pi.next {d0 dk d':Array α} {B n c a:Nat} (h:Pi cf tag d0 dk B n c) (ha:a=c * B) (hb:a+B≤n) (P:PermIn a (a+B) dk d') (S:Srt cf tag d' a (a+B)):Pi cf tag d0 d' B n (c+1):=by
 have hs:=h.hs
 have hn:=h.hn
 have e1:(c+1) * B=a+B:=by rw [Nat.add_mul,Nat.one_mul,ha]
 refine ⟨P.1.trans hs,hn,permIn_trans _ _ _ _ _ h.P (permIn_mono _ _ _ _ _ _ (by omega) (by omega) (by omega) P),h.T.perm (by omega) (fun c'=>?_) P (by omega),fun c' hc'=>?_,fun x hx=>?_,h.O⟩
 ·rcases Nat.lt_or_ge c c' with g | g
  ·refine .inr ?_
   have:=Nat.mul_le_mul_right B (show c+1≤c' from g)
   rw [e1] at this
   exact this
  ·exact .inl (by rw [ha]; exact Nat.mul_le_mul_right _ g)
 ·rcases Nat.lt_or_ge c' c with g | g
  ·have e:=Nat.mul_le_mul_right B (show c'+1≤c from g)
   rw [← ha] at e
   exact (h.S c' g).keep (fun x h1 h2=>P.2.1 x (.inl (by omega)))
  ·obtain rfl:c'=c:=by omega
   rw [e1,← ha]; exact S
 ·rw [e1] at hx
  rw [P.2.1 x (.inr hx)]
  exact h.K x (by rw [← ha]; omega)
theorem Pi.last {d0 dk d':Array α} {B n c a:Nat} (h:Pi cf tag d0 dk B n c) (ha:a=c * B) (hb:n<a+B) (han:a≤n) (P:PermIn a n dk d') (S:Srt cf tag d' a n):d'.size=d0.size∧PermIn 0 n d0 d'∧Tgb tag d' B n∧Sb cf tag d' B n:=by
 have hs:=h.hs
 have hn:=h.hn
 have e1:(c+1) * B=a+B:=by rw [Nat.add_mul,Nat.one_mul,ha]
 refine ⟨P.1.trans hs,permIn_trans _ _ _ _ _ h.P (permIn_mono _ _ _ _ _ _ (by omega) (by omega) (by omega) P),h.T.perm (by omega) (fun c'=>?_) P (by omega),fun c'=>?_⟩
 ·rcases Nat.lt_or_ge c c' with g | g
  ·refine .inr ?_
   have:=Nat.mul_le_mul_right B (show c+1≤c' from g)
   rw [e1] at this
   omega
  ·exact .inl (by rw [ha]; exact Nat.mul_le_mul_right _ g)
 ·rcases Nat.lt_trichotomy c' c with g | g | g
  ·have e:=Nat.mul_le_mul_right B (show c'+1≤c from g)
   rw [← ha] at e
   exact ((h.S c' g).keep (fun x h1 h2=>P.2.1 x (.inl (by omega)))).sub (zG _) (by omega)
  ·subst g
   rw [e1,← ha]
   exact S.sub (zG _) (by omega)
  ·have:=Nat.mul_le_mul_right B (show c+1≤c' from g)
   rw [e1] at this
   exact Srt.one _ (by omega)
theorem Pi.tags {d0 dk:Array α} {B n c a:Nat} (h:Pi cf tag d0 dk B n c) (ha:a=c * B) {x y:Nat} (hx:a≤x) (hxy:x<y) (hy:y<n):tag dk[x]!<tag dk[y]!:=by
 have K:=h.K
 rw [← ha] at K
 rw [K x hx,K y (by omega)]
 exact h.O x y hxy hy
theorem permIn_upto {d d':Array α} {a b i:Nat} (P:PermIn a b d d') (hai:a≤i) (K:∀ x,i≤x→d'[x]! = d[x]!) (hib:i≤b) (hb:b≤d.size):PermIn a i d d':=by
 refine ⟨P.1,fun x hx=>?_,?_⟩
 ·rcases hx with hx | hx
  ·exact P.2.1 x (.inl hx)
  ·exact K x hx
 ·have hs:=P.1
  have e:∀ (c:Array α),b≤c.size→(c.extract a b).toList=(c.extract a i).toList ++ (c.extract i b).toList:=fun c hc=>by
   rw [← Array.toList_append,Array.extract_append_extract]
   congr 2 <;> omega
  have h2:(d'.extract i b).toList=(d.extract i b).toList:=by
   refine List.ext_getElem (by simp [hs]) (fun x h1 h3=>?_)
   have hx:i+x<d.size:=by simp at h3; omega
   have:=K (i+x) (by omega)
   rw [getElem!_pos d' (i+x) (by omega),getElem!_pos d (i+x) hx] at this
   simpa using this
  have P2:=P.2.2
  rw [e d' (by omega),e d hb,h2] at P2
  exact (List.perm_append_right_iff _).1 P2
theorem ins_srt (hW:SWO (ltOf cf)) {di dj:Array α} {a i j:Nat} (haj:a≤j) (hji:j≤i) (S:Srt cf tag di a i) (hT:∀ h,a≤h→h<i→tag di[h]!<tag di[i]!) (hX:∀ x,dj[x]! = shR di i j x) (hG:∀ h,j≤h→h<i→bef cf tag di[i]! di[h]!) (hstop:j≤a∨¬ cf di[i]! di[j - 1]!<0):Srt cf tag dj a (i+1):=by
 refine shR_srt hW haj hji S (fun h h1 h2=>?_) hG hX
 rcases hstop with g | g
 ·omega
 ·exact S.step_l hW (y:=j - 1) h1 (by omega) (by omega) (bef_ge (hT (j - 1) (by omega) (by omega)) g)
end Go.Proofs.YtlfpfkallgkjdaaGreat.Ss
end

section
namespace Go.Proofs.YtlfpfkallgkjdaaGreat.Ph
open Go.RowKit
section
variable {P:Program} {o:Oper} {a:Act} {w:World} {R:Value→World→Prop}
theorem give_append_at (s x:Operand) (t:TypeId) (ho:o.op=.call { callee:=.builtin .append,args:=#[s,x],argTypes:=#[t,t] })
  (base:Nat) (e:TypeId) (i:TypeInfo) (z:Value) (size bytes:Nat) (ht:P.underlying t=some (.slice e)) (hi:P.info? e=some i) (hz:i.zero=some z)
  (hsize:i.size=size) (hby:i.bytes=bytes) (hzs:z.cells.size=size) (hsz : 0<size)
  (v:Value) (n:Nat) (xs:List Value) (hs:a.eval s=v) (hown:w.ownsRow base e size v n xs)
  (ad:Addr) (m c:Nat) (news:List Value) (hx:a.eval x=.slice (some ad) m c) (hl:news.length=m * size) (hnews:∀ j u,news[j]?=some u→w.cell? (ad.add j)=some u) (h1:∀ u∈news,u.oneCell'=true)
  (h63:n+m≤maxLen) (hbytes:(n+m) * bytes≤140737488355328) (hbase:base≤w.heap.size)
  (h:∀ v' w',w'.ownsRow base e size v' (n+m) (xs ++ news)→w.grownBy w' v.ownBlock→(v'.ownBlock=v.ownBlock∨v'.ownBlock=some w.heap.size)→R v' w'):growUpon P Tr w R ((execOp a.eval o).run P w):=by
 obtain ⟨v',w',hr,h2,h3,_,h5⟩:=run_append_own_at (P:=P) w base t o.type e i z size bytes ht hi hz hsize hby hzs hsz v n xs hown ad m c news hl hnews h1 h63 hbytes hbase
 unfold execOp
 simp only [ho,resolve,invoke,builtin,Sem.run_bind,Sem.run_pure,Result.andThen_ok,List.map_toArray,List.map_cons,List.map_nil,hs,hx,hr]
 exact ⟨trivial,h v' w' h2 h3 h5⟩
end
end Go.Proofs.YtlfpfkallgkjdaaGreat.Ph
end
