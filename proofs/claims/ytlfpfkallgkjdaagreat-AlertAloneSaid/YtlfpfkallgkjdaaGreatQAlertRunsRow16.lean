/- Pieces of texts, and what is read of them: plain. No program. -/
import Derived.Test.YtlfpfkallgkjdaaGreatQAlertRunsRow4
import Derived.Test.YtlfpfkallgkjdaaGreatQAlertRunsRow5
import Derived.Test.YtlfpfkallgkjdaaGreatQAlertRunsRow11
import Derived.Test.YtlfpfkallgkjdaaGreatQAlertRunsRow0
set_option linter.unusedSectionVars false
set_option linter.unusedSimpArgs false
set_option linter.unusedVariables false
set_option maxRecDepth 20000
section
namespace Go.Proofs.YtlfpfkallgkjdaaGreat.Qp
open Go.RowKit Ut Tk Qy
abbrev P:=List UInt8
def blank (c:UInt8):Bool:=c == 32 || c == 9
def ends (c:UInt8):Bool:=c == 32 || c == 9 || c == 40 || c == 41 || c == 34
def quoteAt (s:P):Nat:=s.findIdx (· == 34)
def quotedN (s:P):Nat:=if quoteAt s.tail<s.tail.length then quoteAt s.tail+2 else 0
def endAt (s:P):Nat:=s.findIdx ends
def pieceN (s:P):Nat :=
 if s.head?=some 40∨s.head?=some 41 then 1
 else if s.head?=some 34 then quotedN s
 else if s[endAt s]?=some 34∧s[endAt s - 1]?=some 58 then (if quotedN (s.drop (endAt s))=0 then 0 else endAt s+quotedN (s.drop (endAt s)))
 else endAt s
def piecesF:Nat→P→Option (List P)
 | 0,_=>some []
 | _+1,[]=>some []
 | n+1,c :: t=>if blank c then piecesF n t else if pieceN (c :: t)=0 then none else (piecesF n ((c :: t).drop (pieceN (c :: t)))).map (fun l=>(c :: t).take (pieceN (c :: t)) :: l)
def pieces (s:P):Option (List P):=piecesF s.length s
theorem piecesF_more:∀ (n:Nat) (s:P),s.length≤n→piecesF n s=piecesF s.length s:=by
 intro n
 induction n using Nat.strongRecOn with
 | ind n ih =>
  intro s h
  match n,s,ih,h with
  | 0,[],_,_=>rfl
  | n+1,[],_,_=>rfl
  | n+1,c :: t,ih,h =>
   rw [List.length_cons] at h ⊢
   by_cases hn:n=t.length
   ·rw [hn]
   have hd:((c :: t).drop (pieceN (c :: t))).length≤t.length+1 - pieceN (c :: t):=by simp
   have e1:=ih n (by omega) t (by omega)
   show (if blank c then piecesF n t else _)=(if blank c then piecesF t.length t else _)
   rw [e1]
   split
   ·rfl
   ·by_cases h0:pieceN (c :: t)=0
    ·rw [if_pos h0,if_pos h0]
    ·rw [if_neg h0,if_neg h0,ih n (by omega) _ (by omega),ih t.length (by omega) ((c :: t).drop (pieceN (c :: t))) (by omega)]
theorem pieces_nil:pieces []=some []:=rfl
theorem pieces_blank (c:UInt8) (t:P) (h:blank c=true):pieces (c :: t)=pieces t:=by
 show (if blank c then piecesF t.length t else _)=_
 rw [if_pos h]; rfl
theorem pieces_cons (c:UInt8) (t:P) (h:blank c=false):pieces (c :: t)=if pieceN (c :: t)=0 then none else (pieces ((c :: t).drop (pieceN (c :: t)))).map (fun l=>(c :: t).take (pieceN (c :: t)) :: l):=by
 show (if blank c then piecesF t.length t else if pieceN (c :: t)=0 then none else (piecesF t.length ((c :: t).drop (pieceN (c :: t)))).map (fun l=>(c :: t).take (pieceN (c :: t)) :: l))=_
 rw [h,if_neg (by decide)]
 by_cases h0:pieceN (c :: t)=0
 ·rw [if_pos h0,if_pos h0]
 ·rw [if_neg h0,if_neg h0,piecesF_more t.length _ (by simp; omega)]; rfl
theorem findIdx_is (p:UInt8→Bool) (s:P):(∀ x∈s.take (s.findIdx p),p x=false)∧(∀ h:s.findIdx p<s.length,p s[s.findIdx p]=true)∧s.findIdx p≤s.length:=by
 refine ⟨fun x hx=>?_,fun h=>List.findIdx_getElem (w:=h),List.findIdx_le_length⟩
 obtain ⟨i,hi,rfl⟩:=List.getElem_of_mem hx
 rw [List.length_take] at hi
 rw [List.getElem_take]
 exact List.not_of_lt_findIdx (p:=p) (xs:=s) (i:=i) (by omega)
theorem findIdx_of (p:UInt8→Bool) (s:P) (k:Nat) (h1:∀ x∈s.take k,p x=false) (hk:k≤s.length) (h2:∀ h:k<s.length,p s[k]=true):s.findIdx p=k:=by
 rcases Nat.lt_or_ge k s.length with h | h
 ·refine (List.findIdx_eq h).2 ⟨h2 h,fun j hj=>?_⟩
  exact h1 _ (List.mem_iff_getElem.2 ⟨j,by rw [List.length_take]; omega,by rw [List.getElem_take]⟩)
 ·have e:k=s.length:=by omega
  subst e
  rw [List.take_length] at h1
  exact List.findIdx_eq_length.2 h1
theorem quotedN_le (s:P):quotedN s≤s.length:=by
 unfold quotedN
 split
 ·rename_i h
  rw [List.length_tail] at h
  omega
 ·omega
theorem pieceN_le (s:P):pieceN s≤s.length:=by
 unfold pieceN
 split
 ·rename_i h
  cases s with
  | nil=>simp at h
  | cons c t=>simp
 ·split
  ·exact quotedN_le s
  ·have h1:=(findIdx_is ends s).2.2
   have h2:=quotedN_le (s.drop (endAt s))
   rw [List.length_drop] at h2
   unfold endAt at *
   split
   ·split
    ·omega
    ·omega
   ·exact h1
structure Pc (s:P):Prop where
 ne:s≠[]
 qt:quoteAt s<s.length→quoteAt s+2≤s.length
theorem pieceN_pc (c:UInt8) (t:P) (hb:blank c=false) (h:pieceN (c :: t)≠0):Pc ((c :: t).take (pieceN (c :: t))):=by
 have hle:=pieceN_le (c :: t)
 have hlen:((c :: t).take (pieceN (c :: t))).length=pieceN (c :: t):=by rw [List.length_take]; omega
 refine ⟨fun e=>by rw [e] at hlen; simp at hlen; omega,fun hq=>?_⟩
 have hno:∀ (l:P),(∀ x∈l,ends x=false)→quoteAt l=l.length:=fun l hl=>by
  unfold quoteAt
  refine List.findIdx_eq_length.2 fun x hx=>?_
  have:=hl x hx
  unfold ends at this
  simp only [Bool.or_eq_false_iff] at this
  exact this.2
 rw [hlen]
 unfold pieceN at hq h hlen ⊢
 by_cases h1:(c :: t).head?=some 40∨(c :: t).head?=some 41
 ·rw [if_pos h1] at hq hlen ⊢
  exfalso
  simp only [List.take_succ_cons,List.take_zero] at hq
  simp only [List.head?_cons,Option.some.injEq] at h1
  rcases h1 with rfl | rfl <;> simp [quoteAt,List.findIdx_cons] at hq
 ·rw [if_neg h1] at hq h hlen ⊢
  by_cases h2:(c :: t).head?=some 34
  ·rw [if_pos h2] at hq h hlen ⊢
   simp only [List.head?_cons,Option.some.injEq] at h2
   subst h2
   unfold quotedN at h ⊢
   by_cases h3:quoteAt ((34:UInt8) :: t).tail<((34:UInt8) :: t).tail.length
   ·rw [if_pos h3]
    have:quoteAt ((34:UInt8) :: t).tail+2=(quoteAt t+1)+1:=rfl
    rw [this,List.take_succ_cons]
    simp [quoteAt,List.findIdx_cons]
   ·rw [if_neg h3] at h
    exact absurd rfl h
  ·rw [if_neg h2] at hq h hlen ⊢
   have hen:=findIdx_is ends (c :: t)
   by_cases h3:(c :: t)[endAt (c :: t)]?=some 34∧(c :: t)[endAt (c :: t) - 1]?=some 58
   ·rw [if_pos h3] at hq h hlen ⊢
    by_cases h4:quotedN ((c :: t).drop (endAt (c :: t)))=0
    ·rw [if_pos h4] at h
     exact absurd rfl h
    ·rw [if_neg h4] at hq h hlen ⊢
     have hlt:endAt (c :: t)<(c :: t).length:=by
      rcases Nat.lt_or_ge (endAt (c :: t)) (c :: t).length with hh | hh
      ·exact hh
      ·rw [List.getElem?_eq_none hh] at h3; simp at h3
     have hq2 : 2≤quotedN ((c :: t).drop (endAt (c :: t))):=by
      unfold quotedN at h4 ⊢
      split
      ·omega
      ·rename_i hh; rw [if_neg hh] at h4; exact absurd rfl h4
     have hqa:quoteAt ((c :: t).take (endAt (c :: t)+quotedN ((c :: t).drop (endAt (c :: t)))))≤endAt (c :: t):=by
      rcases Nat.lt_or_ge (endAt (c :: t)) (quoteAt ((c :: t).take (endAt (c :: t)+quotedN ((c :: t).drop (endAt (c :: t)))))) with hh | hh
      ·exfalso
       have:=List.not_of_lt_findIdx (p:=(· == (34:UInt8))) hh
       rw [List.getElem_take] at this
       have h3':=h3.1
       rw [List.getElem?_eq_getElem hlt,Option.some.injEq] at h3'
       rw [h3'] at this
       simp at this
      ·exact hh
     omega
   ·rw [if_neg h3] at hq h hlen ⊢
    exfalso
    have:=hno _ hen.1
    unfold endAt at hq
    omega
theorem pieces_pc:∀ (n:Nat) (s:P) (l:List P),s.length≤n→pieces s=some l→∀ x∈l,Pc x∧x.length≤s.length:=by
 intro n
 induction n with
 | zero =>
  intro s l h e x hx
  have:s=[]:=List.length_eq_zero_iff.1 (by omega)
  subst this
  rw [pieces_nil] at e
  injection e with e
  subst e
  cases hx
 | succ n ih =>
  intro s l h e x hx
  cases s with
  | nil =>
   rw [pieces_nil] at e
   injection e with e
   subst e
   cases hx
  | cons c t =>
   rw [List.length_cons] at h ⊢
   by_cases hb:blank c=true
   ·rw [pieces_blank c t hb] at e
    have:=ih t l (by omega) e x hx
    exact ⟨this.1,by omega⟩
   ·have hb':blank c=false:=by simpa using hb
    rw [pieces_cons c t hb'] at e
    by_cases h0:pieceN (c :: t)=0
    ·rw [if_pos h0] at e; cases e
    ·rw [if_neg h0] at e
     obtain ⟨l',h1,h2⟩:=Option.map_eq_some_iff.1 e
     subst h2
     rcases List.mem_cons.1 hx with rfl | hx
     ·exact ⟨pieceN_pc c t hb' h0,by rw [List.length_take,List.length_cons]; omega⟩
     ·have:=ih _ l' (by simp; omega) h1 x hx
      refine ⟨this.1,?_⟩
      have h3:=this.2
      rw [List.length_drop,List.length_cons] at h3
      omega
theorem pieces_many:∀ (n:Nat) (s:P) (l:List P),s.length≤n→pieces s=some l→l.length≤s.length:=by
 intro n
 induction n with
 | zero =>
  intro s l h e
  have:s=[]:=List.length_eq_zero_iff.1 (by omega)
  subst this
  rw [pieces_nil] at e
  injection e with e
  subst e
  simp
 | succ n ih =>
  intro s l h e
  cases s with
  | nil =>
   rw [pieces_nil] at e
   injection e with e
   subst e
   simp
  | cons c t =>
   rw [List.length_cons] at h ⊢
   by_cases hb:blank c=true
   ·rw [pieces_blank c t hb] at e
    have:=ih t l (by omega) e
    omega
   ·have hb':blank c=false:=by simpa using hb
    rw [pieces_cons c t hb'] at e
    by_cases h0:pieceN (c :: t)=0
    ·rw [if_pos h0] at e; cases e
    ·rw [if_neg h0] at e
     obtain ⟨l',h1,h2⟩:=Option.map_eq_some_iff.1 e
     subst h2
     have:=ih _ l' (by simp; omega) h1
     simp at this ⊢
     omega
def NOT:P:=[78,79,84]
def AND:P:=[65,78,68]
def OR:P:=[79,82]
def LP:P:=[40]
def RP:P:=[41]
def msg:P:=[109,115,103]
def wordsQ (nm:P) (l:List P):Option Q:=if l=[] then none else if l.length=1 then some (.mk 2 (str nm) (l.map str) []) else some (.mk 4 (str nm) (l.map str) [])
def sepAt (s:P):Nat:=s.findIdx (fun c=>c == 58 || c == 34)
def named (s:P):Bool:=s[sepAt s]? == some 58
def nameOf (s:P):P:=if named s then s.take (sepAt s) else msg
def restOf (s:P):P:=if named s then s.drop (sepAt s+1) else s
def leafQ (s:P):Option Q :=
 if s=[42] then some (.mk 1 ByteArray.empty [] [])
 else if isN (nameOf s)=false∨restOf s=[] then none
 else if (restOf s).head?=some 34 then wordsQ (nameOf s) (words (((restOf s).take ((restOf s).length - 1)).drop 1))
 else if (restOf s).getLast?=some 42 then
  (if (restOf s).length=1 then some (.mk 3 (str (nameOf s)) [ByteArray.empty] []) else if (words (restOf s).dropLast).length=1 then some (.mk 3 (str (nameOf s)) ((words (restOf s).dropLast).map str) []) else none)
 else wordsQ (nameOf s) (words (restOf s))
def notQ (q:Q):Q:=.mk 7 ByteArray.empty [] [q]
def oneQ (k:Int) (l:List Q):Q:=match l with | [q]=>q | l=>.mk k ByteArray.empty [] l
inductive Md where
 | part | and (a:List Q) | or (a:List Q) | andT (a:List Q) | orT (a:List Q)
def word1 (s:P):Bool:=s != NOT && s != LP && s != RP && s != AND && s != OR
def closed:Option (Q × List P)→Option (Q × List P)
 | some (q,s :: r)=>if s=RP then some (q,r) else none
 | _=>none
def stops (l:List P):Bool:=match l with | []=>true | s :: _=>s == RP || s == OR
inductive R:Md→List P→Option (Q × List P)→Prop
 | pnil:R .part [] none
 | pnot {s t o} (hs:s=NOT) (h:R .part t o):R .part (s :: t) (o.map fun x=>(notQ x.1,x.2))
 | plp {s t o} (hs:s=LP) (h:R (.or []) t o):R .part (s :: t) (closed o)
 | pbad {s t} (hs:s=RP∨s=AND∨s=OR):R .part (s :: t) none
 | pleaf {s t} (hs:word1 s=true):R .part (s :: t) ((leafQ s).map fun q=>(q,t))
 | and0 {a l} (h:R .part l none):R (.and a) l none
 | and1 {a l q r o} (h:R .part l (some (q,r))) (h2:R (.andT (a ++ [q])) r o):R (.and a) l o
 | andE {a l} (h:stops l=true):R (.andT a) l (some (oneQ 5 a,l))
 | andA {a s t o} (hs:s=AND) (h:R (.and a) t o):R (.andT a) (s :: t) o
 | andN {a s t o} (hs:stops (s :: t)=false) (hn:s≠AND) (h:R (.and a) (s :: t) o):R (.andT a) (s :: t) o
 | or0 {a l} (h:R (.and []) l none):R (.or a) l none
 | or1 {a l q r o} (h:R (.and []) l (some (q,r))) (h2:R (.orT (a ++ [q])) r o):R (.or a) l o
 | orE {a l} (h:l.head?≠some OR):R (.orT a) l (some (oneQ 6 a,l))
 | orO {a s t o} (hs:s=OR) (h:R (.or a) t o):R (.orT a) (s :: t) o
theorem R.det {m:Md} {l:List P} {o:Option (Q × List P)} (h:R m l o):∀ o',R m l o'→o=o':=by
 have nw:∀ s,word1 s=true→s≠NOT∧s≠LP∧s≠RP∧s≠AND∧s≠OR:=fun s hs=>by
  refine ⟨?_,?_,?_,?_,?_⟩ <;> (rintro rfl; revert hs; decide)
 induction h with
 | pnil=>intro o' h'; cases h'; rfl
 | pnot hs h ih =>
  intro o' h'
  cases h' with
  | pnot _ h=>rw [ih _ h]
  | plp hs' _=>rw [hs] at hs'; exact absurd hs' (by decide)
  | pbad hs'=>rw [hs] at hs'; exact absurd hs' (by decide)
  | pleaf hs'=>exact absurd hs (nw _ hs').1
 | plp hs h ih =>
  intro o' h'
  cases h' with
  | plp _ h=>rw [ih _ h]
  | pnot hs' _=>rw [hs] at hs'; exact absurd hs' (by decide)
  | pbad hs'=>rw [hs] at hs'; exact absurd hs' (by decide)
  | pleaf hs'=>exact absurd hs (nw _ hs').2.1
 | pbad hs =>
  intro o' h'
  cases h' with
  | pbad _=>rfl
  | pnot hs' _=>rw [hs'] at hs; exact absurd hs (by decide)
  | plp hs' _=>rw [hs'] at hs; exact absurd hs (by decide)
  | pleaf hs' =>
   have:=nw _ hs'
   rcases hs with e | e | e
   ·exact absurd e this.2.2.1
   ·exact absurd e this.2.2.2.1
   ·exact absurd e this.2.2.2.2
 | pleaf hs =>
  intro o' h'
  have:=nw _ hs
  cases h' with
  | pleaf _=>rfl
  | pnot hs' _=>exact absurd hs' this.1
  | plp hs' _=>exact absurd hs' this.2.1
  | pbad hs' =>
   rcases hs' with e | e | e
   ·exact absurd e this.2.2.1
   ·exact absurd e this.2.2.2.1
   ·exact absurd e this.2.2.2.2
 | and0 h ih =>
  intro o' h'
  cases h' with
  | and0 _=>rfl
  | and1 h _=>exact absurd (ih _ h) (by simp)
 | and1 h h2 ih ih2 =>
  intro o' h'
  cases h' with
  | and0 h=>exact absurd (ih _ h) (by simp)
  | and1 h h2 =>
   have:=ih _ h
   simp only [Option.some.injEq,Prod.mk.injEq] at this
   obtain ⟨rfl,rfl⟩:=this
   exact ih2 _ h2
 | andE h =>
  intro o' h'
  cases h' with
  | andE _=>rfl
  | andA hs _=>rw [hs] at h; exact absurd h (by simp [stops]; decide)
  | andN hs _ _=>rw [h] at hs; cases hs
 | andA hs h ih =>
  intro o' h'
  cases h' with
  | andE h=>rw [hs] at h; exact absurd h (by simp [stops]; decide)
  | andA _ h=>exact ih _ h
  | andN _ hn _=>exact absurd hs hn
 | andN hs hn h ih =>
  intro o' h'
  cases h' with
  | andE h=>rw [h] at hs; cases hs
  | andA hs _=>exact absurd hs hn
  | andN _ _ h=>exact ih _ h
 | or0 h ih =>
  intro o' h'
  cases h' with
  | or0 _=>rfl
  | or1 h _=>exact absurd (ih _ h) (by simp)
 | or1 h h2 ih ih2 =>
  intro o' h'
  cases h' with
  | or0 h=>exact absurd (ih _ h) (by simp)
  | or1 h h2 =>
   have:=ih _ h
   simp only [Option.some.injEq,Prod.mk.injEq] at this
   obtain ⟨rfl,rfl⟩:=this
   exact ih2 _ h2
 | orE h =>
  intro o' h'
  cases h' with
  | orE _=>rfl
  | orO hs _=>rw [hs] at h; exact absurd rfl h
 | orO hs h ih =>
  intro o' h'
  cases h' with
  | orE h=>rw [hs] at h; exact absurd rfl h
  | orO _ h=>exact ih _ h
theorem R.less {m:Md} {l:List P} {o:Option (Q × List P)} (h:R m l o):∀ q r,o=some (q,r)→(∃ k,r=l.drop k∧k≤l.length∧((m=.part∨(∃ a,m=.and a)∨∃ a,m=.or a)→1≤k)):=by
 induction h with
 | pnil=>intro q r e; cases e
 | pnot hs h ih =>
  intro q r e
  obtain ⟨⟨q',r'⟩,h1,h2⟩:=Option.map_eq_some_iff.1 e
  simp only [Prod.mk.injEq] at h2
  obtain ⟨_,rfl⟩:=h2
  obtain ⟨k,rfl,hk,_⟩:=ih q' _ h1
  exact ⟨k+1,rfl,by simp; omega,fun _=>by omega⟩
 | @plp s t o hs h ih =>
  intro q r e
  match o,e,ih with
  | some (q',s' :: r'),e,ih =>
   by_cases hp:s'=RP
   ·have e2:closed (some (q',s' :: r'))=some (q',r'):=if_pos hp
    rw [e2] at e
    simp only [Option.some.injEq,Prod.mk.injEq] at e
    obtain ⟨rfl,rfl⟩:=e
    obtain ⟨k,h1,hk,_⟩:=ih q' _ rfl
    refine ⟨k+2,?_,?_,fun _=>by omega⟩
    ·show _=t.drop (k+1)
     rw [← List.drop_drop,← h1]; rfl
    ·have:=congrArg List.length h1
     simp at this ⊢
     omega
   ·have e2:closed (some (q',s' :: r'))=none:=if_neg hp
    rw [e2] at e
    cases e
  | some (q',[]),e,_=>cases e
  | none,e,_=>cases e
 | pbad hs=>intro q r e; cases e
 | pleaf hs =>
  intro q r e
  obtain ⟨q',h1,h2⟩:=Option.map_eq_some_iff.1 e
  simp only [Prod.mk.injEq] at h2
  obtain ⟨_,rfl⟩:=h2
  exact ⟨1,rfl,by simp,fun _=>by omega⟩
 | and0 h ih=>intro q r e; cases e
 | and1 h h2 ih ih2 =>
  intro q r e
  obtain ⟨k,rfl,hk,h1⟩:=ih _ _ rfl
  obtain ⟨k2,rfl,hk2,_⟩:=ih2 q r e
  rw [List.length_drop] at hk2
  have:=h1 (.inl rfl)
  exact ⟨k+k2,by rw [List.drop_drop],by omega,fun _=>by omega⟩
 | andE h=>intro q r e; simp only [Option.some.injEq,Prod.mk.injEq] at e; obtain ⟨_,rfl⟩:=e; exact ⟨0,rfl,by omega,fun h=>by simp at h⟩
 | andA hs h ih=>intro q r e; obtain ⟨k,rfl,hk,_⟩:=ih q r e; exact ⟨k+1,rfl,by simp; omega,fun _=>by omega⟩
 | andN hs hn h ih=>intro q r e; obtain ⟨k,rfl,hk,_⟩:=ih q r e; exact ⟨k,rfl,hk,fun h=>by simp at h⟩
 | or0 h ih=>intro q r e; cases e
 | or1 h h2 ih ih2 =>
  intro q r e
  obtain ⟨k,rfl,hk,h1⟩:=ih _ _ rfl
  obtain ⟨k2,rfl,hk2,_⟩:=ih2 q r e
  rw [List.length_drop] at hk2
  have:=h1 (.inr (.inl ⟨_,rfl⟩))
  exact ⟨k+k2,by rw [List.drop_drop],by omega,fun _=>by omega⟩
 | orE h=>intro q r e; simp only [Option.some.injEq,Prod.mk.injEq] at e; obtain ⟨_,rfl⟩:=e; exact ⟨0,rfl,by omega,fun h=>by simp at h⟩
 | orO hs h ih=>intro q r e; obtain ⟨k,rfl,hk,_⟩:=ih q r e; exact ⟨k+1,rfl,by simp; omega,fun _=>by omega⟩
end Go.Proofs.YtlfpfkallgkjdaaGreat.Qp
end

section
namespace Go.Proofs.YtlfpfkallgkjdaaGreat.Ss
open Go.Shelf Go.RowKit Go.Lib Go.Sort
variable {α:Type} [Inhabited α] {enc : α→List Value} {cf : α→α→Int} {tag : α→Nat}
set_option maxHeartbeats 4000000 in
set_option maxRecDepth 1000000 in
theorem insertion_any (hW:SWO (ltOf cf)) (k:Nat) (hk2:k=2) (g:Nat) (cb:Array Value) (blk off cap a b:Nat) (d0 d:Array α) (w0 w:World) (eg:∀ args w,(callFunc g args).run Tryz.prog w=.ok (.enter g args) w) (hC:CmpLays Tryz.prog g cb enc k cf blk off d0.size w0)
  (R:RowK enc k w0 blk off d0) (hs:d.size=d0.size) (S:SWK enc k w0 blk off d w) (hab:a≤b) (hb:b≤d.size) (hsz:d.size<1099511627776) (hT:∀ x y,a≤x→x<y→y<b→tag d[x]!<tag d[y]!) :
  Calls Tryz.prog 150 #[.slice (some ⟨blk,off,none⟩) d.size cap,.int .i64 a,.int .i64 b,.func (.func g) #[] cb] w (MPost enc cf tag k w0 blk off d a b):=by
 have zE:∀ w,(Go.sizeOf 105).run Tryz.prog w=.ok k w:=by rw [hk2]; exact Tryz.sizeOf105
 have mixed:Tryz.prog.follows Departure.mixedOrders=true:=by kernel_rfl
 have S0:Aside (SWK enc k w0 blk off d w):=S
 have HC:Aside _:=hC
 have HS:=zh hs
 have HT:=zh hT
 clear S hk2 hs hC hT
 go_enter Tryz.func150,Tryz.ntmps150
 go_wp2
 go_loopw [8] (fun vi wr=>∃ (i:Nat) (dk:Array α),a<i∧(i≤b∨i≤a+1)∧vi=.int .i64 (i:Nat)∧Aside (SWK enc k w0 blk off dk wr)∧dk.size=d.size∧Hid (PermIn a b d dk)∧Hid (Srt cf tag dk a i)∧Hid (∀ x,i≤x→dk[x]! = d[x]!)) (fun vi _=>b - (intOf vi).toNat)
 case atStart=>exact ⟨a+1,d,by omega,by omega,by go_num,S0,rfl,zh (permIn_refl _ _ _),zh (Srt.one _ (zG _)),zh (fun _ _=>rfl)⟩
 case round =>
  clear S0
  obtain ⟨i,dk,hai,hib,rfl,S1,hds,HP,HZ,HX⟩:=hrel
  by_cases hlt:i<b
  ·have hltz:(i:Int)<(b:Int):=by omega
   have TK:Hid (∀ h,a≤h→h<i→tag dk[h]!<tag dk[i]!):=zh (fun h h1 h2=>by
    have e:=HX.out i (zG _)
    rw [e]
    exact permIn_all d dk a i (fun z=>tag z<tag d[i]!) (by omega) (permIn_upto HP.out (by omega) HX.out (by omega) hb) (fun x p1 p2=>HT.out x i p1 p2 hlt) h h1 h2)
   go_wp2
   go_loopw [9] (fun vj wr=>∃ (j:Nat) (dj:Array α),a≤j∧j≤i∧vj=.int .i64 (j:Nat)∧Aside (SWK enc k w0 blk off dj wr)∧dj.size=d.size∧Hid (PermIn a b d dj)∧Hid (∀ x,dj[x]! = shR dk i j x)∧Hid (∀ h,j≤h→h<i→bef cf tag dk[i]! dk[h]!)) (fun vj _=>(intOf vj).toNat)
   case atStart=>exact ⟨i,dk,by omega,zG _,rfl,S1,hds,HP,zh (fun x=>shR_zero dk i x),zh (fun h _ _=>by omega)⟩
   case round =>
    clear S1
    obtain ⟨j,dj,haj,hji,rfl,S1,hdj,HPj,HXj,HG⟩:=hrel
    have OUT:Hid ((j≤a∨¬ cf dk[i]! dk[j - 1]!<0)→Srt cf tag dj a (i+1)∧∀ x,i+1≤x→dj[x]! = d[x]!):=zh (fun hst=>⟨ins_srt hW haj hji HZ.out TK.out HXj.out HG.out hst,fun x hx=>by
     rw [HXj.out]
     unfold shR
     rw [if_neg (by omega),if_neg (by omega)]
     exact HX.out x (by omega)⟩)
    by_cases hja:a<j
    ·obtain ⟨jp,rfl⟩:∃ jp,j=jp+1:=⟨j - 1,by omega⟩
     have hjaz:(a:Int)<(jp:Int)+1:=by omega
     have hwp:IntKind.i64.wrap (jp:Int)=(jp:Int):=by rw [IntKind.wrap_i64]; omega
     have n0:(0:Int)≤(jp:Int):=by omega
     have n1:(0:Int)≤(jp:Int)+1:=by omega
     have n2:(jp:Int)+1<(d.size:Int):=by omega
     have n3:(jp:Int)<(d.size:Int):=by omega
     have n5:((jp:Int)+1).toNat=jp+1:=by omega
     have ej:dj[jp+1]! = dk[i]!:=by
      rw [HXj.out]; unfold shR; rw [if_neg (by omega),if_pos rfl]
     have ep:dj[jp]! = dk[jp]!:=by
      rw [HXj.out]; unfold shR; rw [if_neg (by omega),if_neg (by omega)]
     have SG:Aside (∀ n os,SWK enc k w0 blk off dj (grow (wr.drewN n) os)):=fun n os=>S1.out.grown n os
     have l1:=fun n' os'=>S1.out.ld R (hdj.trans HS.out) Tryz.prog (jp+1) (by omega) n' os'
     have l2:=fun n' os'=>S1.out.ld R (hdj.trans HS.out) Tryz.prog (jp) (by omega) n' os'
     have hcg:=fun n' os'=>S1.out.cmp HC.out (hdj.trans HS.out) dj[jp+1]! dj[jp]! n' os'
     rw [ej] at l1
     rw [ep] at l2
     rw [ej,ep] at hcg
     have E:=zh (And.intro ej ep)
     clear ej ep
     have OUT2:Hid (¬ cf dk[i]! dk[jp]!<0→Srt cf tag dj a (i+1)∧∀ x,i+1≤x→dj[x]! = d[x]!):=zh (fun h=>OUT.out (.inr (by simpa using h)))
     have IN2:Hid (cf dk[i]! dk[jp]!<0→∀ h,jp≤h→h<i→bef cf tag dk[i]! dk[h]!):=zh (fun hc h p1 p2=>by
      by_cases e:h=jp
      ·rw [e]; exact bef_lt hc
      ·exact HG.out h (by omega) p2)
     obtain ⟨xp,hxp⟩:∃ x,dk[i]! = x:=⟨_,rfl⟩
     obtain ⟨xq,hxq⟩:∃ x,dk[jp]! = x:=⟨_,rfl⟩
     rw [hxp] at l1
     rw [hxq] at l2
     rw [hxp,hxq] at hcg
     have HXX:Hid (dk[i]! = xp∧dk[jp]! = xq):=zh ⟨hxp,hxq⟩
     clear hxp hxq OUT HG S1
     by_cases hlv:cf xp xq<0
     ·have G2:Hid (∀ h,jp≤h→h<i→bef cf tag dk[i]! dk[h]!):=zh (IN2.out (by rw [HXX.out.1,HXX.out.2]; exact hlv))
      clear OUT2 IN2
      go_wp2_with fail
      go_quiet_grown (first | (go_at_fn g; refine Calls.grown_of (hcg _ _)))
      have S3:Aside (SWK enc k w0 blk off dj (grow (wr.drewN nq) osq)):=SG.out nq osq
      generalize grow (wr.drewN nq) osq=w3 at S3 ⊢
      clear l1 l2 hcg SG
      have S2:Aside (SWK enc k w0 blk off (swp dj (jp+1) (jp)) ((w3.drew.setCells blk (off+(jp+1) * k) (enc dj[jp]!)).setCells blk (off+(jp) * k) (enc dj[jp+1]!))):=S3.out.swapped R (jp+1) (jp) (by omega) (by omega)
      have l44a:=S3.out.ld1 R (hdj.trans HS.out) Tryz.prog (jp+1) (by omega)
      have l44b:=S3.out.ld1 R (hdj.trans HS.out) Tryz.prog (jp) (by omega)
      have s44a:=S3.out.st1 R (hdj.trans HS.out) Tryz.prog (jp+1) (by omega) dj[jp]!
      have s44b:=S3.out.st2 R (hdj.trans HS.out) Tryz.prog (jp+1) (jp) (by omega) (by omega) dj[jp]! dj[jp+1]!
      have n44a:(enc dj[jp+1]!).length=k:=R.hk _
      have n44b:(enc dj[jp]!).length=k:=R.hk _
      have HP2:Hid (PermIn a b d (swp dj (jp+1) jp)):=zh (permIn_trans _ _ _ _ _ HPj.out (swp_permIn dj a b (jp+1) jp (by omega) (by omega) (by omega) (by omega) (by omega)))
      have HX2:Hid (∀ y,(swp dj (jp+1) jp)[y]! = shR dk i jp y):=zh (shR_step hji (by omega) (by omega) HXj.out)
      generalize enc dj[jp+1]! = cI44 at S2 l44a s44b n44a
      generalize enc dj[jp]! = cJ44 at S2 l44b s44a s44b n44b
      clear S3 HPj HXj
      go_wp2_with fail
      go_big_region_o
      clear l44a l44b s44a s44b
      generalize (w3.drew.setCells blk (off+(jp+1) * k) cJ44).setCells blk (off+(jp) * k) cI44=w2 at S2 ⊢
      go_wp2
      go_roundw
      case rel=>exact ⟨jp,swp dj (jp+1) jp,by omega,by omega,by first | rfl | go_num | (congr 1; omega),S2,by rw [size_swp]; exact hdj,HP2,HX2,G2⟩
      case measure=>first | (simp [intOf]; done) | (simp [intOf]; omega)
     ·have hdec:decide (cf xp xq<0)=false:=decide_eq_false hlv
      have O2:=zh (OUT2.out (by rw [HXX.out.1,HXX.out.2]; exact hlv))
      clear OUT2 IN2
      go_wp2_with fail
      go_quiet_grown (first | (go_at_fn g; refine Calls.grown_of (hcg _ _)))
      have S3:Aside (SWK enc k w0 blk off dj (grow (wr.drewN nq) osq)):=SG.out nq osq
      generalize grow (wr.drewN nq) osq=w3 at S3 ⊢
      clear l1 l2 hcg SG
      go_wp2
      go_roundw
      case rel=>exact ⟨i+1,dj,by omega,by omega,by go_num,S3,hdj,HPj,zh O2.out.1,zh O2.out.2⟩
      case measure=>simp [intOf]; omega
    ·have hjaz:decide ((j:Int) > (a:Int))=false:=decide_eq_false (by omega)
     have hjaz':¬ (a:Int)<(j:Int):=by omega
     have O2:=zh (OUT.out (.inl (by omega)))
     have SD:Aside (SWK enc k w0 blk off dj wr.drew):=by
      have:=S1.out.grown 1 #[]
      rwa [grow_empty] at this
     clear OUT S1
     go_wp2_with fail
     go_big_region_o
     generalize wr.drew=w3 at SD ⊢
     go_wp2
     go_roundw
     case rel=>exact ⟨i+1,dj,by omega,by omega,by go_num,SD,hdj,HPj,zh O2.out.1,zh O2.out.2⟩
     case measure=>simp [intOf]; omega
  ·have hltz:¬ (i:Int)<(b:Int):=by omega
   have Fin:=zh (HZ.out.sub (zG _) (show b≤i by omega))
   go_wp2
   go_end0
   exact ⟨rfl,dk,S1.out,hds,HP.out,Fin.out⟩
end Go.Proofs.YtlfpfkallgkjdaaGreat.Ss
end
