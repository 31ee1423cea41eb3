/- Pieces of texts, and what is read of them: plain. No program. -/
import Derived.Test.YtlfpfkallgkjdaaGreatQAlertBatchesRow1
import Derived.Test.YtlfpfkallgkjdaaGreatQAlertBatchesRow9
import Derived.Test.YtlfpfkallgkjdaaGreatQAlertBatchesRow0
set_option linter.unusedSectionVars false
set_option linter.unusedVariables false
set_option maxRecDepth 20000
section
namespace Go.Proofs.YtlfpfkallgkjdaaGreat.Qp
open Go.RowKit Ut Tk Qy
abbrev P:=List UInt8
def blank (c:UInt8):Bool:=c == 32 || c == 9
def ends (c:UInt8):Bool:=c == 32 || c == 9 || c == 40 || c == 41 || c == 34
def quoteAt (s:P):Nat:=s.findIdx (· == 34)
def quotedN (s:P):Nat:=if quoteAt s.tail<s.tail.length then quoteAt s.tail+2 else 0
def endAt (s:P):Nat:=s.findIdx ends
def pieceN (s:P):Nat :=
 if s.head?=some 40∨s.head?=some 41 then 1
 else if s.head?=some 34 then quotedN s
 else if s[endAt s]?=some 34∧s[endAt s - 1]?=some 58 then (if quotedN (s.drop (endAt s))=0 then 0 else endAt s+quotedN (s.drop (endAt s)))
 else endAt s
def piecesF:Nat→P→Option (List P)
 | 0,_=>some []
 | _+1,[]=>some []
 | n+1,c :: t=>if blank c then piecesF n t else if pieceN (c :: t)=0 then none else (piecesF n ((c :: t).drop (pieceN (c :: t)))).map (fun l=>(c :: t).take (pieceN (c :: t)) :: l)
def pieces (s:P):Option (List P):=piecesF s.length s
theorem piecesF_more:∀ (n:Nat) (s:P),s.length≤n→piecesF n s=piecesF s.length s:=by
 intro n
 induction n using Nat.strongRecOn with
 | ind n ih =>
  intro s h
  match n,s,ih,h with
  | 0,[],_,_=>rfl
  | n+1,[],_,_=>rfl
  | n+1,c :: t,ih,h =>
   rw [List.length_cons] at h ⊢
   by_cases hn:n=t.length
   ·rw [hn]
   have hd:((c :: t).drop (pieceN (c :: t))).length≤t.length+1 - pieceN (c :: t):=by simp
   have e1:=ih n (by omega) t (by omega)
   show (if blank c then piecesF n t else _)=(if blank c then piecesF t.length t else _)
   rw [e1]
   split
   ·rfl
   ·by_cases h0:pieceN (c :: t)=0
    ·rw [if_pos h0,if_pos h0]
    ·rw [if_neg h0,if_neg h0,ih n (by omega) _ (by omega),ih t.length (by omega) ((c :: t).drop (pieceN (c :: t))) (by omega)]
theorem pieces_nil:pieces []=some []:=rfl
theorem pieces_blank (c:UInt8) (t:P) (h:blank c=true):pieces (c :: t)=pieces t:=by
 show (if blank c then piecesF t.length t else _)=_
 rw [if_pos h]; rfl
theorem pieces_cons (c:UInt8) (t:P) (h:blank c=false):pieces (c :: t)=if pieceN (c :: t)=0 then none else (pieces ((c :: t).drop (pieceN (c :: t)))).map (fun l=>(c :: t).take (pieceN (c :: t)) :: l):=by
 show (if blank c then piecesF t.length t else if pieceN (c :: t)=0 then none else (piecesF t.length ((c :: t).drop (pieceN (c :: t)))).map (fun l=>(c :: t).take (pieceN (c :: t)) :: l))=_
 rw [h,if_neg (by decide)]
 by_cases h0:pieceN (c :: t)=0
 ·rw [if_pos h0,if_pos h0]
 ·rw [if_neg h0,if_neg h0,piecesF_more t.length _ (by simp; omega)]; rfl
theorem findIdx_is (p:UInt8→Bool) (s:P):(∀ x∈s.take (s.findIdx p),p x=false)∧(∀ h:s.findIdx p<s.length,p s[s.findIdx p]=true)∧s.findIdx p≤s.length:=by
 refine ⟨fun x hx=>?_,fun h=>List.findIdx_getElem (w:=h),List.findIdx_le_length⟩
 obtain ⟨i,hi,rfl⟩:=List.getElem_of_mem hx
 rw [List.length_take] at hi
 rw [List.getElem_take]
 exact List.not_of_lt_findIdx (p:=p) (xs:=s) (i:=i) (by omega)
theorem findIdx_of (p:UInt8→Bool) (s:P) (k:Nat) (h1:∀ x∈s.take k,p x=false) (hk:k≤s.length) (h2:∀ h:k<s.length,p s[k]=true):s.findIdx p=k:=by
 rcases Nat.lt_or_ge k s.length with h | h
 ·refine (List.findIdx_eq h).2 ⟨h2 h,fun j hj=>?_⟩
  exact h1 _ (List.mem_iff_getElem.2 ⟨j,by rw [List.length_take]; omega,by rw [List.getElem_take]⟩)
 ·have e:k=s.length:=by omega
  subst e
  rw [List.take_length] at h1
  exact List.findIdx_eq_length.2 h1
theorem quotedN_le (s:P):quotedN s≤s.length:=by
 unfold quotedN
 split
 ·rename_i h
  rw [List.length_tail] at h
  omega
 ·omega
theorem pieceN_le (s:P):pieceN s≤s.length:=by
 unfold pieceN
 split
 ·rename_i h
  cases s with
  | nil=>simp at h
  | cons c t=>simp
 ·split
  ·exact quotedN_le s
  ·have h1:=(findIdx_is ends s).2.2
   have h2:=quotedN_le (s.drop (endAt s))
   rw [List.length_drop] at h2
   unfold endAt at *
   split
   ·split
    ·omega
    ·omega
   ·exact h1
structure Pc (s:P):Prop where
 ne:s≠[]
 qt:quoteAt s<s.length→quoteAt s+2≤s.length
theorem pieceN_pc (c:UInt8) (t:P) (hb:blank c=false) (h:pieceN (c :: t)≠0):Pc ((c :: t).take (pieceN (c :: t))):=by
 have hle:=pieceN_le (c :: t)
 have hlen:((c :: t).take (pieceN (c :: t))).length=pieceN (c :: t):=by rw [List.length_take]; omega
 refine ⟨fun e=>by rw [e] at hlen; simp at hlen; omega,fun hq=>?_⟩
 have hno:∀ (l:P),(∀ x∈l,ends x=false)→quoteAt l=l.length:=fun l hl=>by
  unfold quoteAt
  refine List.findIdx_eq_length.2 fun x hx=>?_
  have:=hl x hx
  unfold ends at this
  simp only [Bool.or_eq_false_iff] at this
  exact this.2
 rw [hlen]
 unfold pieceN at hq h hlen ⊢
 by_cases h1:(c :: t).head?=some 40∨(c :: t).head?=some 41
 ·rw [if_pos h1] at hq hlen ⊢
  exfalso
  simp only [List.take_succ_cons,List.take_zero] at hq
  simp only [List.head?_cons,Option.some.injEq] at h1
  rcases h1 with rfl | rfl <;> simp [quoteAt,List.findIdx_cons] at hq
 ·rw [if_neg h1] at hq h hlen ⊢
  by_cases h2:(c :: t).head?=some 34
  ·rw [if_pos h2] at hq h hlen ⊢
   simp only [List.head?_cons,Option.some.injEq] at h2
   subst h2
   unfold quotedN at h ⊢
   by_cases h3:quoteAt ((34:UInt8) :: t).tail<((34:UInt8) :: t).tail.length
   ·rw [if_pos h3]
    have:quoteAt ((34:UInt8) :: t).tail+2=(quoteAt t+1)+1:=rfl
    rw [this,List.take_succ_cons]
    simp [quoteAt,List.findIdx_cons]
   ·rw [if_neg h3] at h
    exact absurd rfl h
  ·rw [if_neg h2] at hq h hlen ⊢
   have hen:=findIdx_is ends (c :: t)
   by_cases h3:(c :: t)[endAt (c :: t)]?=some 34∧(c :: t)[endAt (c :: t) - 1]?=some 58
   ·rw [if_pos h3] at hq h hlen ⊢
    by_cases h4:quotedN ((c :: t).drop (endAt (c :: t)))=0
    ·rw [if_pos h4] at h
     exact absurd rfl h
    ·rw [if_neg h4] at hq h hlen ⊢
     have hlt:endAt (c :: t)<(c :: t).length:=by
      rcases Nat.lt_or_ge (endAt (c :: t)) (c :: t).length with hh | hh
      ·exact hh
      ·rw [List.getElem?_eq_none hh] at h3; simp at h3
     have hq2 : 2≤quotedN ((c :: t).drop (endAt (c :: t))):=by
      unfold quotedN at h4 ⊢
      split
      ·omega
      ·rename_i hh; rw [if_neg hh] at h4; exact absurd rfl h4
     have hqa:quoteAt ((c :: t).take (endAt (c :: t)+quotedN ((c :: t).drop (endAt (c :: t)))))≤endAt (c :: t):=by
      rcases Nat.lt_or_ge (endAt (c :: t)) (quoteAt ((c :: t).take (endAt (c :: t)+quotedN ((c :: t).drop (endAt (c :: t)))))) with hh | hh
      ·exfalso
       have:=List.not_of_lt_findIdx (p:=(· == (34:UInt8))) hh
       rw [List.getElem_take] at this
       have h3':=h3.1
       rw [List.getElem?_eq_getElem hlt,Option.some.injEq] at h3'
       rw [h3'] at this
       simp at this
      ·exact hh
     omega
   ·rw [if_neg h3] at hq h hlen ⊢
    exfalso
    have:=hno _ hen.1
    unfold endAt at hq
    omega
theorem pieces_pc:∀ (n:Nat) (s:P) (l:List P),s.length≤n→pieces s=some l→∀ x∈l,Pc x∧x.length≤s.length:=by
 intro n
 induction n with
 | zero =>
  intro s l h e x hx
  have:s=[]:=List.length_eq_zero_iff.1 (by omega)
  subst this
  rw [pieces_nil] at e
  injection e with e
  subst e
  cases hx
 | succ n ih =>
  intro s l h e x hx
  cases s with
  | nil =>
   rw [pieces_nil] at e
   injection e with e
   subst e
   cases hx
  | cons c t =>
   rw [List.length_cons] at h ⊢
   by_cases hb:blank c=true
   ·rw [pieces_blank c t hb] at e
    have:=ih t l (by omega) e x hx
    exact ⟨this.1,by omega⟩
   ·have hb':blank c=false:=by simpa using hb
    rw [pieces_cons c t hb'] at e
    by_cases h0:pieceN (c :: t)=0
    ·rw [if_pos h0] at e; cases e
    ·rw [if_neg h0] at e
     obtain ⟨l',h1,h2⟩:=Option.map_eq_some_iff.1 e
     subst h2
     rcases List.mem_cons.1 hx with rfl | hx
     ·exact ⟨pieceN_pc c t hb' h0,by rw [List.length_take,List.length_cons]; omega⟩
     ·have:=ih _ l' (by simp; omega) h1 x hx
      refine ⟨this.1,?_⟩
      have h3:=this.2
      rw [List.length_drop,List.length_cons] at h3
      omega
theorem pieces_many:∀ (n:Nat) (s:P) (l:List P),s.length≤n→pieces s=some l→l.length≤s.length:=by
 intro n
 induction n with
 | zero =>
  intro s l h e
  have:s=[]:=List.length_eq_zero_iff.1 (by omega)
  subst this
  rw [pieces_nil] at e
  injection e with e
  subst e
  simp
 | succ n ih =>
  intro s l h e
  cases s with
  | nil =>
   rw [pieces_nil] at e
   injection e with e
   subst e
   simp
  | cons c t =>
   rw [List.length_cons] at h ⊢
   by_cases hb:blank c=true
   ·rw [pieces_blank c t hb] at e
    have:=ih t l (by omega) e
    omega
   ·have hb':blank c=false:=by simpa using hb
    rw [pieces_cons c t hb'] at e
    by_cases h0:pieceN (c :: t)=0
    ·rw [if_pos h0] at e; cases e
    ·rw [if_neg h0] at e
     obtain ⟨l',h1,h2⟩:=Option.map_eq_some_iff.1 e
     subst h2
     have:=ih _ l' (by simp; omega) h1
     simp at this ⊢
     omega
def NOT:P:=[78,79,84]
def AND:P:=[65,78,68]
def OR:P:=[79,82]
def LP:P:=[40]
def RP:P:=[41]
def msg:P:=[109,115,103]
def wordsQ (nm:P) (l:List P):Option Q:=if l=[] then none else if l.length=1 then some (.mk 2 (str nm) (l.map str) []) else some (.mk 4 (str nm) (l.map str) [])
def sepAt (s:P):Nat:=s.findIdx (fun c=>c == 58 || c == 34)
def named (s:P):Bool:=s[sepAt s]? == some 58
def nameOf (s:P):P:=if named s then s.take (sepAt s) else msg
def restOf (s:P):P:=if named s then s.drop (sepAt s+1) else s
def leafQ (s:P):Option Q :=
 if s=[42] then some (.mk 1 ByteArray.empty [] [])
 else if isN (nameOf s)=false∨restOf s=[] then none
 else if (restOf s).head?=some 34 then wordsQ (nameOf s) (words (((restOf s).take ((restOf s).length - 1)).drop 1))
 else if (restOf s).getLast?=some 42 then
  (if (restOf s).length=1 then some (.mk 3 (str (nameOf s)) [ByteArray.empty] []) else if (words (restOf s).dropLast).length=1 then some (.mk 3 (str (nameOf s)) ((words (restOf s).dropLast).map str) []) else none)
 else wordsQ (nameOf s) (words (restOf s))
def notQ (q:Q):Q:=.mk 7 ByteArray.empty [] [q]
def oneQ (k:Int) (l:List Q):Q:=match l with | [q]=>q | l=>.mk k ByteArray.empty [] l
inductive Md where
 | part | and (a:List Q) | or (a:List Q) | andT (a:List Q) | orT (a:List Q)
def word1 (s:P):Bool:=s != NOT && s != LP && s != RP && s != AND && s != OR
def closed:Option (Q × List P)→Option (Q × List P)
 | some (q,s :: r)=>if s=RP then some (q,r) else none
 | _=>none
def stops (l:List P):Bool:=match l with | []=>true | s :: _=>s == RP || s == OR
inductive R:Md→List P→Option (Q × List P)→Prop
 | pnil:R .part [] none
 | pnot {s t o} (hs:s=NOT) (h:R .part t o):R .part (s :: t) (o.map fun x=>(notQ x.1,x.2))
 | plp {s t o} (hs:s=LP) (h:R (.or []) t o):R .part (s :: t) (closed o)
 | pbad {s t} (hs:s=RP∨s=AND∨s=OR):R .part (s :: t) none
 | pleaf {s t} (hs:word1 s=true):R .part (s :: t) ((leafQ s).map fun q=>(q,t))
 | and0 {a l} (h:R .part l none):R (.and a) l none
 | and1 {a l q r o} (h:R .part l (some (q,r))) (h2:R (.andT (a ++ [q])) r o):R (.and a) l o
 | andE {a l} (h:stops l=true):R (.andT a) l (some (oneQ 5 a,l))
 | andA {a s t o} (hs:s=AND) (h:R (.and a) t o):R (.andT a) (s :: t) o
 | andN {a s t o} (hs:stops (s :: t)=false) (hn:s≠AND) (h:R (.and a) (s :: t) o):R (.andT a) (s :: t) o
 | or0 {a l} (h:R (.and []) l none):R (.or a) l none
 | or1 {a l q r o} (h:R (.and []) l (some (q,r))) (h2:R (.orT (a ++ [q])) r o):R (.or a) l o
 | orE {a l} (h:l.head?≠some OR):R (.orT a) l (some (oneQ 6 a,l))
 | orO {a s t o} (hs:s=OR) (h:R (.or a) t o):R (.orT a) (s :: t) o
theorem R.det {m:Md} {l:List P} {o:Option (Q × List P)} (h:R m l o):∀ o',R m l o'→o=o':=by
 have nw:∀ s,word1 s=true→s≠NOT∧s≠LP∧s≠RP∧s≠AND∧s≠OR:=fun s hs=>by
  refine ⟨?_,?_,?_,?_,?_⟩ <;> (rintro rfl; revert hs; decide)
 induction h with
 | pnil=>intro o' h'; cases h'; rfl
 | pnot hs h ih =>
  intro o' h'
  cases h' with
  | pnot _ h=>rw [ih _ h]
  | plp hs' _=>rw [hs] at hs'; exact absurd hs' (by decide)
  | pbad hs'=>rw [hs] at hs'; exact absurd hs' (by decide)
  | pleaf hs'=>exact absurd hs (nw _ hs').1
 | plp hs h ih =>
  intro o' h'
  cases h' with
  | plp _ h=>rw [ih _ h]
  | pnot hs' _=>rw [hs] at hs'; exact absurd hs' (by decide)
  | pbad hs'=>rw [hs] at hs'; exact absurd hs' (by decide)
  | pleaf hs'=>exact absurd hs (nw _ hs').2.1
 | pbad hs =>
  intro o' h'
  cases h' with
  | pbad _=>rfl
  | pnot hs' _=>rw [hs'] at hs; exact absurd hs (by decide)
  | plp hs' _=>rw [hs'] at hs; exact absurd hs (by decide)
  | pleaf hs' =>
   have:=nw _ hs'
   rcases hs with e | e | e
   ·exact absurd e this.2.2.1
   ·exact absurd e this.2.2.2.1
   ·exact absurd e this.2.2.2.2
 | pleaf hs =>
  intro o' h'
  have:=nw _ hs
  cases h' with
  | pleaf _=>rfl
  | pnot hs' _=>exact absurd hs' this.1
  | plp hs' _=>exact absurd hs' this.2.1
  | pbad hs' =>
   rcases hs' with e | e | e
   ·exact absurd e this.2.2.1
   ·exact absurd e this.2.2.2.1
   ·exact absurd e this.2.2.2.2
 | and0 h ih =>
  intro o' h'
  cases h' with
  | and0 _=>rfl
  | and1 h _=>exact absurd (ih _ h) (by simp)
 | and1 h h2 ih ih2 =>
  intro o' h'
  cases h' with
  | and0 h=>exact absurd (ih _ h) (by simp)
  | and1 h h2 =>
   have:=ih _ h
   simp only [Option.some.injEq,Prod.mk.injEq] at this
   obtain ⟨rfl,rfl⟩:=this
   exact ih2 _ h2
 | andE h =>
  intro o' h'
  cases h' with
  | andE _=>rfl
  | andA hs _=>rw [hs] at h; exact absurd h (by simp [stops]; decide)
  | andN hs _ _=>rw [h] at hs; cases hs
 | andA hs h ih =>
  intro o' h'
  cases h' with
  | andE h=>rw [hs] at h; exact absurd h (by simp [stops]; decide)
  | andA _ h=>exact ih _ h
  | andN _ hn _=>exact absurd hs hn
 | andN hs hn h ih =>
  intro o' h'
  cases h' with
  | andE h=>rw [h] at hs; cases hs
  | andA hs _=>exact absurd hs hn
  | andN _ _ h=>exact ih _ h
 | or0 h ih =>
  intro o' h'
  cases h' with
  | or0 _=>rfl
  | or1 h _=>exact absurd (ih _ h) (by simp)
 | or1 h h2 ih ih2 =>
  intro o' h'
  cases h' with
  | or0 h=>exact absurd (ih _ h) (by simp)
  | or1 h h2 =>
   have:=ih _ h
   simp only [Option.some.injEq,Prod.mk.injEq] at this
   obtain ⟨rfl,rfl⟩:=this
   exact ih2 _ h2
 | orE h =>
  intro o' h'
  cases h' with
  | orE _=>rfl
  | orO hs _=>rw [hs] at h; exact absurd rfl h
 | orO hs h ih =>
  intro o' h'
  cases h' with
  | orE h=>rw [hs] at h; exact absurd rfl h
  | orO _ h=>exact ih _ h
theorem R.less {m:Md} {l:List P} {o:Option (Q × List P)} (h:R m l o):∀ q r,o=some (q,r)→(∃ k,r=l.drop k∧k≤l.length∧((m=.part∨(∃ a,m=.and a)∨∃ a,m=.or a)→1≤k)):=by
 induction h with
 | pnil=>intro q r e; cases e
 | pnot hs h ih =>
  intro q r e
  obtain ⟨⟨q',r'⟩,h1,h2⟩:=Option.map_eq_some_iff.1 e
  simp only [Prod.mk.injEq] at h2
  obtain ⟨_,rfl⟩:=h2
  obtain ⟨k,rfl,hk,_⟩:=ih q' _ h1
  exact ⟨k+1,rfl,by simp; omega,fun _=>by omega⟩
 | @plp s t o hs h ih =>
  intro q r e
  match o,e,ih with
  | some (q',s' :: r'),e,ih =>
   by_cases hp:s'=RP
   ·have e2:closed (some (q',s' :: r'))=some (q',r'):=if_pos hp
    rw [e2] at e
    simp only [Option.some.injEq,Prod.mk.injEq] at e
    obtain ⟨rfl,rfl⟩:=e
    obtain ⟨k,h1,hk,_⟩:=ih q' _ rfl
    refine ⟨k+2,?_,?_,fun _=>by omega⟩
    ·show _=t.drop (k+1)
     rw [← List.drop_drop,← h1]; rfl
    ·have:=congrArg List.length h1
     simp at this ⊢
     omega
   ·have e2:closed (some (q',s' :: r'))=none:=if_neg hp
    rw [e2] at e
    cases e
  | some (q',[]),e,_=>cases e
  | none,e,_=>cases e
 | pbad hs=>intro q r e; cases e
 | pleaf hs =>
  intro q r e
  obtain ⟨q',h1,h2⟩:=Option.map_eq_some_iff.1 e
  simp only [Prod.mk.injEq] at h2
  obtain ⟨_,rfl⟩:=h2
  exact ⟨1,rfl,by simp,fun _=>by omega⟩
 | and0 h ih=>intro q r e; cases e
 | and1 h h2 ih ih2 =>
  intro q r e
  obtain ⟨k,rfl,hk,h1⟩:=ih _ _ rfl
  obtain ⟨k2,rfl,hk2,_⟩:=ih2 q r e
  rw [List.length_drop] at hk2
  have:=h1 (.inl rfl)
  exact ⟨k+k2,by rw [List.drop_drop],by omega,fun _=>by omega⟩
 | andE h=>intro q r e; simp only [Option.some.injEq,Prod.mk.injEq] at e; obtain ⟨_,rfl⟩:=e; exact ⟨0,rfl,by omega,fun h=>by simp at h⟩
 | andA hs h ih=>intro q r e; obtain ⟨k,rfl,hk,_⟩:=ih q r e; exact ⟨k+1,rfl,by simp; omega,fun _=>by omega⟩
 | andN hs hn h ih=>intro q r e; obtain ⟨k,rfl,hk,_⟩:=ih q r e; exact ⟨k,rfl,hk,fun h=>by simp at h⟩
 | or0 h ih=>intro q r e; cases e
 | or1 h h2 ih ih2 =>
  intro q r e
  obtain ⟨k,rfl,hk,h1⟩:=ih _ _ rfl
  obtain ⟨k2,rfl,hk2,_⟩:=ih2 q r e
  rw [List.length_drop] at hk2
  have:=h1 (.inr (.inl ⟨_,rfl⟩))
  exact ⟨k+k2,by rw [List.drop_drop],by omega,fun _=>by omega⟩
 | orE h=>intro q r e; simp only [Option.some.injEq,Prod.mk.injEq] at e; obtain ⟨_,rfl⟩:=e; exact ⟨0,rfl,by omega,fun h=>by simp at h⟩
 | orO hs h ih=>intro q r e; obtain ⟨k,rfl,hk,_⟩:=ih q r e; exact ⟨k+1,rfl,by simp; omega,fun _=>by omega⟩
end Go.Proofs.YtlfpfkallgkjdaaGreat.Qp
end

section
namespace Go.Proofs.YtlfpfkallgkjdaaGreat.Ut
open Go.RowKit
theorem more_no (s:ByteArray) (p n:Nat) (w:World) (h:s.size≤p):Calls Tryz.prog 194 #[.string s,.int .i64 (p:Int),.int .i64 (n:Int)] w fun e w'=>e=.returned (.tuple #[.int .i64 0,.bool false])∧w=w':=by
 have h1:(s.size:Int)≤(p:Int):=by omega
 go_enter Tryz.func194,Tryz.ntmps194
 go_wp2
 go_ret2
 exact ⟨rfl,rfl⟩
theorem more_not (s:ByteArray) (p n m:Nat) (w:World) (h:p<s.size) (hm:(s[p]).toNat=m) (hc:¬ m / 64=2) (h256:m<256):Calls Tryz.prog 194 #[.string s,.int .i64 (p:Int),.int .i64 (n:Int)] w fun e w'=>e=.returned (.tuple #[.int .i64 0,.bool false])∧w=w':=by
 have h1:¬ (s.size:Int)≤(p:Int):=by omega
 have h2:¬ ((m:Int) / 64=2):=by omega
 go_enter Tryz.func194,Tryz.ntmps194
 go_wp2
 go_ret2
 exact ⟨rfl,rfl⟩
theorem more_yes (s:ByteArray) (p n m:Nat) (w:World) (h:p<s.size) (hm:(s[p]).toNat=m) (hc:m / 64=2) (h256:m<256) (hn:n<1000000000):Calls Tryz.prog 194 #[.string s,.int .i64 (p:Int),.int .i64 (n:Int)] w fun e w'=>e=.returned (.tuple #[.int .i64 ((n * 64+m % 64:Nat):Int),.bool true])∧w=w':=by
 have h1:¬ (s.size:Int)≤(p:Int):=by omega
 have h2:((m:Int) / 64=2):=by omega
 go_enter Tryz.func194,Tryz.ntmps194
 go_wp2
 go_ret2
 exact ⟨by go_num,rfl⟩
theorem lo1 (r:Int) (h:(65≤r∧r≤90)∨(192≤r∧r≤222∧r≠215)∨(913≤r∧r≤939∧r≠930)∨(1040≤r∧r≤1071)):r+32=lower r:=by unfold lower; rw [if_pos h]
theorem lo2 (r:Int) (h : 1024≤r∧r≤1039):r+80=lower r:=by unfold lower; rw [if_neg (by omega),if_pos h]
theorem lo3 (r:Int) (h:¬ ((65≤r∧r≤90)∨(192≤r∧r≤222∧r≠215)∨(913≤r∧r≤939∧r≠930)∨(1040≤r∧r≤1071))) (h2:¬ (1024≤r∧r≤1039)):r=lower r:=by unfold lower; rw [if_neg h,if_neg h2]
set_option maxHeartbeats 1600000 in
theorem lower_ref (r:Int) (w:World):Calls Tryz.prog 170 #[.int .i64 r] w fun e w'=>e=.returned (.int .i64 (lower r))∧w=w':=by
 go_enter Tryz.func170,Tryz.ntmps170
 go_wp2
 all_goals
  go_ret
  refine ⟨congrArg (fun x=>Ending.returned (Value.int .i64 x)) ?_,rfl⟩
  try simp only [bne_iff_ne,ne_eq,bne_eq_false_iff_eq] at *
  first | exact lo1 r (by omega) | exact lo2 r (by omega) | exact lo3 r (by omega) (by omega)
def rowOk (t:List UInt8) (k:Nat):Bool:=decide (k - 1≤t.length) && (t.take (k - 1)).all cont
def rowOf (m:Nat) (t:List UInt8) (k:Nat):Nat:=if rowOk t k then acc m (t.take (k - 1)) else 0
theorem more_any (s:ByteArray) (p n:Nat) (w:World) (hn:n<1000000000):Calls Tryz.prog 194 #[.string s,.int .i64 (p:Int),.int .i64 (n:Int)] w fun e w'=>w=w' ∧
  ((∃ h:p<s.size,cont s[p]=true∧e=.returned (.tuple #[.int .i64 ((n * 64+(s[p]).toNat % 64:Nat):Int),.bool true]))∨(¬ (∃ h:p<s.size,cont s[p]=true)∧e=.returned (.tuple #[.int .i64 0,.bool false]))):=by
 by_cases h:p<s.size
 ·have h256:=(s[p]).toNat_lt
  by_cases hc:(s[p]).toNat / 64=2
  ·refine (more_yes s p n _ w h rfl hc h256 hn).mono ?_
   rintro e w' ⟨rfl,rfl⟩
   exact ⟨rfl,Or.inl ⟨h,by simp [cont,hc],rfl⟩⟩
  ·refine (more_not s p n _ w h rfl hc h256).mono ?_
   rintro e w' ⟨rfl,rfl⟩
   exact ⟨rfl,Or.inr ⟨fun ⟨h',h2⟩=>hc (by simpa [cont] using h2),rfl⟩⟩
 ·refine (more_no s p n w (by omega)).mono ?_
  rintro e w' ⟨rfl,rfl⟩
  exact ⟨rfl,Or.inr ⟨fun ⟨h',_⟩=>h h',rfl⟩⟩
theorem take_at (s:ByteArray) (k j:Nat) (hj : 1≤j) (h:k+j<s.size):(s.data.toList.drop (k+1)).take j=(s.data.toList.drop (k+1)).take (j - 1) ++ [s[k+j]]:=by
 obtain ⟨i,rfl⟩:∃ i,j=i+1:=⟨j - 1,by omega⟩
 have hl:i<(s.data.toList.drop (k+1)).length:=by rw [List.length_drop,bsize]; omega
 rw [List.take_succ_eq_append_getElem hl,Nat.add_sub_cancel]
 congr 2
 rw [List.getElem_drop,Array.getElem_toList]
 have:k+1+i=k+(i+1):=by omega
 simp only [this]
 rfl
theorem row_more (s:ByteArray) (k j m:Nat) (hj : 1≤j) (h:k+j<s.size) (hc:cont s[k+j]=true) (hok:rowOk (s.data.toList.drop (k+1)) j=true) :
  rowOk (s.data.toList.drop (k+1)) (j+1)=true∧acc m ((s.data.toList.drop (k+1)).take j)=acc m ((s.data.toList.drop (k+1)).take (j - 1)) * 64+(s[k+j]).toNat % 64:=by
 have ht:=take_at s k j hj h
 refine ⟨?_,by rw [ht,acc_snoc]⟩
 simp only [rowOk,Bool.and_eq_true,decide_eq_true_eq,Nat.add_sub_cancel] at hok ⊢
 refine ⟨by rw [List.length_drop,bsize]; omega,?_⟩
 rw [ht,List.all_append,hok.2]
 simp [hc]
theorem row_stop (s:ByteArray) (k j z:Nat) (hj : 1≤j) (hz:j<z) (hno:¬ ∃ h:k+j<s.size,cont s[k+j]=true):rowOk (s.data.toList.drop (k+1)) z=false:=by
 cases hr:rowOk (s.data.toList.drop (k+1)) z with
 | false=>rfl
 | true =>
  exfalso
  simp only [rowOk,Bool.and_eq_true,decide_eq_true_eq] at hr
  have hl:=hr.1
  rw [List.length_drop,bsize] at hl
  have h:k+j<s.size:=by omega
  refine hno ⟨h,List.all_eq_true.1 hr.2 _ ?_⟩
  have ht:=take_at s k j hj h
  have:s[k+j]∈(s.data.toList.drop (k+1)).take j:=by rw [ht]; simp
  exact (List.take_subset_take_left _ (by omega)) this
set_option maxHeartbeats 1600000 in
theorem row_any (s:ByteArray) (k m z:Nat) (w:World) (hk:k<s.size) (hs:s.size≤140737488351232) (hm:m<32) (hz : 1≤z) (hz4:z≤4):Calls Tryz.prog 184 #[.string s,.int .i64 (k:Int),.int .i64 (m:Int),.int .i64 (z:Int)] w fun e w'=>e=.returned (.tuple #[.int .i64 (rowOf m (s.data.toList.drop (k+1)) z:Nat),.bool (rowOk (s.data.toList.drop (k+1)) z)])∧w=w':=by
 have r0:rowOk (s.data.toList.drop (k+1)) 1=true:=by simp [rowOk]
 have R0:=zh r0
 have hyes:=fun (j:Nat) (hj : 1≤j) (h:k+j<s.size) (hc:cont s[k+j]=true) (hok:rowOk (s.data.toList.drop (k+1)) j=true)=>row_more s k j m hj h hc hok
 have hno:=fun (j:Nat) (hj : 1≤j) (hz:j<z) (h:¬ ∃ h:k+j<s.size,cont s[k+j]=true)=>row_stop s k j z hj hz h
 have hlt:=fun (j:Nat) (hj:j≤4)=>acc_lt m ((s.data.toList.drop (k+1)).take (j - 1)) hm (by rw [List.length_take]; omega)
 have hof:rowOf m (s.data.toList.drop (k+1)) z=if rowOk (s.data.toList.drop (k+1)) z then acc m ((s.data.toList.drop (k+1)).take (z - 1)) else 0:=rfl
 have Hof:=zh hof
 have Hyes:=zh hyes
 have Hno:=zh hno
 have Hlt:=zh hlt
 clear r0 hyes hno hlt hof
 go_enter Tryz.func184,Tryz.ntmps184
 go_wp2
 go_loopw [2,10] (fun n i wr=>∃ j:Nat,1≤j∧j≤z∧i=.int .i64 j∧n=.int .i64 (acc m ((s.data.toList.drop (k+1)).take (j - 1)):Nat)∧Hid (rowOk (s.data.toList.drop (k+1)) j=true)∧wr=w)
  (fun _ i _=>z - (intOf i).toNat)
 case atStart=>exact ⟨1,by omega,by omega,rfl,rfl,R0,rfl⟩
 case round =>
  obtain ⟨j,hj1,hjz,rfl,rfl,Hok,rfl⟩:=hrel
  by_cases hjl:j<z
  ·have hal:=Hlt.out j (by omega)
   have c:=more_any s (k+j) (acc m ((s.data.toList.drop (k+1)).take (j - 1))) wr (by omega)
   have Hst:=zh (Hno.out j hj1 hjl)
   have Hgo:=zh (fun h hc=>(Hyes.out j hj1 h hc Hok.out))
   generalize acc m ((s.data.toList.drop (k+1)).take (j - 1))=a at *
   go_wp2_with fail
   refine c.mono ?_
   rintro e w' ⟨rfl,h⟩
   rcases h with ⟨h,hc,rfl⟩ | ⟨h,rfl⟩
   ·have Hg:=zh (Hgo.out h hc)
    clear hc Hgo Hst
    go_wp2
    go_roundw
    case rel=>exact ⟨j+1,by omega,by omega,by go_num,by rw [Nat.add_sub_cancel,Hg.out.2]; go_num,zh Hg.out.1,trivial⟩
    case measure=>simp [intOf]; omega
   ·have Hg:=zh (Hst.out h)
    clear h Hgo Hst
    go_wp2
    go_ret2
    exact ⟨by rw [Hof.out,Hg.out]; rfl,rfl⟩
  ·obtain rfl:j=z:=by omega
   generalize hac:acc m ((s.data.toList.drop (k+1)).take (j - 1))=a at *
   have Hac:=zh hac
   clear hac
   go_wp2
   go_ret2
   exact ⟨by rw [Hof.out,Hok.out,if_pos rfl]; rfl,rfl⟩
theorem fits_row (m:Nat) (t:List UInt8) (k lo hi:Nat):fits m t k lo hi=(rowOk t k && (decide (lo≤rowOf m t k) && (decide (rowOf m t k≤hi) && !(decide (55296≤rowOf m t k) && decide (rowOf m t k≤57343))))):=by
 unfold fits rowOf
 cases h:rowOk t k with
 | true =>
  rw [if_pos rfl]
  unfold rowOk at h
  rw [Bool.and_eq_true] at h
  rw [h.1,h.2,Bool.true_and]
 | false =>
  rw [Bool.false_and]
  unfold rowOk at h
  rw [← Bool.and_assoc,h,Bool.false_and]
theorem form_row (m:Nat) (t:List UInt8) (k lo hi a:Nat) (ok:Bool) (ha:rowOf m t k=a) (ho:rowOk t k=ok) :
  (ok=true→lo≤a→a≤hi→¬ (55296≤a∧a≤57343)→form m t k lo hi=(a,k))∧((ok=false∨a<lo∨hi<a∨(55296≤a∧a≤57343))→form m t k lo hi=(65533,1)):=by
 have hf:=fits_row m t k lo hi
 rw [ha,ho] at hf
 refine ⟨fun h1 h2 h3 h4=>?_,fun h=>?_⟩
 ·have hff:fits m t k lo hi=true:=by
   rw [hf]; simp only [Bool.and_eq_true,decide_eq_true_eq,Bool.not_eq_true',Bool.and_eq_false_iff,decide_eq_false_iff_not]
   exact ⟨h1,h2,h3,by omega⟩
  unfold form
  rw [if_pos hff]
  have:rowOf m t k=acc m (t.take (k - 1)):=by unfold rowOf; rw [if_pos (by rw [ho]; exact h1)]
  rw [← ha,this]
 ·have hff:fits m t k lo hi=false:=by
   cases hx:fits m t k lo hi with
   | false=>rfl
   | true =>
    exfalso
    rw [hf] at hx
    simp only [Bool.and_eq_true,decide_eq_true_eq,Bool.not_eq_true',Bool.and_eq_false_iff,decide_eq_false_iff_not] at hx
    obtain ⟨x1,x2,x3,x4⟩:=hx
    rcases h with h | h | h | h
    ·rw [h] at x1; cases x1
    ·omega
    ·omega
    ·omega
  unfold form
  rw [if_neg (by rw [hff]; decide)]
theorem row_lt (m M:Nat) (t:List UInt8) (k:Nat) (hm:m<M) (hM:M≤32) (hk : 1≤k) (hk4:k≤4):rowOf m t k<M * 64 ^ (k - 1):=by
 unfold rowOf
 split
 ·have hl:(t.take (k - 1)).length≤k - 1:=by rw [List.length_take]; omega
  have hp : 0<64 ^ (k - 1):=Nat.pow_pos (by decide)
  have key:∀ l:List UInt8,l.length≤k - 1→acc m l<M * 64 ^ (k - 1):=by
   intro l hl
   have h2:k - 1=0∨k - 1=1∨k - 1=2∨k - 1=3:=by omega
   match l,hl with
   | [],_=>simp only [acc,List.foldl_nil]; rcases h2 with h | h | h | h <;> rw [h] <;> omega
   | [a],hl=>simp only [acc,List.foldl_cons,List.foldl_nil]; simp only [List.length_cons,List.length_nil] at hl; rcases h2 with h | h | h | h <;> rw [h] at hl ⊢ <;> omega
   | [a,b],hl=>simp only [acc,List.foldl_cons,List.foldl_nil]; simp only [List.length_cons,List.length_nil] at hl; rcases h2 with h | h | h | h <;> rw [h] at hl ⊢ <;> omega
   | [a,b,c],hl=>simp only [acc,List.foldl_cons,List.foldl_nil]; simp only [List.length_cons,List.length_nil] at hl; rcases h2 with h | h | h | h <;> rw [h] at hl ⊢ <;> omega
   | a :: b :: c :: d :: l,hl=>simp only [List.length_cons] at hl; omega
  exact key _ hl
 ·exact Nat.mul_pos (by omega) (Nat.pow_pos (by decide))
end Go.Proofs.YtlfpfkallgkjdaaGreat.Ut
end

section
namespace Go.Proofs.YtlfpfkallgkjdaaGreat.Ss
open Go.Sort Go.Proofs
variable {α:Type} [Inhabited α] {cf : α→α→Int} {tag : α→Nat}
def Tgb (tag : α→Nat) (d:Array α) (B n:Nat):Prop:=∀ c x y,x<c * B→c * B≤y→y<n→tag d[x]!<tag d[y]!
def Sb (cf : α→α→Int) (tag : α→Nat) (d:Array α) (B n:Nat):Prop:=∀ c,Srt cf tag d (c * B) (min ((c+1) * B) n)
theorem Tgb.perm {d d':Array α} {B n a b:Nat} (hT:Tgb tag d B n) (hb:b≤d.size) (hin:∀ c,c * B≤a∨b≤c * B) (P:PermIn a b d d') (hbn:b≤n):Tgb tag d' B n:=by
 intro c x y hx hy hn
 have hc:=hin c
 have hT:=hT c
 generalize c * B=q at *
 have h1:∀ x0,x0<q→tag d[x0]!<tag d'[y]!:=fun x0 hx0=>by
  by_cases hyi:a≤y∧y<b
  ·exact permIn_all d d' a b (fun z=>tag d[x0]!<tag z) hb P (fun i hi hi2=>hT x0 i hx0 (by omega) (by omega)) y hyi.1 hyi.2
  ·rw [P.2.1 y (by omega)]; exact hT x0 y hx0 hy hn
 by_cases hxi:a≤x∧x<b
 ·exact permIn_all d d' a b (fun z=>tag z<tag d'[y]!) hb P (fun i hi hi2=>h1 i (by omega)) x hxi.1 hxi.2
 ·rw [P.2.1 x (by omega)]; exact h1 x hx
theorem Tgb.twice {d:Array α} {B n:Nat} (h:Tgb tag d B n):Tgb tag d (2 * B) n:=fun c x y hx hy hn=>by
 have e:c * (2 * B)=(c * 2) * B:=(Nat.mul_assoc c 2 B).symm
 rw [e] at hx hy
 exact h (c * 2) x y hx hy hn
structure Ph (cf : α→α→Int) (tag : α→Nat) (d0 dB dk:Array α) (B n c:Nat):Prop where
 hs:dk.size=d0.size
 hBs:dB.size=d0.size
 hn:n≤d0.size
 P:PermIn 0 n d0 dk
 T:Tgb tag dk (2 * B) n
 S:∀ c'<c,Srt cf tag dk (c' * (2 * B)) ((c'+1) * (2 * B))
 K:∀ x,c * (2 * B)≤x→dk[x]! = dB[x]!
 TB:Tgb tag dB B n
 SB:Sb cf tag dB B n
theorem Ph.start {d0 dB:Array α} {B n:Nat} (hBs:dB.size=d0.size) (hn:n≤d0.size) (P:PermIn 0 n d0 dB) (T:Tgb tag dB B n) (S:Sb cf tag dB B n):Ph cf tag d0 dB dB B n 0 :=
 ⟨hBs,hBs,hn,P,T.twice,fun c' h=>by omega,fun _ _=>rfl,T,S⟩
theorem blk_a (c B:Nat):(c * 2) * B=c * (2 * B):=Nat.mul_assoc c 2 B
theorem blk_m (c B:Nat):(c * 2+1) * B=c * (2 * B)+B:=by rw [Nat.add_mul,Nat.mul_assoc,Nat.one_mul]
theorem blk_b (c B:Nat):(c+1) * (2 * B)=c * (2 * B)+2 * B:=by rw [Nat.add_mul,Nat.one_mul]
theorem Ph.wants {d0 dB dk:Array α} {B n c a b:Nat} (h:Ph cf tag d0 dB dk B n c) (ha:a=c * (2 * B)) (hb:b=min (a+2 * B) n) (hm:a+B<n):Srt cf tag dk a (a+B)∧Srt cf tag dk (a+B) b∧Tg tag dk a (a+B) b:=by
 have s1:=h.SB (c * 2)
 have s2:=h.SB (c * 2+1)
 have t1:=h.TB (c * 2+1)
 have e3:(c * 2+1+1) * B=c * (2 * B)+2 * B:=by rw [Nat.add_mul,blk_m]; omega
 rw [blk_m,blk_a,← ha] at s1
 rw [e3,blk_m,← ha] at s2
 rw [blk_m,← ha] at t1
 have K:=h.K
 rw [← ha] at K
 have hb1:b≤n:=by omega
 refine ⟨(s1.sub (zG _) (by omega)).keep (fun x h1 h2=>K x h1),(s2.sub (zG _) (by omega)).keep (fun x h1 h2=>K x (by omega)),fun x y h1 h2 h3 h4=>?_⟩
 rw [K x h1,K y (by omega)]
 exact t1 x y h2 h3 (by omega)
theorem Ph.next {d0 dB dk d':Array α} {B n c a:Nat} (h:Ph cf tag d0 dB dk B n c) (ha:a=c * (2 * B)) (hb:a+2 * B≤n) (P:PermIn a (a+2 * B) dk d') (S:Srt cf tag d' a (a+2 * B)):Ph cf tag d0 dB d' B n (c+1):=by
 have hs:=h.hs
 have hn:=h.hn
 refine ⟨P.1.trans hs,h.hBs,hn,permIn_trans _ _ _ _ _ h.P (permIn_mono _ _ _ _ _ _ (by omega) (by omega) (by omega) P),h.T.perm (by omega) (fun c'=>?_) P (by omega),fun c' hc'=>?_,fun x hx=>?_,h.TB,h.SB⟩
 ·rcases Nat.lt_or_ge c c' with g | g
  ·refine .inr ?_
   have:=Nat.mul_le_mul_right (2 * B) (show c+1≤c' from g)
   rw [blk_b,← ha] at this
   exact this
  ·exact .inl (by rw [ha]; exact Nat.mul_le_mul_right _ g)
 ·rcases Nat.lt_or_ge c' c with g | g
  ·have e:=Nat.mul_le_mul_right (2 * B) (show c'+1≤c from g)
   rw [← ha] at e
   exact (h.S c' g).keep (fun x h1 h2=>P.2.1 x (.inl (by omega)))
  ·obtain rfl:c'=c:=by omega
   rw [blk_b,← ha]; exact S
 ·rw [blk_b,← ha] at hx
  rw [P.2.1 x (.inr hx)]
  exact h.K x (by rw [← ha]; omega)
theorem Ph.last {d0 dB dk d':Array α} {B n c a:Nat} (h:Ph cf tag d0 dB dk B n c) (ha:a=c * (2 * B)) (hb:n<a+2 * B) (hm:a+B<n) (P:PermIn a n dk d') (S:Srt cf tag d' a n):d'.size=d0.size∧PermIn 0 n d0 d'∧Tgb tag d' (2 * B) n∧Sb cf tag d' (2 * B) n:=by
 have hs:=h.hs
 have hn:=h.hn
 refine ⟨P.1.trans hs,permIn_trans _ _ _ _ _ h.P (permIn_mono _ _ _ _ _ _ (by omega) (by omega) (by omega) P),h.T.perm (by omega) (fun c'=>?_) P (by omega),fun c'=>?_⟩
 ·rcases Nat.lt_or_ge c c' with g | g
  ·refine .inr ?_
   have:=Nat.mul_le_mul_right (2 * B) (show c+1≤c' from g)
   rw [blk_b,← ha] at this
   omega
  ·exact .inl (by rw [ha]; exact Nat.mul_le_mul_right _ g)
 ·rcases Nat.lt_trichotomy c' c with g | g | g
  ·have e:=Nat.mul_le_mul_right (2 * B) (show c'+1≤c from g)
   rw [← ha] at e
   exact ((h.S c' g).keep (fun x h1 h2=>P.2.1 x (.inl (by omega)))).sub (zG _) (by omega)
  ·subst g
   rw [blk_b,← ha]
   exact S.sub (zG _) (by omega)
  ·have:=Nat.mul_le_mul_right (2 * B) (show c+1≤c' from g)
   rw [blk_b,← ha] at this
   exact Srt.one _ (by omega)
theorem Ph.done {d0 dB dk:Array α} {B n c a:Nat} (h:Ph cf tag d0 dB dk B n c) (ha:a=c * (2 * B)) (hm:n≤a+B):dk.size=d0.size∧PermIn 0 n d0 dk∧Tgb tag dk (2 * B) n∧Sb cf tag dk (2 * B) n:=by
 refine ⟨h.hs,h.P,h.T,fun c'=>?_⟩
 rcases Nat.lt_trichotomy c' c with g | g | g
 ·exact (h.S c' g).sub (zG _) (by omega)
 ·subst g
  have s1:=h.SB (c' * 2)
  rw [blk_m,blk_a,← ha] at s1
  rw [blk_b,← ha]
  have K:=h.K
  rw [← ha] at K
  exact (s1.sub (zG _) (by omega)).keep (fun x h1 h2=>K x h1)
 ·have:=Nat.mul_le_mul_right (2 * B) (show c+1≤c' from g)
  rw [blk_b,← ha] at this
  exact Srt.one _ (by omega)
theorem Sb.whole {d:Array α} {B n:Nat} (h:Sb cf tag d B n) (hB:n≤B):Srt cf tag d 0 n:=by
 have:=h 0
 rw [Nat.zero_mul,Nat.zero_add,Nat.one_mul] at this
 exact this.sub (zG _) (by omega)
structure Pi (cf : α→α→Int) (tag : α→Nat) (d0 dk:Array α) (B n c:Nat):Prop where
 hs:dk.size=d0.size
 hn:n≤d0.size
 P:PermIn 0 n d0 dk
 T:Tgb tag dk B n
 S:∀ c'<c,Srt cf tag dk (c' * B) ((c'+1) * B)
 K:∀ x,c * B≤x→dk[x]! = d0[x]!
 O:∀ x y,x<y→y<n→tag d0[x]!<tag d0[y]!
theorem Pi.start {d0:Array α} {B n:Nat} (hn:n≤d0.size) (O:∀ x y,x<y→y<n→tag d0[x]!<tag d0[y]!):Pi cf tag d0 d0 B n 0 :=
 ⟨rfl,hn,permIn_refl _ _ _,fun c x y hx hy hn=>O x y (by omega) hn,fun c' h=>by omega,fun _ _=>rfl,O⟩
theorem Pi.next {d0 dk d':Array α} {B n c a:Nat} (h:Pi cf tag d0 dk B n c) (ha:a=c * B) (hb:a+B≤n) (P:PermIn a (a+B) dk d') (S:Srt cf tag d' a (a+B)):Pi cf tag d0 d' B n (c+1):=by
 have hs:=h.hs
 have hn:=h.hn
 have e1:(c+1) * B=a+B:=by rw [Nat.add_mul,Nat.one_mul,ha]
 refine ⟨P.1.trans hs,hn,permIn_trans _ _ _ _ _ h.P (permIn_mono _ _ _ _ _ _ (by omega) (by omega) (by omega) P),h.T.perm (by omega) (fun c'=>?_) P (by omega),fun c' hc'=>?_,fun x hx=>?_,h.O⟩
 ·rcases Nat.lt_or_ge c c' with g | g
  ·refine .inr ?_
   have:=Nat.mul_le_mul_right B (show c+1≤c' from g)
   rw [e1] at this
   exact this
  ·exact .inl (by rw [ha]; exact Nat.mul_le_mul_right _ g)
 ·rcases Nat.lt_or_ge c' c with g | g
  ·have e:=Nat.mul_le_mul_right B (show c'+1≤c from g)
   rw [← ha] at e
   exact (h.S c' g).keep (fun x h1 h2=>P.2.1 x (.inl (by omega)))
  ·obtain rfl:c'=c:=by omega
   rw [e1,← ha]; exact S
 ·rw [e1] at hx
  rw [P.2.1 x (.inr hx)]
  exact h.K x (by rw [← ha]; omega)
theorem Pi.last {d0 dk d':Array α} {B n c a:Nat} (h:Pi cf tag d0 dk B n c) (ha:a=c * B) (hb:n<a+B) (han:a≤n) (P:PermIn a n dk d') (S:Srt cf tag d' a n):d'.size=d0.size∧PermIn 0 n d0 d'∧Tgb tag d' B n∧Sb cf tag d' B n:=by
 have hs:=h.hs
 have hn:=h.hn
 have e1:(c+1) * B=a+B:=by rw [Nat.add_mul,Nat.one_mul,ha]
 refine ⟨P.1.trans hs,permIn_trans _ _ _ _ _ h.P (permIn_mono _ _ _ _ _ _ (by omega) (by omega) (by omega) P),h.T.perm (by omega) (fun c'=>?_) P (by omega),fun c'=>?_⟩
 ·rcases Nat.lt_or_ge c c' with g | g
  ·refine .inr ?_
   have:=Nat.mul_le_mul_right B (show c+1≤c' from g)
   rw [e1] at this
   omega
  ·exact .inl (by rw [ha]; exact Nat.mul_le_mul_right _ g)
 ·rcases Nat.lt_trichotomy c' c with g | g | g
  ·have e:=Nat.mul_le_mul_right B (show c'+1≤c from g)
   rw [← ha] at e
   exact ((h.S c' g).keep (fun x h1 h2=>P.2.1 x (.inl (by omega)))).sub (zG _) (by omega)
  ·subst g
   rw [e1,← ha]
   exact S.sub (zG _) (by omega)
  ·have:=Nat.mul_le_mul_right B (show c+1≤c' from g)
   rw [e1] at this
   exact Srt.one _ (by omega)
theorem Pi.tags {d0 dk:Array α} {B n c a:Nat} (h:Pi cf tag d0 dk B n c) (ha:a=c * B) {x y:Nat} (hx:a≤x) (hxy:x<y) (hy:y<n):tag dk[x]!<tag dk[y]!:=by
 have K:=h.K
 rw [← ha] at K
 rw [K x hx,K y (by omega)]
 exact h.O x y hxy hy
theorem permIn_upto {d d':Array α} {a b i:Nat} (P:PermIn a b d d') (hai:a≤i) (K:∀ x,i≤x→d'[x]! = d[x]!) (hib:i≤b) (hb:b≤d.size):PermIn a i d d':=by
 refine ⟨P.1,fun x hx=>?_,?_⟩
 ·rcases hx with hx | hx
  ·exact P.2.1 x (.inl hx)
  ·exact K x hx
 ·have hs:=P.1
  have e:∀ (c:Array α),b≤c.size→(c.extract a b).toList=(c.extract a i).toList ++ (c.extract i b).toList:=fun c hc=>by
   rw [← Array.toList_append,Array.extract_append_extract]
   congr 2 <;> omega
  have h2:(d'.extract i b).toList=(d.extract i b).toList:=by
   refine List.ext_getElem (by simp [hs]) (fun x h1 h3=>?_)
   have hx:i+x<d.size:=by simp at h3; omega
   have:=K (i+x) (by omega)
   rw [getElem!_pos d' (i+x) (by omega),getElem!_pos d (i+x) hx] at this
   simpa using this
  have P2:=P.2.2
  rw [e d' (by omega),e d hb,h2] at P2
  exact (List.perm_append_right_iff _).1 P2
theorem ins_srt (hW:SWO (ltOf cf)) {di dj:Array α} {a i j:Nat} (haj:a≤j) (hji:j≤i) (S:Srt cf tag di a i) (hT:∀ h,a≤h→h<i→tag di[h]!<tag di[i]!) (hX:∀ x,dj[x]! = shR di i j x) (hG:∀ h,j≤h→h<i→bef cf tag di[i]! di[h]!) (hstop:j≤a∨¬ cf di[i]! di[j - 1]!<0):Srt cf tag dj a (i+1):=by
 refine shR_srt hW haj hji S (fun h h1 h2=>?_) hG hX
 rcases hstop with g | g
 ·omega
 ·exact S.step_l hW (y:=j - 1) h1 (by omega) (by omega) (bef_ge (hT (j - 1) (by omega) (by omega)) g)
end Go.Proofs.YtlfpfkallgkjdaaGreat.Ss
end
