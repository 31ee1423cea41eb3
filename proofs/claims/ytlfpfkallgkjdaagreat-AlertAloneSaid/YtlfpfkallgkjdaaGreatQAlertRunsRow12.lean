/- Events: which may be, how great, their terms: plain. (No program in sight.) -/
import Derived.Test.YtlfpfkallgkjdaaGreatQAlertRunsRow5
import Derived.Test.YtlfpfkallgkjdaaGreatQAlertRunsRow11
import Derived.Test.YtlfpfkallgkjdaaGreatQAlertRunsRow0
import Derived.Test.YtlfpfkallgkjdaaGreatQAlertRunsRow4
import Derived.Test.YtlfpfkallgkjdaaGreatQAlertRunsRow23
import Derived.Test.YtlfpfkallgkjdaaGreatQAlertRunsRow18
import Derived.Test.YtlfpfkallgkjdaaGreatQAlertRunsRow16
set_option linter.unusedSectionVars false
set_option linter.unusedSimpArgs false
set_option linter.unusedVariables false
set_option maxRecDepth 20000
section
namespace Go.Proofs.YtlfpfkallgkjdaaGreat.Ev
open Go.RowKit Ut Tk
abbrev Fl:=ByteArray × ByteArray
abbrev Evn:=Int × List Fl
theorem bl_irrefl:∀ x:List UInt8,Op.bytesLess x x=false
 | []=>by simp [Op.bytesLess]
 | a :: x=>by simp [Op.bytesLess,bl_irrefl x]
theorem bl_trans:∀ x y z:List UInt8,Op.bytesLess x y=true→Op.bytesLess y z=true→Op.bytesLess x z=true
 | [],[],_,h,_=>by simp [Op.bytesLess] at h
 | [],b :: y,[],_,h=>by simp [Op.bytesLess] at h
 | [],b :: y,c :: z,_,_=>by simp [Op.bytesLess]
 | a :: x,[],_,h,_=>by simp [Op.bytesLess] at h
 | a :: x,b :: y,[],_,h=>by simp [Op.bytesLess] at h
 | a :: x,b :: y,c :: z,h1,h2=>by
  simp only [Op.bytesLess,Bool.or_eq_true,Bool.and_eq_true,decide_eq_true_eq,beq_iff_eq] at h1 h2 ⊢
  rcases h1 with h1 | ⟨rfl,h1⟩
  ·rcases h2 with h2 | ⟨rfl,h2⟩
   ·exact .inl (UInt8.lt_trans h1 h2)
   ·exact .inl h1
  ·rcases h2 with h2 | ⟨rfl,h2⟩
   ·exact .inl h2
   ·exact .inr ⟨rfl,bl_trans x y z h1 h2⟩
theorem bl_total:∀ x y:List UInt8,Op.bytesLess x y=true∨x=y∨Op.bytesLess y x=true
 | [],[]=>.inr (.inl rfl)
 | [],b :: y=>.inl (by simp [Op.bytesLess])
 | a :: x,[]=>.inr (.inr (by simp [Op.bytesLess]))
 | a :: x,b :: y=>by
  simp only [Op.bytesLess,Bool.or_eq_true,Bool.and_eq_true,decide_eq_true_eq,beq_iff_eq,List.cons.injEq]
  rcases UInt8.lt_or_lt_of_ne (a:=a) (b:=b) |> fun f=>Classical.em (a=b) |>.elim (fun e=>Or.inr e) (fun e=>Or.inl (f e)) with h | rfl
  ·rcases h with h | h
   ·exact .inl (.inl h)
   ·exact .inr (.inr (.inl h))
  ·rcases bl_total x y with h | rfl | h
   ·exact .inl (.inr ⟨rfl,h⟩)
   ·exact .inr (.inl ⟨rfl,rfl⟩)
   ·exact .inr (.inr (.inr ⟨rfl,h⟩))
theorem bl_cons (x y:UInt8) (a b:List UInt8) (h:x≠y):Op.bytesLess (x :: a) (y :: b)=decide (x.toNat<y.toNat):=by
 have h2:(x == y)=false:=by simpa using h
 simp only [Op.bytesLess,h2,Bool.false_and,Bool.or_false]
 rfl
theorem bl_same (x:UInt8) (a b:List UInt8):Op.bytesLess (x :: a) (x :: b)=Op.bytesLess a b:=by
 simp [Op.bytesLess]
def ltB (a b:ByteArray):Bool:=Op.bytesLess a.toList b.toList
theorem ltB_trans {a b c:ByteArray} (h1:ltB a b=true) (h2:ltB b c=true):ltB a c=true:=bl_trans _ _ _ h1 h2
theorem ltB_irrefl (a:ByteArray):ltB a a=false:=bl_irrefl _
theorem toList_inj {a b:ByteArray} (h:a.toList=b.toList):a=b:=by
 have h2:a.data.toList=b.data.toList:=by rw [← ByteArray.toList_eq,← ByteArray.toList_eq]; exact h
 have h3:a.data=b.data:=Array.toList_inj.1 h2
 cases a; cases b; simp at h3; rw [h3]
theorem ltB_total {a b:ByteArray} (h:ltB a b=false):a=b∨ltB b a=true:=by
 rcases bl_total a.toList b.toList with g | g | g
 ·unfold ltB at h; rw [h] at g; cases g
 ·exact .inl (toList_inj g)
 ·exact .inr g
theorem ltB_asymm {a b:ByteArray} (h:ltB a b=true):ltB b a=false:=by
 cases hb:ltB b a
 ·rfl
 ·have:=ltB_trans h hb; rw [ltB_irrefl] at this; cases this
def chkF:List Fl→Int
 | []=>0
 | f :: fs=>if isN f.1.data.toList=false then 100 else if 4096<f.2.size then 2 else chkF fs
def chkE (fs:List Fl):Int:=if 16<fs.length then 3 else chkF fs
def szF:List Fl→Nat
 | []=>0
 | f :: fs=>(f.1.size+f.2.size)+szF fs
theorem szF_snoc (fs:List Fl) (f:Fl):szF (fs ++ [f])=szF fs+(f.1.size+f.2.size):=by
 induction fs with
 | nil=>simp [szF]
 | cons g fs ih=>simp only [List.cons_append,szF,ih]; omega
theorem isN_len {s:ByteArray} (h:isN s.data.toList=true):s.size≤32:=by
 unfold isN at h
 simp only [Bool.and_eq_true,decide_eq_true_eq] at h
 rw [bsize] at h
 exact h.1.2
theorem chkF_ok {fs:List Fl} (h:chkF fs=0):∀ f∈fs,isN f.1.data.toList=true∧f.1.size≤32∧f.2.size≤4096:=by
 induction fs with
 | nil=>intro f hf; cases hf
 | cons g fs ih =>
  unfold chkF at h
  by_cases c1:isN g.1.data.toList=false
  ·rw [if_pos c1] at h; cases h
  ·rw [if_neg c1] at h
   by_cases c2 : 4096<g.2.size
   ·rw [if_pos c2] at h; cases h
   ·rw [if_neg c2] at h
    have hn:isN g.1.data.toList=true:=by simpa using c1
    intro f hf
    rcases List.mem_cons.1 hf with rfl | hf
    ·exact ⟨hn,isN_len hn,by omega⟩
    ·exact ih h f hf
theorem chkE_ok {fs:List Fl} (h:chkE fs=0):fs.length≤16∧∀ f∈fs,isN f.1.data.toList=true∧f.1.size≤32∧f.2.size≤4096:=by
 unfold chkE at h
 by_cases c1 : 16<fs.length
 ·rw [if_pos c1] at h; cases h
 ·rw [if_neg c1] at h
  exact ⟨by omega,chkF_ok h⟩
def basedL (b:Nat):List Fl→List (Nat × Fl)
 | []=>[]
 | f :: fs=>(b,f) :: basedL (b+(64+(words f.2.data.toList).length)) fs
abbrev T1:=ByteArray × Nat
abbrev Tm:=ByteArray × List Nat
def termT (n:ByteArray) (x:List UInt8):ByteArray:=str (term n.data.toList x)
def rawO (x:Nat × Fl):List T1:=((words x.2.2.data.toList).zipIdx x.1).map fun p=>(termT x.2.1 p.1,p.2)
def raw (fs:List Fl):List T1:=(basedL 0 fs).flatMap rawO
theorem basedL_len:∀ (fs:List Fl) (b:Nat),(basedL b fs).length=fs.length
 | [],_=>rfl
 | f :: fs,b=>by simp [basedL,basedL_len fs]
def addT:List Tm→ByteArray→Nat→List Tm
 | [],s,p=>[(s,[p])]
 | x :: l,s,p=>if ltB x.1 s=true then x :: addT l s p else if x.1=s then (s,x.2 ++ [p]) :: l else (s,[p]) :: x :: l
def addAll (L:List T1):List Tm:=L.foldl (fun l x=>addT l x.1 x.2) []
theorem addT_len:∀ (l:List Tm) (s:ByteArray) (p:Nat),(addT l s p).length≤l.length+1
 | [],s,p=>by simp [addT]
 | x :: l,s,p=>by
  have ih:=addT_len l s p
  unfold addT
  by_cases c1:ltB x.1 s=true
  ·rw [if_pos c1]; simp only [List.length_cons]; omega
  ·rw [if_neg c1]
   by_cases c2:x.1=s
   ·rw [if_pos c2]; simp only [List.length_cons]; omega
   ·rw [if_neg c2]; simp only [List.length_cons]; omega
theorem addAll_len (L:List T1):(addAll L).length≤L.length:=by
 have go:∀ (L:List T1) (l:List Tm),(L.foldl (fun l x=>addT l x.1 x.2) l).length≤l.length+L.length:=by
  intro L
  induction L with
  | nil=>intro l; simp
  | cons x L ih =>
   intro l
   have h1:=ih (addT l x.1 x.2)
   have h2:=addT_len l x.1 x.2
   rw [List.foldl_cons,List.length_cons]
   omega
 have:=go L []
 simpa [addAll] using this
theorem addAll_snoc (L:List T1) (x:T1):addAll (L ++ [x])=addT (addAll L) x.1 x.2:=by simp [addAll]
structure IsTm (L:List T1) (l:List Tm):Prop where
 up:l.Pairwise (fun x y=>ltB x.1 y.1=true)
 mem:∀ x:Tm,x∈l↔x.2≠[]∧x.2=(L.filter (fun y=>decide (y.1=x.1))).map (·.2)
theorem addT_up:∀ (l:List Tm) (s:ByteArray) (p:Nat),l.Pairwise (fun x y=>ltB x.1 y.1=true)→(addT l s p).Pairwise (fun x y=>ltB x.1 y.1=true)∧∀ x∈addT l s p,x.1=s∨x∈l
 | [],s,p,_=>⟨by simp [addT],fun x hx=>by simp [addT] at hx; exact .inl (by rw [hx])⟩
 | y :: l,s,p,h=>by
  obtain ⟨h1,h2⟩:=List.pairwise_cons.1 h
  obtain ⟨g1,g2⟩:=addT_up l s p h2
  unfold addT
  by_cases c1:ltB y.1 s=true
  ·rw [if_pos c1]
   refine ⟨List.pairwise_cons.2 ⟨fun x hx=>?_,g1⟩,fun x hx=>?_⟩
   ·rcases g2 x hx with e | e
    ·rw [e]; exact c1
    ·exact h1 x e
   ·rcases List.mem_cons.1 hx with rfl | hx
    ·exact .inr (List.mem_cons_self ..)
    ·rcases g2 x hx with e | e
     ·exact .inl e
     ·exact .inr (List.mem_cons_of_mem _ e)
  ·rw [if_neg c1]
   by_cases c2:y.1=s
   ·rw [if_pos c2]
    refine ⟨List.pairwise_cons.2 ⟨fun x hx=>by rw [← c2]; exact h1 x hx,h2⟩,fun x hx=>?_⟩
    rcases List.mem_cons.1 hx with rfl | hx
    ·exact .inl rfl
    ·exact .inr (List.mem_cons_of_mem _ hx)
   ·rw [if_neg c2]
    have c3:ltB s y.1=true:=by
     rcases ltB_total (by simpa using c1:ltB y.1 s=false) with e | e
     ·exact absurd e c2
     ·exact e
    refine ⟨List.pairwise_cons.2 ⟨fun x hx=>?_,h⟩,fun x hx=>?_⟩
    ·rcases List.mem_cons.1 hx with rfl | hx
     ·exact c3
     ·exact ltB_trans c3 (h1 x hx)
    ·rcases List.mem_cons.1 hx with rfl | hx
     ·exact .inl rfl
     ·exact .inr hx
theorem up_ne {l:List Tm} {y:Tm} (h:∀ x∈l,ltB y.1 x.1=true) {s:ByteArray} (e:ltB y.1 s=false):∀ x∈l,x.1≠s:=fun x hx e2=>by
 have:=h x hx; rw [e2,e] at this; cases this
theorem addT_mem:∀ (l:List Tm) (s:ByteArray) (p:Nat),l.Pairwise (fun x y=>ltB x.1 y.1=true)→∀ x:Tm,x∈addT l s p↔(x∈l∧x.1≠s)∨∃ q,x=(s,q ++ [p])∧((s,q)∈l∨(q=[]∧∀ y∈l,y.1≠s))
 | [],s,p,_,x=>by simp [addT]
 | y :: l,s,p,h,x=>by
  obtain ⟨h1,h2⟩:=List.pairwise_cons.1 h
  have ih:=addT_mem l s p h2 x
  unfold addT
  by_cases c1:ltB y.1 s=true
  ·have hys:y.1≠s:=fun e=>by rw [e,ltB_irrefl] at c1; cases c1
   rw [if_pos c1,List.mem_cons,ih]
   constructor
   ·rintro (rfl | ⟨a,b⟩ | ⟨q,a,b⟩)
    ·exact .inl ⟨List.mem_cons_self ..,hys⟩
    ·exact .inl ⟨List.mem_cons_of_mem _ a,b⟩
    ·refine .inr ⟨q,a,?_⟩
     rcases b with b | ⟨b,c⟩
     ·exact .inl (List.mem_cons_of_mem _ b)
     ·exact .inr ⟨b,fun z hz=>by
       rcases List.mem_cons.1 hz with rfl | hz
       ·exact hys
       ·exact c z hz⟩
   ·rintro (⟨a,b⟩ | ⟨q,a,b⟩)
    ·rcases List.mem_cons.1 a with rfl | a
     ·exact .inl rfl
     ·exact .inr (.inl ⟨a,b⟩)
    ·refine .inr (.inr ⟨q,a,?_⟩)
     rcases b with b | ⟨b,c⟩
     ·rcases List.mem_cons.1 b with rfl | b
      ·exact absurd rfl hys
      ·exact .inl b
     ·exact .inr ⟨b,fun z hz=>c z (List.mem_cons_of_mem _ hz)⟩
  ·have c1':ltB y.1 s=false:=by simpa using c1
   rw [if_neg c1]
   by_cases c2:y.1=s
   ·have hne:=up_ne h1 c1'
    rw [if_pos c2,List.mem_cons]
    constructor
    ·rintro (rfl | a)
     ·exact .inr ⟨y.2,rfl,.inl (by rw [← c2]; exact List.mem_cons_self ..)⟩
     ·exact .inl ⟨List.mem_cons_of_mem _ a,hne x a⟩
    ·rintro (⟨a,b⟩ | ⟨q,a,b⟩)
     ·rcases List.mem_cons.1 a with rfl | a
      ·exact absurd c2 b
      ·exact .inr a
     ·rcases b with b | ⟨b,c⟩
      ·rcases List.mem_cons.1 b with e | b
       ·rw [← e]; exact .inl a
       ·exact absurd rfl (hne _ b)
      ·exact absurd c2 (c y (List.mem_cons_self ..))
   ·have c3:ltB s y.1=true:=by
     rcases ltB_total c1' with e | e
     ·exact absurd e c2
     ·exact e
    have hne:∀ z∈y :: l,z.1≠s:=fun z hz=>by
     rcases List.mem_cons.1 hz with rfl | hz
     ·exact c2
     ·exact up_ne h1 c1' z hz
    rw [if_neg c2,List.mem_cons]
    constructor
    ·rintro (rfl | a)
     ·exact .inr ⟨[],rfl,.inr ⟨rfl,hne⟩⟩
     ·exact .inl ⟨a,hne x a⟩
    ·rintro (⟨a,b⟩ | ⟨q,a,b⟩)
     ·exact .inr a
     ·rcases b with b | ⟨rfl,c⟩
      ·exact absurd rfl (hne _ b)
      ·exact .inl a
theorem IsTm.nil:IsTm [] []:=⟨List.Pairwise.nil,fun x=>⟨fun h=>(nomatch h),fun h=>absurd h.2 h.1⟩⟩
theorem IsTm.add {L:List T1} {l:List Tm} (h:IsTm L l) (s:ByteArray) (p:Nat):IsTm (L ++ [(s,p)]) (addT l s p):=by
 refine ⟨(addT_up l s p h.up).1,fun x=>?_⟩
 rw [addT_mem l s p h.up x,List.filter_append,List.map_append]
 by_cases e:s=x.1
 ·subst e
  have hs:List.filter (fun y:T1=>decide (y.1=x.1)) [(x.1,p)]=[(x.1,p)]:=by simp
  rw [hs]
  constructor
  ·rintro (⟨_,b⟩ | ⟨q,a,b⟩)
   ·exact absurd rfl b
   ·have e2:x.2=q ++ [p]:=by rw [a]
    rw [e2]
    refine ⟨by simp,?_⟩
    rcases b with b | ⟨rfl,b⟩
    ·have:=((h.mem _).1 b).2
     simp only at this
     rw [← this]; rfl
    ·have:(L.filter (fun y=>decide (y.1=x.1))).map (·.2)=[]:=by
      apply Classical.byContradiction
      intro hc
      exact b (x.1,_) ((h.mem (x.1,(L.filter (fun y=>decide (y.1=x.1))).map (·.2))).2 ⟨hc,rfl⟩) rfl
     rw [this]; rfl
  ·rintro ⟨_,a⟩
   refine .inr ⟨(L.filter (fun y=>decide (y.1=x.1))).map (·.2),Prod.ext rfl a,?_⟩
   by_cases hc:(L.filter (fun y=>decide (y.1=x.1))).map (·.2)=[]
   ·refine .inr ⟨hc,fun y hy e=>?_⟩
    have:=(h.mem y).1 hy
    rw [e,hc] at this
    exact this.1 this.2
   ·exact .inl ((h.mem (x.1,_)).2 ⟨hc,rfl⟩)
 ·have hs:List.filter (fun y:T1=>decide (y.1=x.1)) [(s,p)]=[]:=by simp [e]
  rw [hs,List.map_nil,List.append_nil,← h.mem]
  constructor
  ·rintro (⟨a,_⟩ | ⟨q,a,_⟩)
   ·exact a
   ·exact absurd (by rw [a]) e
  ·intro a
   exact .inl ⟨a,fun e2=>e e2.symm⟩
theorem isTm_all:∀ L:List T1,IsTm L (addAll L):=by
 intro L
 have go:∀ (n:Nat) (L:List T1),L.length=n→IsTm L (addAll L):=by
  intro n
  induction n with
  | zero=>intro L h; rw [List.length_eq_zero_iff.1 h]; exact IsTm.nil
  | succ n ih =>
   intro L h
   obtain ⟨M,x,rfl⟩:∃ M x,L=M ++ [x]:=⟨L.dropLast,L.getLast (by intro e; rw [e] at h; cases h),(List.dropLast_concat_getLast _).symm⟩
   rw [addAll_snoc]
   exact (ih M (by simpa using h)).add x.1 x.2
 exact go _ L rfl
theorem mem_one {α:Type} {r : α→α→Prop} (hi:∀ x,¬ r x x) (ht:∀ x y z,r x y→r y z→r x z):∀ {l m:List α},(∀ x,x∈l↔x∈m)→l.Pairwise r→m.Pairwise r→l=m
 | [],[],_,_,_=>rfl
 | [],y :: m,h,_,_=>by have:=(h y).2 (List.mem_cons_self ..); cases this
 | x :: l,[],h,_,_=>by have:=(h x).1 (List.mem_cons_self ..); cases this
 | x :: l,y :: m,h,hl,hm=>by
  obtain ⟨a1,a2⟩:=List.pairwise_cons.1 hl
  obtain ⟨b1,b2⟩:=List.pairwise_cons.1 hm
  have e:x=y:=by
   rcases List.mem_cons.1 ((h x).1 (List.mem_cons_self ..)) with e | h1
   ·exact e
   ·rcases List.mem_cons.1 ((h y).2 (List.mem_cons_self ..)) with e | h2
    ·exact e.symm
    ·exact absurd (ht _ _ _ (a1 y h2) (b1 x h1)) (hi x)
  subst e
  have hne:∀ z∈l,z≠x:=fun z hz e=>hi x (e ▸ a1 z hz)
  have hne2:∀ z∈m,z≠x:=fun z hz e=>hi x (e ▸ b1 z hz)
  rw [mem_one hi ht (fun z=>⟨fun hz=>by
   rcases List.mem_cons.1 ((h z).1 (List.mem_cons_of_mem _ hz)) with e | h1
   ·exact absurd e (hne z hz)
   ·exact h1,fun hz=>by
   rcases List.mem_cons.1 ((h z).2 (List.mem_cons_of_mem _ hz)) with e | h1
   ·exact absurd e (hne2 z hz)
   ·exact h1⟩) a2 b2]
theorem IsTm.one {L M:List T1} {l m:List Tm} (h:IsTm L l) (g:IsTm M m) (e:∀ s,L.filter (fun y=>decide (y.1=s))=M.filter (fun y=>decide (y.1=s))):l=m :=
 mem_one (r:=fun x y=>ltB x.1 y.1=true) (fun x=>by rw [ltB_irrefl]; decide) (fun _ _ _=>ltB_trans) (fun x=>by rw [h.mem,g.mem,e]) h.up g.up
def mrg (l:List Tm) (x:T1):List Tm :=
 match l.getLast? with
 | some y=>if y.1=x.1 then l.dropLast ++ [(y.1,y.2 ++ [x.2])] else l ++ [(x.1,[x.2])]
 | none=>l ++ [(x.1,[x.2])]
theorem addT_last:∀ (l:List Tm) (s:ByteArray) (p:Nat),(∀ y∈l,ltB y.1 s=true)→addT l s p=l ++ [(s,[p])]
 | [],s,p,_=>rfl
 | y :: l,s,p,h=>by
  unfold addT
  rw [if_pos (h y (List.mem_cons_self ..)),addT_last l s p (fun z hz=>h z (List.mem_cons_of_mem _ hz))]
  rfl
theorem addT_mid:∀ (l:List Tm) (y:Tm) (p:Nat),(∀ z∈l,ltB z.1 y.1=true)→addT (l ++ [y]) y.1 p=l ++ [(y.1,y.2 ++ [p])]
 | [],y,p,_=>by
  have:addT [y] y.1 p=[(y.1,y.2 ++ [p])]:=by unfold addT; rw [ltB_irrefl,if_neg (by decide),if_pos rfl]
  exact this
 | z :: l,y,p,h=>by
  rw [List.cons_append]
  unfold addT
  rw [if_pos (h z (List.mem_cons_self ..)),addT_mid l y p (fun u hu=>h u (List.mem_cons_of_mem _ hu))]
  rfl
theorem mrg_add {l:List Tm} {x:T1} (hu:l.Pairwise (fun x y=>ltB x.1 y.1=true)) (hx:∀ y∈l,ltB x.1 y.1=false):mrg l x=addT l x.1 x.2:=by
 unfold mrg
 cases e:l.getLast? with
 | none =>
  rw [List.getLast?_eq_none_iff.1 e]
  rfl
 | some y =>
  obtain ⟨m,rfl⟩:∃ m,l=m ++ [y]:=List.getLast?_eq_some_iff.1 e
  have h1:∀ z∈m,ltB z.1 y.1=true:=fun z hz=>(List.pairwise_append.1 hu).2.2 z hz y (by simp)
  have h2:=hx y (by simp)
  by_cases c:y.1=x.1
  ·simp only [c,if_true]
   rw [← c,addT_mid m y x.2 h1,List.dropLast_concat]
  ·simp only [c,if_false]
   have h3:ltB y.1 x.1=true:=by
    rcases ltB_total h2 with e | e
    ·exact absurd e.symm c
    ·exact e
   rw [addT_last _ _ _ (fun z hz=>?_)]
   rcases List.mem_append.1 hz with hz | hz
   ·exact ltB_trans (h1 z hz) h3
   ·rw [List.mem_singleton.1 hz]; exact h3
theorem mrg_all:∀ (n:Nat) (M:List T1),M.length=n→M.Pairwise (fun x y=>ltB y.1 x.1=false)→M.foldl mrg []=addAll M:=by
 intro n
 induction n with
 | zero=>intro M h _; rw [List.length_eq_zero_iff.1 h]; rfl
 | succ n ih =>
  intro L h hp
  obtain ⟨M,x,rfl⟩:∃ M x,L=M ++ [x]:=⟨L.dropLast,L.getLast (by intro e; rw [e] at h; cases h),(List.dropLast_concat_getLast _).symm⟩
  obtain ⟨p1,p2,p3⟩:=List.pairwise_append.1 hp
  rw [List.foldl_append,ih M (by simpa using h) p1,addAll_snoc]
  have hT:=isTm_all M
  refine mrg_add hT.up (fun y hy=>?_)
  obtain ⟨g1,g2⟩:=(hT.mem y).1 hy
  have:M.filter (fun z=>decide (z.1=y.1))≠[]:=fun e=>g1 (by rw [g2,e]; rfl)
  obtain ⟨z,hz⟩:=List.exists_mem_of_ne_nil _ this
  obtain ⟨hz1,hz2⟩:=List.mem_filter.1 hz
  have:=p3 z hz1 x (by simp)
  rwa [of_decide_eq_true hz2] at this
theorem sorted_terms {L M:List T1} (hp:M.Pairwise (fun x y=>ltB y.1 x.1=false)) (e:∀ s,L.filter (fun y=>decide (y.1=s))=M.filter (fun y=>decide (y.1=s))):M.foldl mrg []=addAll L:=by
 rw [mrg_all _ M rfl hp]
 exact (isTm_all M).one (isTm_all L) (fun s=>(e s).symm)
end Go.Proofs.YtlfpfkallgkjdaaGreat.Ev
end

section
namespace Go.Proofs.YtlfpfkallgkjdaaGreat.Qy
open Go.RowKit Ut
def stands (T:List (List UInt8)) (ws:List ByteArray) (i:Nat):Bool:=((T.drop i).take ws.length) == ws.map (fun s=>s.data.toList)
def phrTo (T:List (List UInt8)) (ws:List ByteArray) (k:Nat):List Nat:=(List.range k).filter (stands T ws)
def phr (T:List (List UInt8)) (ws:List ByteArray):List Nat:=if ws=[] then [] else phrTo T ws T.length
theorem phrTo_succ (T:List (List UInt8)) (ws:List ByteArray) (k:Nat):phrTo T ws (k+1)=phrTo T ws k ++ if stands T ws k then [k] else []:=by
 unfold phrTo
 rw [List.range_succ,List.filter_append]
 by_cases h:stands T ws k <;> simp [h]
theorem phrTo_len (T:List (List UInt8)) (ws:List ByteArray) (k:Nat):(phrTo T ws k).length≤k:=by
 have:=List.length_filter_le (stands T ws) (List.range k)
 rwa [List.length_range] at this
theorem stands_short (T:List (List UInt8)) (ws:List ByteArray) (i:Nat) (h:T.length - i<ws.length):stands T ws i=false:=by
 unfold stands
 rw [beq_eq_false_iff_ne]
 intro e
 have:=congrArg List.length e
 simp at this
 omega
theorem phrTo_short (T:List (List UInt8)) (ws:List ByteArray) (k:Nat) (h:T.length - k<ws.length):∀ j,k≤j→phrTo T ws j=phrTo T ws k:=by
 intro j hj
 induction j with
 | zero =>
  obtain rfl:k=0:=by omega
  rfl
 | succ j ih =>
  by_cases e:k=j+1
  ·rw [e]
  ·rw [phrTo_succ,stands_short T ws j (by omega),if_neg (by decide),List.append_nil]
   exact ih (by omega)
def standsTo (T:List (List UInt8)) (ws:List ByteArray) (i k:Nat):Bool:=((T.drop i).take k) == (ws.take k).map (fun s=>s.data.toList)
theorem standsTo_zero (T:List (List UInt8)) (ws:List ByteArray) (i:Nat):standsTo T ws i 0=true:=by simp [standsTo]
theorem standsTo_all (T:List (List UInt8)) (ws:List ByteArray) (i:Nat):standsTo T ws i ws.length=stands T ws i:=by unfold standsTo stands; rw [List.take_length]
theorem standsTo_succ (T:List (List UInt8)) (ws:List ByteArray) (i k:Nat) (h1:i+k<T.length) (h2:k<ws.length):standsTo T ws i (k+1)=(standsTo T ws i k && (T[i+k] == ws[k].data.toList)):=by
 unfold standsTo
 have e1:(T.drop i).take (k+1)=(T.drop i).take k ++ [T[i+k]]:=by
  rw [List.take_succ_eq_append_getElem (by simp; omega)]
  simp
 have e2:(ws.take (k+1)).map (fun s=>s.data.toList)=(ws.take k).map (fun s=>s.data.toList) ++ [ws[k].data.toList]:=by
  rw [List.take_succ_eq_append_getElem h2,List.map_append]; rfl
 have hl:((T.drop i).take k).length=((ws.take k).map (fun s=>s.data.toList)).length:=by simp; omega
 rw [e1,e2,Bool.eq_iff_iff]
 simp only [beq_iff_eq,Bool.and_eq_true]
 constructor
 ·intro e
  have:=List.append_inj e hl
  exact ⟨this.1,by simpa using this.2⟩
 ·rintro ⟨a,b⟩
  rw [a,b]
theorem standsTo_no (T:List (List UInt8)) (ws:List ByteArray) (i k:Nat) (hk:k≤ws.length) (h:standsTo T ws i k=false):stands T ws i=false:=by
 unfold standsTo stands at *
 rw [beq_eq_false_iff_ne] at *
 intro e
 apply h
 have:=congrArg (List.take k) e
 rw [List.take_take,Nat.min_eq_left hk] at this
 rw [this,List.map_take]
def begins (t:List UInt8) (p:ByteArray):Bool:=p.data.toList.isPrefixOf t
def leafT (k:Int) (ws:List ByteArray) (T:List (List UInt8)):Bool :=
 if k=3 then (match ws with | [p]=>T.any (begins · p) | _=>false)
 else if k=2 then decide (ws.length=1) && decide (0<(phr T ws).length)
 else decide (0<(phr T ws).length)
def leafB (k:Int) (nm:ByteArray) (ws:List ByteArray) (fs:List (ByteArray × ByteArray)):Bool:=fs.any fun f=>f.1.data.toList == nm.data.toList && leafT k ws (Tk.words f.2.data.toList)
mutual
def matchB (fs:List (ByteArray × ByteArray)):Q→Bool
 | .mk k nm ws l=>if k=1 then true else if k=2∨k=3∨k=4 then leafB k nm ws fs else if k=5 then matchAll fs l else if k=6 then matchSome fs l else if k=7 then matchNone fs l else false
def matchAll (fs:List (ByteArray × ByteArray)):List Q→Bool
 | []=>true
 | q :: l=>matchB fs q && matchAll fs l
def matchSome (fs:List (ByteArray × ByteArray)):List Q→Bool
 | []=>false
 | q :: l=>matchB fs q || matchSome fs l
def matchNone (fs:List (ByteArray × ByteArray)):List Q→Bool
 | [q]=>!matchB fs q
 | _=>false
end
theorem matchAll_eq (fs:List (ByteArray × ByteArray)):∀ l,matchAll fs l=l.all (matchB fs)
 | []=>by simp [matchAll]
 | q :: l=>by simp [matchAll,matchAll_eq fs l]
theorem matchSome_eq (fs:List (ByteArray × ByteArray)):∀ l,matchSome fs l=l.any (matchB fs)
 | []=>by simp [matchSome]
 | q :: l=>by simp [matchSome,matchSome_eq fs l]
theorem matchB_eq (fs:List (ByteArray × ByteArray)) (k:Int) (nm:ByteArray) (ws:List ByteArray) (l:List Q) :
  matchB fs (.mk k nm ws l)=if k=1 then true else if k=2∨k=3∨k=4 then leafB k nm ws fs else if k=5 then l.all (matchB fs) else if k=6 then l.any (matchB fs) else if k=7 then matchNone fs l else false:=by
 rw [matchB,matchAll_eq,matchSome_eq]
end Go.Proofs.YtlfpfkallgkjdaaGreat.Qy
end

section
namespace Go.Proofs.YtlfpfkallgkjdaaGreat.Ut
open Go.RowKit
set_option maxHeartbeats 800000 in
theorem runes_ref (s:ByteArray) (w:World) (hs:s.size≤4398046511104) :
  Calls Tryz.prog 135 #[.string s] w fun e w'=>∃ v,e=.returned v∧w'.ownsRow w.heap.size 3 1 v (runes s.data.toList).length (rv (runes s.data.toList))∧Below w.heap.size w w':=by
 obtain ⟨i0,hi0,hz0,hz1,hz2⟩:=info_parts int_info
 go_enter Tryz.func135,Tryz.ntmps135
 go_wp2
 go_loopw [3,4] (fun v i wr=>∃ (k:Nat) (l:List Nat),k≤s.size∧i=.int .i64 k∧l.length≤k∧runes s.data.toList=l ++ runes (s.data.toList.drop k)∧wr.ownsRow w.heap.size 3 1 v l.length (rv l)∧Below w.heap.size w wr)
  (fun _ i _=>s.size - (intOf i).toNat)
 case atStart=>exact ⟨0,[],Nat.zero_le _,rfl,by simp,rfl,World.ownsRow_nil _ _ _ _,Below.refl _ _⟩
 case round =>
  obtain ⟨k,l,hk,rfl,hlk,hru,hown,hb⟩:=hrel
  by_cases hlt:k<s.size
  ·have hne:s.data.toList.drop k≠[]:=by rw [drop_cons s k hlt]; simp
   have hsz:=dec_size _ hne
   rw [List.length_drop,bsize] at hsz
   have hrc:=runes_cons _ hne
   rw [hrc,List.drop_drop] at hru
   have c:=decr_any s (k:Int) wr (by omega)
   rw [decAt_nat] at c
   have Hru:=zh hru
   clear hrc hru hne
   generalize dec (s.data.toList.drop k)=d at *
   have hd1:=hsz.1
   have hd2:=hsz.2.1
   have hd4:=hsz.2.2
   clear hsz
   go_wp2_with fail
   refine c.mono ?_
   rintro e wr ⟨rfl,rfl⟩
   have hbw:=hb
   have hown2:=hown
   have hsz2:=hbw.size
   go_wp2_with (at_builtin; refine wpList_append_own _ rfl _ _ 38 rfl w.heap.size 3 i0 (.int .i64 0) 1 8 Tryz.underlying38 hi0 hz0 hz1 hz2 rfl (by decide) _ _ _ rfl (hown2.alloc _) ⟨wr.heap.size,0,none⟩ 1 1 [.int .i64 (d.1:Int)] rfl rfl ?c1 ?c2 ?c3 ?c4 ?c5 ?_)
   case c1=>exact World.news_of_block (cs:=#[.int .i64 (d.1:Int)]) (t:=3) (fr:=(0,0)) (heap_alloc_new wr _)
   case c2=>intro u hu; simp at hu; subst hu; rfl
   case c3=>unfold maxLen; omega
   case c4=>omega
   case c5=>simp; omega
   intro v' w3 hown3 hg3 _
   have hb3:Below w.heap.size w w3:=(hbw.alloc hsz2 _).grown hg3 (by simp; omega) (fun j hj=>(hown2.lt _ hj).1)
   have Hb3:=zh hb3
   have Hown3:=zh hown3
   clear hb3 hown3 hg3 hown2 hbw hown hb
   go_wp2
   go_roundw
   case rel=>exact ⟨k+d.2,l ++ [d.1],by omega,by go_num,by rw [List.length_append]; simp; omega,by rw [Hru.out]; simp,by
     rw [List.length_append]
     have:=Hown3.out
     simpa [rv] using this,Hb3.out⟩
   case measure=>simp [intOf]; omega
  ·have hd0:s.data.toList.drop k=[]:=drop_out s k (by omega)
   rw [hd0,runes_nil,List.append_nil] at hru
   have Hru:=zh hru
   clear hru hd0
   go_wp2
   go_ret
   exact ⟨_,rfl,by rw [Hru.out]; exact hown,hb⟩
end Go.Proofs.YtlfpfkallgkjdaaGreat.Ut
end

section
namespace Go.Proofs.YtlfpfkallgkjdaaGreat.Ut
open Go.RowKit
set_option maxRecDepth 100000 in
set_option maxHeartbeats 1600000 in
theorem rput_1 (base n:Nat) (v:Value) (xs:List Value) (z:Int) (h0 : 0≤z) (h1:z<128) (w:World) (hown:w.ownsRow base 5 1 v n xs) (hbase:base≤w.heap.size) (hn:n≤140737488000000) :
  Calls Tryz.prog 185 #[v,.int .i64 z] w (PutPost w base n v xs (encN z.toNat)):=by
 obtain ⟨i0,hi0,hz0,hz1,hz2⟩:=info_parts u8_info
 have Hown:=zh hown
 clear hown
 have fin:Hid ([.int .u8 z]=bv (encN z.toNat)∧1=(encN z.toNat).length):=by
  show _∧_
  obtain ⟨r,rfl⟩:=Int.eq_ofNat_of_zero_le (show 0≤z by omega)
  rw [Int.toNat_natCast]
  unfold encN
  rw [if_pos (by omega)]
  simp only [bv,List.map_cons,List.map_nil,List.length_cons,List.length_nil,and_true,Nat.zero_add,List.cons.injEq,Value.int.injEq,true_and]
  rw [B_int _ (by omega)]
 go_enter Tryz.func185,Tryz.ntmps185
 go_wp2_with (refine wpList_append_own (o:=⟨some 29,_,_,_,_,_⟩) _ rfl _ _ 205 rfl base 5 i0 (.int .u8 0) 1 1 Tryz.underlying205 hi0 hz0 hz1 hz2 rfl (by decide) v n xs rfl (Hown.out.alloc _) ⟨w.heap.size,0,none⟩ 1 1 [.int .u8 z] rfl rfl (World.news_of_block (cs:=[.int .u8 z].toArray) (t:=5) (fr:=(0,0)) (heap_alloc_new w _)) (by simp [Value.oneCell']) (by unfold maxLen; omega) (by omega) (by simp; omega) ?_; intro v' w3 hown3 hg3 _)
 go_ret
 exact put_end Hown.out hown3 hg3 fin.out
set_option maxRecDepth 100000 in
set_option maxHeartbeats 1600000 in
theorem rput_2 (base n:Nat) (v:Value) (xs:List Value) (z:Int) (h0 : 128≤z) (h1:z<2048) (w:World) (hown:w.ownsRow base 5 1 v n xs) (hbase:base≤w.heap.size) (hn:n≤140737488000000) :
  Calls Tryz.prog 185 #[v,.int .i64 z] w (PutPost w base n v xs (encN z.toNat)):=by
 obtain ⟨i0,hi0,hz0,hz1,hz2⟩:=info_parts u8_info
 have Hown:=zh hown
 clear hown
 have fin:Hid ([.int .u8 (192+z / 64),.int .u8 (128+z % 64)]=bv (encN z.toNat)∧2=(encN z.toNat).length):=by
  show _∧_
  obtain ⟨r,rfl⟩:=Int.eq_ofNat_of_zero_le (show 0≤z by omega)
  rw [Int.toNat_natCast]
  unfold encN
  rw [if_neg (by omega),if_pos (by omega)]
  simp only [bv,List.map_cons,List.map_nil,List.length_cons,List.length_nil,and_true,Nat.zero_add,List.cons.injEq,Value.int.injEq,true_and]
  refine ⟨by rw [B_int _ (by omega)]; omega,by rw [B_int _ (by omega)]; omega⟩
 go_enter Tryz.func185,Tryz.ntmps185
 go_wp2_with (refine wpList_append_own (o:=⟨some 43,_,_,_,_,_⟩) _ rfl _ _ 205 rfl base 5 i0 (.int .u8 0) 1 1 Tryz.underlying205 hi0 hz0 hz1 hz2 rfl (by decide) v n xs rfl (Hown.out.alloc _) ⟨w.heap.size,0,none⟩ 2 2 [.int .u8 (192+z / 64),.int .u8 (128+z % 64)] rfl rfl (World.news_of_block (cs:=[.int .u8 (192+z / 64),.int .u8 (128+z % 64)].toArray) (t:=5) (fr:=(0,0)) (heap_alloc_new w _)) (by simp [Value.oneCell']) (by unfold maxLen; omega) (by omega) (by simp; omega) ?_; intro v' w3 hown3 hg3 _)
 go_ret
 exact put_end Hown.out hown3 hg3 fin.out
set_option maxRecDepth 100000 in
set_option maxHeartbeats 1600000 in
theorem rput_3 (base n:Nat) (v:Value) (xs:List Value) (z:Int) (h0 : 2048≤z) (h1:z≤65535) (h2:z<55296∨57343<z) (w:World) (hown:w.ownsRow base 5 1 v n xs) (hbase:base≤w.heap.size) (hn:n≤140737488000000) :
  Calls Tryz.prog 185 #[v,.int .i64 z] w (PutPost w base n v xs (encN z.toNat)):=by
 obtain ⟨i0,hi0,hz0,hz1,hz2⟩:=info_parts u8_info
 have Hown:=zh hown
 clear hown
 have fin:Hid ([.int .u8 (224+z / 4096),.int .u8 (128+z / 64 % 64),.int .u8 (128+z % 64)]=bv (encN z.toNat)∧3=(encN z.toNat).length):=by
  show _∧_
  obtain ⟨r,rfl⟩:=Int.eq_ofNat_of_zero_le (show 0≤z by omega)
  rw [Int.toNat_natCast]
  unfold encN
  rw [if_neg (by omega),if_neg (by omega),if_pos (by omega)]
  simp only [bv,List.map_cons,List.map_nil,List.length_cons,List.length_nil,and_true,Nat.zero_add,List.cons.injEq,Value.int.injEq,true_and]
  refine ⟨by rw [B_int _ (by omega)]; omega,by rw [B_int _ (by omega)]; omega,by rw [B_int _ (by omega)]; omega⟩
 rcases h2 with h2 | h2
 ·go_enter Tryz.func185,Tryz.ntmps185
  go_wp2_with (refine wpList_append_own (o:=⟨some 62,_,_,_,_,_⟩) _ rfl _ _ 205 rfl base 5 i0 (.int .u8 0) 1 1 Tryz.underlying205 hi0 hz0 hz1 hz2 rfl (by decide) v n xs rfl (Hown.out.alloc _) ⟨w.heap.size,0,none⟩ 3 3 [.int .u8 (224+z / 4096),.int .u8 (128+z / 64 % 64),.int .u8 (128+z % 64)] rfl rfl (World.news_of_block (cs:=[.int .u8 (224+z / 4096),.int .u8 (128+z / 64 % 64),.int .u8 (128+z % 64)].toArray) (t:=5) (fr:=(0,0)) (heap_alloc_new w _)) (by simp [Value.oneCell']) (by unfold maxLen; omega) (by omega) (by simp; omega) ?_; intro v' w3 hown3 hg3 _)
  go_ret
  exact put_end Hown.out hown3 hg3 fin.out
 ·go_enter Tryz.func185,Tryz.ntmps185
  go_wp2_with (refine wpList_append_own (o:=⟨some 62,_,_,_,_,_⟩) _ rfl _ _ 205 rfl base 5 i0 (.int .u8 0) 1 1 Tryz.underlying205 hi0 hz0 hz1 hz2 rfl (by decide) v n xs rfl (Hown.out.alloc _) ⟨w.heap.size,0,none⟩ 3 3 [.int .u8 (224+z / 4096),.int .u8 (128+z / 64 % 64),.int .u8 (128+z % 64)] rfl rfl (World.news_of_block (cs:=[.int .u8 (224+z / 4096),.int .u8 (128+z / 64 % 64),.int .u8 (128+z % 64)].toArray) (t:=5) (fr:=(0,0)) (heap_alloc_new w _)) (by simp [Value.oneCell']) (by unfold maxLen; omega) (by omega) (by simp; omega) ?_; intro v' w3 hown3 hg3 _)
  go_ret
  exact put_end Hown.out hown3 hg3 fin.out
set_option maxRecDepth 100000 in
set_option maxHeartbeats 1600000 in
theorem rput_4 (base n:Nat) (v:Value) (xs:List Value) (z:Int) (h0 : 65535<z) (h1:z≤1114111) (w:World) (hown:w.ownsRow base 5 1 v n xs) (hbase:base≤w.heap.size) (hn:n≤140737488000000) :
  Calls Tryz.prog 185 #[v,.int .i64 z] w (PutPost w base n v xs (encN z.toNat)):=by
 obtain ⟨i0,hi0,hz0,hz1,hz2⟩:=info_parts u8_info
 have Hown:=zh hown
 clear hown
 have fin:Hid ([.int .u8 (240+z / 262144),.int .u8 (128+z / 4096 % 64),.int .u8 (128+z / 64 % 64),.int .u8 (128+z % 64)]=bv (encN z.toNat)∧4=(encN z.toNat).length):=by
  show _∧_
  obtain ⟨r,rfl⟩:=Int.eq_ofNat_of_zero_le (show 0≤z by omega)
  rw [Int.toNat_natCast]
  unfold encN
  rw [if_neg (by omega),if_neg (by omega),if_neg (by omega)]
  simp only [bv,List.map_cons,List.map_nil,List.length_cons,List.length_nil,and_true,Nat.zero_add,List.cons.injEq,Value.int.injEq,true_and]
  refine ⟨by rw [B_int _ (by omega)]; omega,by rw [B_int _ (by omega)]; omega,by rw [B_int _ (by omega)]; omega,by rw [B_int _ (by omega)]; omega⟩
 go_enter Tryz.func185,Tryz.ntmps185
 go_wp2_with (refine wpList_append_own (o:=⟨some 83,_,_,_,_,_⟩) _ rfl _ _ 205 rfl base 5 i0 (.int .u8 0) 1 1 Tryz.underlying205 hi0 hz0 hz1 hz2 rfl (by decide) v n xs rfl (Hown.out.alloc _) ⟨w.heap.size,0,none⟩ 4 4 [.int .u8 (240+z / 262144),.int .u8 (128+z / 4096 % 64),.int .u8 (128+z / 64 % 64),.int .u8 (128+z % 64)] rfl rfl (World.news_of_block (cs:=[.int .u8 (240+z / 262144),.int .u8 (128+z / 4096 % 64),.int .u8 (128+z / 64 % 64),.int .u8 (128+z % 64)].toArray) (t:=5) (fr:=(0,0)) (heap_alloc_new w _)) (by simp [Value.oneCell']) (by unfold maxLen; omega) (by omega) (by simp; omega) ?_; intro v' w3 hown3 hg3 _)
 go_ret
 exact put_end Hown.out hown3 hg3 fin.out
set_option maxRecDepth 100000 in
set_option maxHeartbeats 1600000 in
theorem rput_bad (base n:Nat) (v:Value) (xs:List Value) (z:Int) (hbad:z<0∨1114111<z∨(55296≤z∧z≤57343)) (w:World) (hown:w.ownsRow base 5 1 v n xs) (hbase:base≤w.heap.size) (hn:n≤140737488000000) :
  Calls Tryz.prog 185 #[v,.int .i64 z] w (PutPost w base n v xs (encN 65533)):=by
 have c:=rput_3 base n v xs 65533 (by omega) (by omega) (by omega) w hown hbase hn
 rw [show (65533:Int).toNat=65533 from rfl] at c
 clear hown
 rcases hbad with h | h | ⟨h,h'⟩
 ·go_enter Tryz.func185,Tryz.ntmps185
  go_wp2_with fail
  refine c.mono ?_
  rintro e w3 ⟨v',rfl,ho,hg⟩
  go_wp2
  go_ret
  exact ⟨v',rfl,ho,hg⟩
 ·go_enter Tryz.func185,Tryz.ntmps185
  go_wp2_with fail
  refine c.mono ?_
  rintro e w3 ⟨v',rfl,ho,hg⟩
  go_wp2
  go_ret
  exact ⟨v',rfl,ho,hg⟩
 ·go_enter Tryz.func185,Tryz.ntmps185
  go_wp2_with fail
  refine c.mono ?_
  rintro e w3 ⟨v',rfl,ho,hg⟩
  go_wp2
  go_ret
  exact ⟨v',rfl,ho,hg⟩
theorem rput_any (base n:Nat) (v:Value) (xs:List Value) (z:Int) (w:World) (hown:w.ownsRow base 5 1 v n xs) (hbase:base≤w.heap.size) (hn:n≤140737488000000) :
  Calls Tryz.prog 185 #[v,.int .i64 z] w (PutPost w base n v xs (enc z)):=by
 unfold enc fix
 by_cases hb:z<0∨1114111<z∨(55296≤z∧z≤57343)
 ·rw [if_pos hb]; exact rput_bad base n v xs z hb w hown hbase hn
 ·rw [if_neg hb]
  by_cases h1:z<128
  ·exact rput_1 base n v xs z (by omega) h1 w hown hbase hn
  ·by_cases h2:z<2048
   ·exact rput_2 base n v xs z (by omega) h2 w hown hbase hn
   ·by_cases h3:z≤65535
    ·exact rput_3 base n v xs z (by omega) h3 (by omega) w hown hbase hn
    ·exact rput_4 base n v xs z (by omega) (by omega) w hown hbase hn
end Go.Proofs.YtlfpfkallgkjdaaGreat.Ut
end

section
namespace Go.Proofs.YtlfpfkallgkjdaaGreat.Ut
open Go.RowKit
set_option maxHeartbeats 800000 in
theorem encode_ref (A:Option Addr) (n c:Nat) (rs:List Int) (w:World) (hR:Reads w w.heap.size 1 A n (rs.map (Value.int .i64))) (hn:n≤35000000000000) :
  Calls Tryz.prog 169 #[.slice A n c] w fun e w'=>e=.returned (.string (str (encode rs)))∧Below w.heap.size w w':=by
 have hlen:rs.length=n:=by have:=hR.1; simpa using this
 have HR:=zh hR
 have Hl:=zh hlen
 have St:=zh (Putting.start w)
 clear hR hlen
 go_enter Tryz.func169,Tryz.ntmps169
 go_wp2
 go_loopw [3,4] (fun v i wr=>∃ k:Nat,k≤n∧i=.int .i64 k∧Putting w wr v (rs.take k)) (fun _ i _=>n - (intOf i).toNat)
 case atStart=>exact ⟨0,Nat.zero_le _,rfl,St.out⟩
 case round =>
  obtain ⟨k,hk,rfl,hp⟩:=hrel
  have hel:=encode_len (rs.take k)
  have htl:(rs.take k).length≤n:=by rw [List.length_take]; omega
  by_cases hlt:k<n
  ·obtain ⟨ab,ao,hkl,rfl,hab,hcw⟩:=HR.out.at_map hlt
   have hcx:=(hp.bel.cell (p:=⟨ab,ao+k,none⟩) hab).trans hcw
   have hts:rs.take (k+1)=rs.take k ++ [rs[k]]:=by rw [List.take_succ_eq_append_getElem hkl]
   have Hts:=zh hts
   have c1:=rput_any w.heap.size _ u3 _ rs[k] wr hp.own hp.bel.size (by omega)
   have Hp:=zh hp
   clear hts hcw hp
   generalize rs[k]=r at *
   go_wp2_with fail
   refine c1.mono ?_
   rintro e w2 ⟨v',rfl,hown2,hg2⟩
   have Hp2:=zh (Hp.out.put hown2 hg2)
   clear hown2 hg2
   go_wp2
   go_roundw
   case rel=>exact ⟨k+1,by omega,by go_num,by rw [Hts.out]; exact Hp2.out⟩
   case measure=>simp [intOf]; omega
  ·have hall:rs.take k=rs:=List.take_of_length_le (by rw [Hl.out]; omega)
   have hcv:=conv_own (P:=Tryz.prog) (tb:=205) (ts:=9) hp.own Tryz.underlying205 Tryz.underlying5 Tryz.underlying9
   have Hall:=zh hall
   have Hb:=zh hp.bel
   clear hall hp hel htl
   go_wp2
   go_ret
   exact ⟨by rw [Hall.out]; rfl,Hb.out⟩
end Go.Proofs.YtlfpfkallgkjdaaGreat.Ut
end

section
namespace Go.Proofs.YtlfpfkallgkjdaaGreat.Ss
open Go.Shelf Go.RowKit Go.Lib Go.Sort
variable {α:Type} [Inhabited α] {enc : α→List Value} {cf : α→α→Int} {tag : α→Nat}
set_option maxHeartbeats 4000000 in
set_option maxRecDepth 1000000 in
theorem stable_any (hW:SWO (ltOf cf)) (k:Nat) (hk2:k=2) (g:Nat) (cb:Array Value) (blk off cap:Nat) (d:Array α) (w0 w:World) (eg:∀ args w,(callFunc g args).run Tryz.prog w=.ok (.enter g args) w) (hC:CmpLays Tryz.prog g cb enc k cf blk off d.size w0)
  (R:RowK enc k w0 blk off d) (S:SWK enc k w0 blk off d w) (hsz:d.size<1099511627776) (hT:∀ x y,x<y→y<d.size→tag d[x]!<tag d[y]!) :
  Calls Tryz.prog 111 #[.slice (some ⟨blk,off,none⟩) d.size cap,.int .i64 d.size,.func (.func g) #[] cb] w (MPost enc cf tag k w0 blk off d 0 d.size):=by
 have S0:Aside (SWK enc k w0 blk off d w):=S
 have HC:Aside _:=hC
 have HK:=zh hk2
 have HPI:Hid (Pi cf tag d d 20 d.size 0):=zh (Pi.start (zG _) hT)
 obtain ⟨n,hn⟩:∃ n,d.size=n:=⟨_,rfl⟩
 have N1:n≤d.size:=by omega
 have N2:d.size≤n:=by omega
 have HN:=zh hn
 rw [hn]
 rw [hn] at HPI
 have ins:=fun (a b:Nat) (dk:Array α) (w:World) (hs:dk.size=d.size) (S:SWK enc k w0 blk off dk w) (hab:a≤b) (hb:b≤dk.size) (hT:∀ x y,a≤x→x<y→y<b→tag dk[x]!<tag dk[y]!)=>insertion_any hW k hk2 g cb blk off cap a b d dk w0 w eg hC R hs S hab hb (by omega) hT
 have sym:=fun (a m b:Nat) (dk:Array α) (w:World) (h1:a<m) (h2:m<b) (I:MIn enc cf tag k w0 blk off d dk a m b w)=>sym_any hW k hk2 g cb blk off cap d w0 eg hC R hsz (b - a) a m b dk w (zG _) h1 h2 I
 have INS:=zh ins
 have SYM:=zh sym
 clear S hk2 hC hT ins sym hn
 go_enter Tryz.func111,Tryz.ntmps111
 go_wp2
 go_loopw [7,8] (fun v7 v8 wr=>∃ (c a b:Nat) (dk:Array α),a≤n∧b≤a+20∧a+20≤b∧v7=.int .i64 (a:Nat)∧v8=.int .i64 (b:Nat)∧Hid (a=c * 20)∧Aside (SWK enc k w0 blk off dk wr)∧Hid (Pi cf tag d dk 20 n c)) (fun _ v8 _=>n+20 - (intOf v8).toNat)
 case atStart=>exact ⟨0,0,20,d,by omega,by omega,by omega,rfl,rfl,zh (by omega),S0,HPI⟩
 case round =>
  clear S0 HPI
  obtain ⟨c,a,b,dk,ha,hb1,hb2,rfl,rfl,HA,S1,HP⟩:=hrel
  have hdk:Hid (dk.size=d.size):=zh HP.out.hs
  by_cases hlt:b≤n
  ·have c1:=INS.out a b dk wr hdk.out S1.out (by omega) (by have:=hdk.out; omega) (fun x y h1 h2 h3=>HP.out.tags HA.out h1 h2 (by omega))
   rw [hdk.out,HN.out] at c1
   have C1:=zh c1
   clear c1 S1
   go_wp2_with fail
   refine C1.out.mono ?_
   rintro ev w2 ⟨rfl,d',S2,h1,h2,h3⟩
   have S3:Aside (SWK enc k w0 blk off d' w2):=S2
   have P3:Hid (Pi cf tag d d' 20 n (c+1)):=zh (by
    obtain rfl:b=a+20:=by omega
    exact HP.out.next HA.out hlt h2 h3)
   clear C1 S2 h1 h2 h3 HP hdk
   go_wp2
   go_roundw
   case rel=>exact ⟨c+1,b,b+20,d',by omega,by omega,by omega,rfl,by go_num,zh (by have:=HA.out; omega),S3,P3⟩
   case measure=>simp [intOf]; omega
  ·have hbn:¬ (b:Int)≤(n:Int):=by omega
   have c1:=INS.out a n dk wr hdk.out S1.out (by omega) (by have:=hdk.out; omega) (fun x y h1 h2 h3=>HP.out.tags HA.out h1 h2 (by omega))
   rw [hdk.out,HN.out] at c1
   have C1:=zh c1
   clear c1 S1
   go_wp2_with fail
   refine C1.out.mono ?_
   rintro ev w2 ⟨rfl,d',S2,h1,h2,h3⟩
   have S3:Aside (SWK enc k w0 blk off d' w2):=S2
   have P3:Hid (d'.size=d.size∧PermIn 0 n d d'∧Tgb tag d' 20 n∧Sb cf tag d' 20 n):=zh (HP.out.last HA.out (by omega) ha h2 h3)
   clear C1 S2 h1 h2 h3 HP hdk HA
   go_wp2
   go_loopw [6] (fun v6 wr=>∃ (B:Nat) (dB:Array α),0<B∧B≤2 * n+20∧v6=.int .i64 (B:Nat)∧Aside (SWK enc k w0 blk off dB wr)∧Hid (dB.size=d.size∧PermIn 0 n d dB∧Tgb tag dB B n∧Sb cf tag dB B n)) (fun v6 _=>n - (intOf v6).toNat)
   case atStart=>exact ⟨20,d',by omega,by omega,rfl,S3,P3⟩
   case round =>
    clear S3 P3
    obtain ⟨B,dB,hB0,hB,rfl,S1,HB⟩:=hrel
    by_cases hBn:B<n
    ·have HP0:Hid (Ph cf tag d dB dB B n 0):=zh (Ph.start HB.out.1 (by omega) HB.out.2.1 HB.out.2.2.1 HB.out.2.2.2)
     clear HB
     go_wp2
     go_loopw [7,8] (fun v7 v8 wr=>∃ (c a b:Nat) (dk:Array α),a≤n∧b≤a+2 * B∧a+2 * B≤b∧v7=.int .i64 (a:Nat)∧v8=.int .i64 (b:Nat)∧Hid (a=c * (2 * B))∧Aside (SWK enc k w0 blk off dk wr)∧Hid (Ph cf tag d dB dk B n c)) (fun _ v8 _=>n+2 * B - (intOf v8).toNat)
     case atStart=>exact ⟨0,0,2 * B,dB,by omega,by omega,by omega,rfl,by go_num,zh (by omega),S1,HP0⟩
     case round =>
      clear S1 HP0
      obtain ⟨c,a,b,dk,ha,hb1,hb2,rfl,rfl,HA,S1,HP⟩:=hrel
      have hdk:Hid (dk.size=d.size):=zh HP.out.hs
      obtain ⟨m,hm⟩:∃ m,m=a+B:=⟨_,rfl⟩
      have m1:m≤a+B:=by omega
      have m2:a+B≤m:=by omega
      have hmz:(a:Int)+(B:Int)=(m:Int):=by omega
      by_cases hlt:b≤n
      ·have W:=HP.out.wants (a:=a) (b:=b) HA.out (by omega) (by omega)
       rw [← hm] at W
       have c1:=SYM.out a m b dk wr (by omega) (by omega) ⟨hdk.out,S1.out,by have:=hdk.out; omega,W.1,W.2.1,W.2.2⟩
       rw [hdk.out,HN.out] at c1
       have C1:=zh c1
       clear c1 S1 W
       have HM:=zh hm
       clear hm
       go_wp2_with fail
       refine C1.out.mono ?_
       rintro ev w2 ⟨rfl,d',S2,h1,h2,h3⟩
       have S3:Aside (SWK enc k w0 blk off d' w2):=S2
       have P3:Hid (Ph cf tag d dB d' B n (c+1)):=zh (by
        obtain rfl:b=a+2 * B:=by omega
        exact HP.out.next HA.out hlt h2 h3)
       clear C1 S2 h1 h2 h3 HP hdk hmz
       go_wp2
       go_roundw
       case rel=>exact ⟨c+1,b,b+2 * B,d',by omega,by omega,by omega,rfl,by go_num,zh (by rw [blk_b,← HA.out]; omega),S3,P3⟩
       case measure=>simp [intOf]; omega
      ·have hbn:¬ (b:Int)≤(n:Int):=by omega
       by_cases hmn:m<n
       ·have W:=HP.out.wants (a:=a) (b:=n) HA.out (by omega) (by omega)
        rw [← hm] at W
        have c1:=SYM.out a m n dk wr (by omega) (by omega) ⟨hdk.out,S1.out,by have:=hdk.out; omega,W.1,W.2.1,W.2.2⟩
        rw [hdk.out,HN.out] at c1
        have C1:=zh c1
        clear c1 S1 W
        have HM:=zh hm
        clear hm
        go_wp2_with fail
        refine C1.out.mono ?_
        rintro ev w2 ⟨rfl,d',S2,h1,h2,h3⟩
        have S3:Aside (SWK enc k w0 blk off d' w2):=S2
        have P3:Hid (d'.size=d.size∧PermIn 0 n d d'∧Tgb tag d' (2 * B) n∧Sb cf tag d' (2 * B) n):=zh (HP.out.last HA.out (by omega) (by omega) h2 h3)
        clear C1 S2 h1 h2 h3 HP hdk hmz
        go_wp2
        go_roundw
        case rel=>exact ⟨2 * B,d',by omega,by omega,by go_num,S3,P3⟩
        case measure=>simp [intOf]; omega
       ·have hmn':¬ (m:Int)<(n:Int):=by omega
        have P3:Hid (dk.size=d.size∧PermIn 0 n d dk∧Tgb tag dk (2 * B) n∧Sb cf tag dk (2 * B) n):=zh (HP.out.done HA.out (by omega))
        have HM:=zh hm
        clear HP hdk hm
        go_wp2
        go_roundw
        case rel=>exact ⟨2 * B,dk,by omega,by omega,by go_num,S1,P3⟩
        case measure=>simp [intOf]; omega
    ·have hBn':¬ (B:Int)<(n:Int):=by omega
     have Fin:Hid (dB.size=d.size∧PermIn 0 n d dB∧Srt cf tag dB 0 n):=zh ⟨HB.out.1,HB.out.2.1,HB.out.2.2.2.whole (by omega)⟩
     clear HB
     go_wp2
     go_end0
     exact ⟨rfl,dB,S1.out,Fin.out⟩
set_option maxHeartbeats 4000000 in
set_option maxRecDepth 1000000 in
theorem sortStable_any (hW:SWO (ltOf cf)) (k:Nat) (hk2:k=2) (g:Nat) (cb:Array Value) (blk off cap:Nat) (d:Array α) (w:World) (eg:∀ args w,(callFunc g args).run Tryz.prog w=.ok (.enter g args) w) (hC:CmpLays Tryz.prog g cb enc k cf blk off d.size w)
  (R:RowK enc k w blk off d) (S:SWK enc k w blk off d w) (hsz:d.size<1099511627776) (hT:∀ x y,x<y→y<d.size→tag d[x]!<tag d[y]!) :
  Calls Tryz.prog 74 #[.slice (some ⟨blk,off,none⟩) d.size cap,.func (.func g) #[] cb] w (MPost enc cf tag k w blk off d 0 d.size):=by
 have C:=zh (stable_any hW k hk2 g cb blk off cap d w w eg hC R S hsz hT)
 clear hW hk2 hC S hT R eg
 go_enter Tryz.func74,Tryz.ntmps74
 go_wp2_with fail
 refine C.out.mono ?_
 rintro ev w2 ⟨rfl,H⟩
 have F:=zh H
 clear H C
 go_wp2
 go_end0
 exact ⟨rfl,F.out⟩
end Go.Proofs.YtlfpfkallgkjdaaGreat.Ss
end
