/- Events: which may be, how great, their terms: plain. (No program in sight.) -/
import Derived.Deep.DeepCutAuto
import Derived.Outline
import Derived.Deep.QuietTactic
import Derived.BigQuiet
import Derived.Test.YtlfpfkallgkjdaaGreatQAlertBatchesRow1
import Derived.Test.YtlfpfkallgkjdaaGreatQAlertBatchesRow9
import Derived.Test.YtlfpfkallgkjdaaGreatQAlertBatchesRow0
import Derived.Test.YtlfpfkallgkjdaaGreatQAlertBatchesRow11
import Derived.Test.YtlfpfkallgkjdaaGreatQAlertBatchesRow12
set_option linter.unusedSimpArgs false
set_option linter.unusedVariables false
set_option maxRecDepth 20000
section
namespace Go.Proofs.YtlfpfkallgkjdaaGreat.Ev
open Go.RowKit Ut Tk
abbrev Fl:=ByteArray × ByteArray
abbrev Evn:=Int × List Fl
theorem bl_irrefl:∀ x:List UInt8,Op.bytesLess x x=false
 | []=>by simp [Op.bytesLess]
 | a :: x=>by simp [Op.bytesLess,bl_irrefl x]
theorem bl_trans:∀ x y z:List UInt8,Op.bytesLess x y=true→Op.bytesLess y z=true→Op.bytesLess x z=true
 | [],[],_,h,_=>by simp [Op.bytesLess] at h
 | [],b :: y,[],_,h=>by simp [Op.bytesLess] at h
 | [],b :: y,c :: z,_,_=>by simp [Op.bytesLess]
 | a :: x,[],_,h,_=>by simp [Op.bytesLess] at h
 | a :: x,b :: y,[],_,h=>by simp [Op.bytesLess] at h
 | a :: x,b :: y,c :: z,h1,h2=>by
  simp only [Op.bytesLess,Bool.or_eq_true,Bool.and_eq_true,decide_eq_true_eq,beq_iff_eq] at h1 h2 ⊢
  rcases h1 with h1 | ⟨rfl,h1⟩
  ·rcases h2 with h2 | ⟨rfl,h2⟩
   ·exact .inl (UInt8.lt_trans h1 h2)
   ·exact .inl h1
  ·rcases h2 with h2 | ⟨rfl,h2⟩
   ·exact .inl h2
   ·exact .inr ⟨rfl,bl_trans x y z h1 h2⟩
theorem bl_total:∀ x y:List UInt8,Op.bytesLess x y=true∨x=y∨Op.bytesLess y x=true
 | [],[]=>.inr (.inl rfl)
 | [],b :: y=>.inl (by simp [Op.bytesLess])
 | a :: x,[]=>.inr (.inr (by simp [Op.bytesLess]))
 | a :: x,b :: y=>by
  simp only [Op.bytesLess,Bool.or_eq_true,Bool.and_eq_true,decide_eq_true_eq,beq_iff_eq,List.cons.injEq]
  rcases UInt8.lt_or_lt_of_ne (a:=a) (b:=b) |> fun f=>Classical.em (a=b) |>.elim (fun e=>Or.inr e) (fun e=>Or.inl (f e)) with h | rfl
  ·rcases h with h | h
   ·exact .inl (.inl h)
   ·exact .inr (.inr (.inl h))
  ·rcases bl_total x y with h | rfl | h
   ·exact .inl (.inr ⟨rfl,h⟩)
   ·exact .inr (.inl ⟨rfl,rfl⟩)
   ·exact .inr (.inr (.inr ⟨rfl,h⟩))
theorem bl_cons (x y:UInt8) (a b:List UInt8) (h:x≠y):Op.bytesLess (x :: a) (y :: b)=decide (x.toNat<y.toNat):=by
 have h2:(x == y)=false:=by simpa using h
 simp only [Op.bytesLess,h2,Bool.false_and,Bool.or_false]
 rfl
theorem bl_same (x:UInt8) (a b:List UInt8):Op.bytesLess (x :: a) (x :: b)=Op.bytesLess a b:=by
 simp [Op.bytesLess]
def ltB (a b:ByteArray):Bool:=Op.bytesLess a.toList b.toList
theorem ltB_trans {a b c:ByteArray} (h1:ltB a b=true) (h2:ltB b c=true):ltB a c=true:=bl_trans _ _ _ h1 h2
theorem ltB_irrefl (a:ByteArray):ltB a a=false:=bl_irrefl _
theorem toList_inj {a b:ByteArray} (h:a.toList=b.toList):a=b:=by
 have h2:a.data.toList=b.data.toList:=by rw [← ByteArray.toList_eq,← ByteArray.toList_eq]; exact h
 have h3:a.data=b.data:=Array.toList_inj.1 h2
 cases a; cases b; simp at h3; rw [h3]
theorem ltB_total {a b:ByteArray} (h:ltB a b=false):a=b∨ltB b a=true:=by
 rcases bl_total a.toList b.toList with g | g | g
 ·unfold ltB at h; rw [h] at g; cases g
 ·exact .inl (toList_inj g)
 ·exact .inr g
theorem ltB_asymm {a b:ByteArray} (h:ltB a b=true):ltB b a=false:=by
 cases hb:ltB b a
 ·rfl
 ·have:=ltB_trans h hb; rw [ltB_irrefl] at this; cases this
def chkF:List Fl→Int
 | []=>0
 | f :: fs=>if isN f.1.data.toList=false then 100 else if 4096<f.2.size then 2 else chkF fs
def chkE (fs:List Fl):Int:=if 16<fs.length then 3 else chkF fs
def szF:List Fl→Nat
 | []=>0
 | f :: fs=>(f.1.size+f.2.size)+szF fs
def szE (fs:List Fl):Nat:=16+szF fs
theorem szF_snoc (fs:List Fl) (f:Fl):szF (fs ++ [f])=szF fs+(f.1.size+f.2.size):=by
 induction fs with
 | nil=>simp [szF]
 | cons g fs ih=>simp only [List.cons_append,szF,ih]; omega
theorem isN_len {s:ByteArray} (h:isN s.data.toList=true):s.size≤32:=by
 unfold isN at h
 simp only [Bool.and_eq_true,decide_eq_true_eq] at h
 rw [bsize] at h
 exact h.1.2
theorem chkF_ok {fs:List Fl} (h:chkF fs=0):∀ f∈fs,isN f.1.data.toList=true∧f.1.size≤32∧f.2.size≤4096:=by
 induction fs with
 | nil=>intro f hf; cases hf
 | cons g fs ih =>
  unfold chkF at h
  by_cases c1:isN g.1.data.toList=false
  ·rw [if_pos c1] at h; cases h
  ·rw [if_neg c1] at h
   by_cases c2 : 4096<g.2.size
   ·rw [if_pos c2] at h; cases h
   ·rw [if_neg c2] at h
    have hn:isN g.1.data.toList=true:=by simpa using c1
    intro f hf
    rcases List.mem_cons.1 hf with rfl | hf
    ·exact ⟨hn,isN_len hn,by omega⟩
    ·exact ih h f hf
theorem chkE_ok {fs:List Fl} (h:chkE fs=0):fs.length≤16∧∀ f∈fs,isN f.1.data.toList=true∧f.1.size≤32∧f.2.size≤4096:=by
 unfold chkE at h
 by_cases c1 : 16<fs.length
 ·rw [if_pos c1] at h; cases h
 ·rw [if_neg c1] at h
  exact ⟨by omega,chkF_ok h⟩
theorem szF_le {fs:List Fl} (h:∀ f∈fs,f.1.size≤32∧f.2.size≤4096):szF fs≤fs.length * 4128:=by
 induction fs with
 | nil=>exact zG _
 | cons g fs ih =>
  have h1:=h g (List.mem_cons_self ..)
  have h2:=ih (fun f hf=>h f (List.mem_cons_of_mem _ hf))
  simp only [szF,List.length_cons]
  omega
theorem szE_le {fs:List Fl} (h:chkE fs=0):szE fs≤70000:=by
 have h1:=chkE_ok h
 have h2:=szF_le (fun f hf=>(h1.2 f hf).2)
 unfold szE
 omega
theorem szF_take (fs:List Fl):∀ k,szF (fs.take k)≤szF fs:=by
 induction fs with
 | nil=>intro k; simp [szF]
 | cons g fs ih =>
  intro k
  cases k with
  | zero=>simp [szF]
  | succ k=>have:=ih k; simp only [List.take_succ_cons,szF]; omega
def fstE:List Evn→Int
 | []=>0
 | e :: l=>if chkE e.2=0 then fstE l else chkE e.2
def szL:List Evn→Nat
 | []=>0
 | e :: l=>szE e.2+szL l
theorem szL_snoc (l:List Evn) (e:Evn):szL (l ++ [e])=szL l+szE e.2:=by
 induction l with
 | nil=>simp [szL]
 | cons g l ih=>simp only [List.cons_append,szL,ih]; omega
theorem szL_le {l:List Evn} (h:∀ e∈l,chkE e.2=0):szL l≤l.length * 70000:=by
 induction l with
 | nil=>exact zG _
 | cons g l ih =>
  have h1:=szE_le (h g (List.mem_cons_self ..))
  have h2:=ih (fun f hf=>h f (List.mem_cons_of_mem _ hf))
  simp only [szL,List.length_cons]
  omega
theorem fstE_ok {l:List Evn} (h:∀ e∈l,chkE e.2=0):fstE l=0:=by
 induction l with
 | nil=>rfl
 | cons g l ih =>
  unfold fstE
  rw [if_pos (h g (List.mem_cons_self ..))]
  exact ih (fun f hf=>h f (List.mem_cons_of_mem _ hf))
theorem fstE_all {l:List Evn} (h:fstE l=0):∀ e∈l,chkE e.2=0:=by
 induction l with
 | nil=>intro e he; cases he
 | cons g l ih =>
  unfold fstE at h
  by_cases c:chkE g.2=0
  ·rw [if_pos c] at h
   intro e he
   rcases List.mem_cons.1 he with rfl | he
   ·exact c
   ·exact ih h e he
  ·rw [if_neg c] at h; exact absurd h c
theorem fstE_at {l:List Evn}:∀ {k:Nat} (hk:k<l.length),(∀ e∈l.take k,chkE e.2=0)→chkE l[k].2≠0→fstE l=chkE l[k].2:=by
 induction l with
 | nil=>intro k hk; exact absurd hk (by simp)
 | cons g l ih =>
  intro k hk h hne
  unfold fstE
  cases k with
  | zero =>
   have hne2:chkE g.2≠0:=hne
   rw [if_neg hne2]; rfl
  | succ k =>
   have h1:=h g (by simp)
   rw [if_pos h1]
   exact ih (by simpa using hk) (fun e he=>h e (by simp [he])) hne
def chkB (seq:Int) (l:List Evn):Int :=
 if l=[] then 1 else if 64<l.length then 3 else if fstE l=0 then (if 65536<szL l then 2 else if seq<1∨1099511627776 - (l.length:Int)+1<seq then 5 else 0) else fstE l
theorem chkB_ok {seq:Int} {l:List Evn} (h:chkB seq l=0):l≠[]∧l.length≤64∧(∀ e∈l,chkE e.2=0)∧szL l≤65536∧1≤seq∧seq≤1099511627776 - (l.length:Int)+1:=by
 unfold chkB at h
 by_cases c1:l=[]
 ·rw [if_pos c1] at h; cases h
 rw [if_neg c1] at h
 by_cases c2 : 64<l.length
 ·rw [if_pos c2] at h; cases h
 rw [if_neg c2] at h
 by_cases c3:fstE l=0
 ·rw [if_pos c3] at h
  by_cases c4 : 65536<szL l
  ·rw [if_pos c4] at h; cases h
  rw [if_neg c4] at h
  by_cases c5:seq<1∨1099511627776 - (l.length:Int)+1<seq
  ·rw [if_pos c5] at h; cases h
  ·exact ⟨c1,by omega,fstE_all c3,by omega,by omega,by omega⟩
 ·rw [if_neg c3] at h; exact absurd h c3
def basedL (b:Nat):List Fl→List (Nat × Fl)
 | []=>[]
 | f :: fs=>(b,f) :: basedL (b+(64+(words f.2.data.toList).length)) fs
abbrev T1:=ByteArray × Nat
abbrev Tm:=ByteArray × List Nat
def termT (n:ByteArray) (x:List UInt8):ByteArray:=str (term n.data.toList x)
def rawO (x:Nat × Fl):List T1:=((words x.2.2.data.toList).zipIdx x.1).map fun p=>(termT x.2.1 p.1,p.2)
def raw (fs:List Fl):List T1:=(basedL 0 fs).flatMap rawO
theorem basedL_len:∀ (fs:List Fl) (b:Nat),(basedL b fs).length=fs.length
 | [],_=>rfl
 | f :: fs,b=>by simp [basedL,basedL_len fs]
def addT:List Tm→ByteArray→Nat→List Tm
 | [],s,p=>[(s,[p])]
 | x :: l,s,p=>if ltB x.1 s=true then x :: addT l s p else if x.1=s then (s,x.2 ++ [p]) :: l else (s,[p]) :: x :: l
def addAll (L:List T1):List Tm:=L.foldl (fun l x=>addT l x.1 x.2) []
theorem addT_len:∀ (l:List Tm) (s:ByteArray) (p:Nat),(addT l s p).length≤l.length+1
 | [],s,p=>by simp [addT]
 | x :: l,s,p=>by
  have ih:=addT_len l s p
  unfold addT
  by_cases c1:ltB x.1 s=true
  ·rw [if_pos c1]; simp only [List.length_cons]; omega
  ·rw [if_neg c1]
   by_cases c2:x.1=s
   ·rw [if_pos c2]; simp only [List.length_cons]; omega
   ·rw [if_neg c2]; simp only [List.length_cons]; omega
theorem addAll_len (L:List T1):(addAll L).length≤L.length:=by
 have go:∀ (L:List T1) (l:List Tm),(L.foldl (fun l x=>addT l x.1 x.2) l).length≤l.length+L.length:=by
  intro L
  induction L with
  | nil=>intro l; simp
  | cons x L ih =>
   intro l
   have h1:=ih (addT l x.1 x.2)
   have h2:=addT_len l x.1 x.2
   rw [List.foldl_cons,List.length_cons]
   omega
 have:=go L []
 simpa [addAll] using this
theorem addAll_snoc (L:List T1) (x:T1):addAll (L ++ [x])=addT (addAll L) x.1 x.2:=by simp [addAll]
structure IsTm (L:List T1) (l:List Tm):Prop where
 up:l.Pairwise (fun x y=>ltB x.1 y.1=true)
 mem:∀ x:Tm,x∈l↔x.2≠[]∧x.2=(L.filter (fun y=>decide (y.1=x.1))).map (·.2)
theorem addT_up:∀ (l:List Tm) (s:ByteArray) (p:Nat),l.Pairwise (fun x y=>ltB x.1 y.1=true)→(addT l s p).Pairwise (fun x y=>ltB x.1 y.1=true)∧∀ x∈addT l s p,x.1=s∨x∈l
 | [],s,p,_=>⟨by simp [addT],fun x hx=>by simp [addT] at hx; exact .inl (by rw [hx])⟩
 | y :: l,s,p,h=>by
  obtain ⟨h1,h2⟩:=List.pairwise_cons.1 h
  obtain ⟨g1,g2⟩:=addT_up l s p h2
  unfold addT
  by_cases c1:ltB y.1 s=true
  ·rw [if_pos c1]
   refine ⟨List.pairwise_cons.2 ⟨fun x hx=>?_,g1⟩,fun x hx=>?_⟩
   ·rcases g2 x hx with e | e
    ·rw [e]; exact c1
    ·exact h1 x e
   ·rcases List.mem_cons.1 hx with rfl | hx
    ·exact .inr (List.mem_cons_self ..)
    ·rcases g2 x hx with e | e
     ·exact .inl e
     ·exact .inr (List.mem_cons_of_mem _ e)
  ·rw [if_neg c1]
   by_cases c2:y.1=s
   ·rw [if_pos c2]
    refine ⟨List.pairwise_cons.2 ⟨fun x hx=>by rw [← c2]; exact h1 x hx,h2⟩,fun x hx=>?_⟩
    rcases List.mem_cons.1 hx with rfl | hx
    ·exact .inl rfl
    ·exact .inr (List.mem_cons_of_mem _ hx)
   ·rw [if_neg c2]
    have c3:ltB s y.1=true:=by
     rcases ltB_total (by simpa using c1:ltB y.1 s=false) with e | e
     ·exact absurd e c2
     ·exact e
    refine ⟨List.pairwise_cons.2 ⟨fun x hx=>?_,h⟩,fun x hx=>?_⟩
    ·rcases List.mem_cons.1 hx with rfl | hx
     ·exact c3
     ·exact ltB_trans c3 (h1 x hx)
    ·rcases List.mem_cons.1 hx with rfl | hx
     ·exact .inl rfl
     ·exact .inr hx
theorem up_ne {l:List Tm} {y:Tm} (h:∀ x∈l,ltB y.1 x.1=true) {s:ByteArray} (e:ltB y.1 s=false):∀ x∈l,x.1≠s:=fun x hx e2=>by
 have:=h x hx; rw [e2,e] at this; cases this
theorem addT_mem:∀ (l:List Tm) (s:ByteArray) (p:Nat),l.Pairwise (fun x y=>ltB x.1 y.1=true)→∀ x:Tm,x∈addT l s p↔(x∈l∧x.1≠s)∨∃ q,x=(s,q ++ [p])∧((s,q)∈l∨(q=[]∧∀ y∈l,y.1≠s))
 | [],s,p,_,x=>by simp [addT]
 | y :: l,s,p,h,x=>by
  obtain ⟨h1,h2⟩:=List.pairwise_cons.1 h
  have ih:=addT_mem l s p h2 x
  unfold addT
  by_cases c1:ltB y.1 s=true
  ·have hys:y.1≠s:=fun e=>by rw [e,ltB_irrefl] at c1; cases c1
   rw [if_pos c1,List.mem_cons,ih]
   constructor
   ·rintro (rfl | ⟨a,b⟩ | ⟨q,a,b⟩)
    ·exact .inl ⟨List.mem_cons_self ..,hys⟩
    ·exact .inl ⟨List.mem_cons_of_mem _ a,b⟩
    ·refine .inr ⟨q,a,?_⟩
     rcases b with b | ⟨b,c⟩
     ·exact .inl (List.mem_cons_of_mem _ b)
     ·exact .inr ⟨b,fun z hz=>by
       rcases List.mem_cons.1 hz with rfl | hz
       ·exact hys
       ·exact c z hz⟩
   ·rintro (⟨a,b⟩ | ⟨q,a,b⟩)
    ·rcases List.mem_cons.1 a with rfl | a
     ·exact .inl rfl
     ·exact .inr (.inl ⟨a,b⟩)
    ·refine .inr (.inr ⟨q,a,?_⟩)
     rcases b with b | ⟨b,c⟩
     ·rcases List.mem_cons.1 b with rfl | b
      ·exact absurd rfl hys
      ·exact .inl b
     ·exact .inr ⟨b,fun z hz=>c z (List.mem_cons_of_mem _ hz)⟩
  ·have c1':ltB y.1 s=false:=by simpa using c1
   rw [if_neg c1]
   by_cases c2:y.1=s
   ·have hne:=up_ne h1 c1'
    rw [if_pos c2,List.mem_cons]
    constructor
    ·rintro (rfl | a)
     ·exact .inr ⟨y.2,rfl,.inl (by rw [← c2]; exact List.mem_cons_self ..)⟩
     ·exact .inl ⟨List.mem_cons_of_mem _ a,hne x a⟩
    ·rintro (⟨a,b⟩ | ⟨q,a,b⟩)
     ·rcases List.mem_cons.1 a with rfl | a
      ·exact absurd c2 b
      ·exact .inr a
     ·rcases b with b | ⟨b,c⟩
      ·rcases List.mem_cons.1 b with e | b
       ·rw [← e]; exact .inl a
       ·exact absurd rfl (hne _ b)
      ·exact absurd c2 (c y (List.mem_cons_self ..))
   ·have c3:ltB s y.1=true:=by
     rcases ltB_total c1' with e | e
     ·exact absurd e c2
     ·exact e
    have hne:∀ z∈y :: l,z.1≠s:=fun z hz=>by
     rcases List.mem_cons.1 hz with rfl | hz
     ·exact c2
     ·exact up_ne h1 c1' z hz
    rw [if_neg c2,List.mem_cons]
    constructor
    ·rintro (rfl | a)
     ·exact .inr ⟨[],rfl,.inr ⟨rfl,hne⟩⟩
     ·exact .inl ⟨a,hne x a⟩
    ·rintro (⟨a,b⟩ | ⟨q,a,b⟩)
     ·exact .inr a
     ·rcases b with b | ⟨rfl,c⟩
      ·exact absurd rfl (hne _ b)
      ·exact .inl a
theorem IsTm.nil:IsTm [] []:=⟨List.Pairwise.nil,fun x=>⟨fun h=>(nomatch h),fun h=>absurd h.2 h.1⟩⟩
theorem IsTm.add {L:List T1} {l:List Tm} (h:IsTm L l) (s:ByteArray) (p:Nat):IsTm (L ++ [(s,p)]) (addT l s p):=by
 refine ⟨(addT_up l s p h.up).1,fun x=>?_⟩
 rw [addT_mem l s p h.up x,List.filter_append,List.map_append]
 by_cases e:s=x.1
 ·subst e
  have hs:List.filter (fun y:T1=>decide (y.1=x.1)) [(x.1,p)]=[(x.1,p)]:=by simp
  rw [hs]
  constructor
  ·rintro (⟨_,b⟩ | ⟨q,a,b⟩)
   ·exact absurd rfl b
   ·have e2:x.2=q ++ [p]:=by rw [a]
    rw [e2]
    refine ⟨by simp,?_⟩
    rcases b with b | ⟨rfl,b⟩
    ·have:=((h.mem _).1 b).2
     simp only at this
     rw [← this]; rfl
    ·have:(L.filter (fun y=>decide (y.1=x.1))).map (·.2)=[]:=by
      apply Classical.byContradiction
      intro hc
      exact b (x.1,_) ((h.mem (x.1,(L.filter (fun y=>decide (y.1=x.1))).map (·.2))).2 ⟨hc,rfl⟩) rfl
     rw [this]; rfl
  ·rintro ⟨_,a⟩
   refine .inr ⟨(L.filter (fun y=>decide (y.1=x.1))).map (·.2),Prod.ext rfl a,?_⟩
   by_cases hc:(L.filter (fun y=>decide (y.1=x.1))).map (·.2)=[]
   ·refine .inr ⟨hc,fun y hy e=>?_⟩
    have:=(h.mem y).1 hy
    rw [e,hc] at this
    exact this.1 this.2
   ·exact .inl ((h.mem (x.1,_)).2 ⟨hc,rfl⟩)
 ·have hs:List.filter (fun y:T1=>decide (y.1=x.1)) [(s,p)]=[]:=by simp [e]
  rw [hs,List.map_nil,List.append_nil,← h.mem]
  constructor
  ·rintro (⟨a,_⟩ | ⟨q,a,_⟩)
   ·exact a
   ·exact absurd (by rw [a]) e
  ·intro a
   exact .inl ⟨a,fun e2=>e e2.symm⟩
theorem isTm_all:∀ L:List T1,IsTm L (addAll L):=by
 intro L
 have go:∀ (n:Nat) (L:List T1),L.length=n→IsTm L (addAll L):=by
  intro n
  induction n with
  | zero=>intro L h; rw [List.length_eq_zero_iff.1 h]; exact IsTm.nil
  | succ n ih =>
   intro L h
   obtain ⟨M,x,rfl⟩:∃ M x,L=M ++ [x]:=⟨L.dropLast,L.getLast (by intro e; rw [e] at h; cases h),(List.dropLast_concat_getLast _).symm⟩
   rw [addAll_snoc]
   exact (ih M (by simpa using h)).add x.1 x.2
 exact go _ L rfl
theorem mem_one {α:Type} {r : α→α→Prop} (hi:∀ x,¬ r x x) (ht:∀ x y z,r x y→r y z→r x z):∀ {l m:List α},(∀ x,x∈l↔x∈m)→l.Pairwise r→m.Pairwise r→l=m
 | [],[],_,_,_=>rfl
 | [],y :: m,h,_,_=>by have:=(h y).2 (List.mem_cons_self ..); cases this
 | x :: l,[],h,_,_=>by have:=(h x).1 (List.mem_cons_self ..); cases this
 | x :: l,y :: m,h,hl,hm=>by
  obtain ⟨a1,a2⟩:=List.pairwise_cons.1 hl
  obtain ⟨b1,b2⟩:=List.pairwise_cons.1 hm
  have e:x=y:=by
   rcases List.mem_cons.1 ((h x).1 (List.mem_cons_self ..)) with e | h1
   ·exact e
   ·rcases List.mem_cons.1 ((h y).2 (List.mem_cons_self ..)) with e | h2
    ·exact e.symm
    ·exact absurd (ht _ _ _ (a1 y h2) (b1 x h1)) (hi x)
  subst e
  have hne:∀ z∈l,z≠x:=fun z hz e=>hi x (e ▸ a1 z hz)
  have hne2:∀ z∈m,z≠x:=fun z hz e=>hi x (e ▸ b1 z hz)
  rw [mem_one hi ht (fun z=>⟨fun hz=>by
   rcases List.mem_cons.1 ((h z).1 (List.mem_cons_of_mem _ hz)) with e | h1
   ·exact absurd e (hne z hz)
   ·exact h1,fun hz=>by
   rcases List.mem_cons.1 ((h z).2 (List.mem_cons_of_mem _ hz)) with e | h1
   ·exact absurd e (hne2 z hz)
   ·exact h1⟩) a2 b2]
theorem IsTm.one {L M:List T1} {l m:List Tm} (h:IsTm L l) (g:IsTm M m) (e:∀ s,L.filter (fun y=>decide (y.1=s))=M.filter (fun y=>decide (y.1=s))):l=m :=
 mem_one (r:=fun x y=>ltB x.1 y.1=true) (fun x=>by rw [ltB_irrefl]; decide) (fun _ _ _=>ltB_trans) (fun x=>by rw [h.mem,g.mem,e]) h.up g.up
def mrg (l:List Tm) (x:T1):List Tm :=
 match l.getLast? with
 | some y=>if y.1=x.1 then l.dropLast ++ [(y.1,y.2 ++ [x.2])] else l ++ [(x.1,[x.2])]
 | none=>l ++ [(x.1,[x.2])]
theorem addT_last:∀ (l:List Tm) (s:ByteArray) (p:Nat),(∀ y∈l,ltB y.1 s=true)→addT l s p=l ++ [(s,[p])]
 | [],s,p,_=>rfl
 | y :: l,s,p,h=>by
  unfold addT
  rw [if_pos (h y (List.mem_cons_self ..)),addT_last l s p (fun z hz=>h z (List.mem_cons_of_mem _ hz))]
  rfl
theorem addT_mid:∀ (l:List Tm) (y:Tm) (p:Nat),(∀ z∈l,ltB z.1 y.1=true)→addT (l ++ [y]) y.1 p=l ++ [(y.1,y.2 ++ [p])]
 | [],y,p,_=>by
  have:addT [y] y.1 p=[(y.1,y.2 ++ [p])]:=by unfold addT; rw [ltB_irrefl,if_neg (by decide),if_pos rfl]
  exact this
 | z :: l,y,p,h=>by
  rw [List.cons_append]
  unfold addT
  rw [if_pos (h z (List.mem_cons_self ..)),addT_mid l y p (fun u hu=>h u (List.mem_cons_of_mem _ hu))]
  rfl
theorem mrg_add {l:List Tm} {x:T1} (hu:l.Pairwise (fun x y=>ltB x.1 y.1=true)) (hx:∀ y∈l,ltB x.1 y.1=false):mrg l x=addT l x.1 x.2:=by
 unfold mrg
 cases e:l.getLast? with
 | none =>
  rw [List.getLast?_eq_none_iff.1 e]
  rfl
 | some y =>
  obtain ⟨m,rfl⟩:∃ m,l=m ++ [y]:=List.getLast?_eq_some_iff.1 e
  have h1:∀ z∈m,ltB z.1 y.1=true:=fun z hz=>(List.pairwise_append.1 hu).2.2 z hz y (by simp)
  have h2:=hx y (by simp)
  by_cases c:y.1=x.1
  ·simp only [c,if_true]
   rw [← c,addT_mid m y x.2 h1,List.dropLast_concat]
  ·simp only [c,if_false]
   have h3:ltB y.1 x.1=true:=by
    rcases ltB_total h2 with e | e
    ·exact absurd e.symm c
    ·exact e
   rw [addT_last _ _ _ (fun z hz=>?_)]
   rcases List.mem_append.1 hz with hz | hz
   ·exact ltB_trans (h1 z hz) h3
   ·rw [List.mem_singleton.1 hz]; exact h3
theorem mrg_all:∀ (n:Nat) (M:List T1),M.length=n→M.Pairwise (fun x y=>ltB y.1 x.1=false)→M.foldl mrg []=addAll M:=by
 intro n
 induction n with
 | zero=>intro M h _; rw [List.length_eq_zero_iff.1 h]; rfl
 | succ n ih =>
  intro L h hp
  obtain ⟨M,x,rfl⟩:∃ M x,L=M ++ [x]:=⟨L.dropLast,L.getLast (by intro e; rw [e] at h; cases h),(List.dropLast_concat_getLast _).symm⟩
  obtain ⟨p1,p2,p3⟩:=List.pairwise_append.1 hp
  rw [List.foldl_append,ih M (by simpa using h) p1,addAll_snoc]
  have hT:=isTm_all M
  refine mrg_add hT.up (fun y hy=>?_)
  obtain ⟨g1,g2⟩:=(hT.mem y).1 hy
  have:M.filter (fun z=>decide (z.1=y.1))≠[]:=fun e=>g1 (by rw [g2,e]; rfl)
  obtain ⟨z,hz⟩:=List.exists_mem_of_ne_nil _ this
  obtain ⟨hz1,hz2⟩:=List.mem_filter.1 hz
  have:=p3 z hz1 x (by simp)
  rwa [of_decide_eq_true hz2] at this
theorem sorted_terms {L M:List T1} (hp:M.Pairwise (fun x y=>ltB y.1 x.1=false)) (e:∀ s,L.filter (fun y=>decide (y.1=s))=M.filter (fun y=>decide (y.1=s))):M.foldl mrg []=addAll L:=by
 rw [mrg_all _ M rfl hp]
 exact (isTm_all M).one (isTm_all L) (fun s=>(e s).symm)
end Go.Proofs.YtlfpfkallgkjdaaGreat.Ev
end

section
namespace Go.Proofs.YtlfpfkallgkjdaaGreat.Qy
open Go.RowKit Ut Tk
def nv (l:List Nat):List Value:=l.map fun n:Nat=>Value.int .i64 (n:Int)
theorem nv_snoc (l:List Nat) (n:Nat):nv (l ++ [n])=nv l ++ [.int .i64 (n:Int)]:=by simp [nv]
structure Ints (w wr:World) (v:Value) (l:List Nat):Prop where
 own:wr.ownsRow w.heap.size 3 1 v l.length (nv l)
 bel:Below w.heap.size w wr
theorem Ints.below {w wr w2:World} {v:Value} {l:List Nat} (h:Ints w wr v l) (hb:Below wr.heap.size wr w2):Ints w w2 v l :=
 ⟨h.own.kept (grow_of_below hb none) (by cases hv:v.ownBlock <;> simp),h.bel.trans (hb.mono h.bel.size)⟩
theorem Ints.put {w wr w2:World} {v v':Value} {l:List Nat} {n:Nat} (h:Ints w wr v l) (hp:w2.ownsRow w.heap.size 3 1 v' (l.length+1) (nv l ++ [.int .i64 (n:Int)])) (hg:wr.grownBy w2 v.ownBlock):Ints w w2 v' (l ++ [n]):=by
 refine ⟨?_,h.bel.grown hg h.bel.size (fun k hk=>(h.own.lt k hk).1)⟩
 rw [nv_snoc,List.length_append]
 exact hp
theorem Ints.start (w:World):Ints w w (.slice none 0 0) []:=⟨World.ownsRow_nil _ _ _ _,Below.refl _ _⟩
def IntPost (w:World) (l:List Nat) (e:Ending) (w':World):Prop:=∃ v,e=.returned v∧Ints w w' v l
set_option maxHeartbeats 400000 in
theorem behind_any (k j:Nat) (h:k+j<4611686018427387904) (w:World):Calls Tryz.prog 159 #[.int .i64 (k:Int),.int .i64 ((k+j:Nat):Int),.int .i64 (j:Int)] w fun e w'=>e=.returned (.bool true)∧w=w':=by
 have h1:(k:Int)≤((k+j:Nat):Int):=by omega
 have h0:(0:Int)≤(k:Int):=by omega
 have h2:(0:Int)≤(j:Int):=by omega
 have h3:((k+j:Nat):Int) - (k:Int)=(j:Int):=by omega
 have h4:((k+j:Nat):Int)<4611686018427387904:=by omega
 have h5:(j:Int)<4611686018427387904:=by omega
 have h6:(k:Int)<4611686018427387904:=by omega
 generalize ((k+j:Nat):Int)=a at *
 generalize (k:Int)=b at *
 generalize (j:Int)=c at *
 go_enter Tryz.func159,Tryz.ntmps159
 go_wp2
 go_ret
 exact ⟨by simp,rfl⟩
set_option maxHeartbeats 1600000 in
theorem phrase_any (TA:Option Addr) (n tc:Nat) (T:List (List UInt8)) (WA:Option Addr) (m wc:Nat) (ws:List ByteArray) (w:World) (hT:Reads w w.heap.size 2 TA n (tokC (placed T))) (hn:T.length=n) (hn2:n≤1048576)
  (hW:Reads w w.heap.size 1 WA m (ws.map Value.string)) (hm:ws.length=m) (hm2:m≤8796093021952) :
  Calls Tryz.prog 125 #[.slice TA n tc,.slice WA m wc] w (IntPost w (phr T ws)):=by
 obtain ⟨i0,hi0,hz0,hz1,hz2⟩:=info_parts int_info2
 have HT:=zh hT
 have HW:=zh hW
 clear hT hW
 by_cases h0:m=0
 ·have hws:ws=[]:=List.length_eq_zero_iff.1 (by omega)
  have Fin:Hid (phr T ws=[]):=zh (by unfold phr; rw [if_pos hws])
  have h0':((m:Int) == 0)=true:=by rw [beq_iff_eq]; omega
  clear h0 hws hm
  go_enter Tryz.func125,Tryz.ntmps125
  go_wp2_with fail
  go_step3
  go_wp2
  rw [Exit.noGoto_ret]
  go_ret
  exact ⟨_,rfl,by rw [Fin.out]; exact Ints.start w⟩
 ·have hws:ws≠[]:=fun e=>h0 (by rw [← hm,e]; rfl)
  have Fin:Hid (phr T ws=phrTo T ws n):=zh (by unfold phr; rw [if_neg hws,hn])
  have h0':((m:Int) == 0)=false:=by rw [beq_eq_false_iff_ne]; omega
  have Hn:=zh hn
  have Hm:=zh hm
  clear h0 hws hm hn
  go_enter Tryz.func125,Tryz.ntmps125
  go_wp2_with fail
  go_step3
  go_wp2_with fail
  go_step3
  go_wp2_with fail
  go_loopw [5,16] (fun v i wr=>∃ k:Nat,k≤n∧i=.int .i64 k∧Ints w wr v (phrTo T ws k)) (fun _ i _=>n - (intOf i).toNat)
  case atStart=>exact ⟨0,Nat.zero_le _,rfl,Ints.start w⟩
  case round =>
   obtain ⟨k,hk,rfl,hI⟩:=hrel
   by_cases hlt:k<n
   ·obtain ⟨tb,tq,rfl,htb,hc1,hc2⟩:=toks_at HT.out Hn.out (k:=k) (by rw [Hn.out]; exact hlt)
    have hd1:=(hI.bel.cell (p:=⟨tb,tq+k * 2,none⟩) htb).trans hc1
    have hd2:=(hI.bel.cell (p:=⟨tb,tq+k * 2+1,none⟩) htb).trans hc2
    have HI:=zh hI
    have hz:=hI.bel.size
    have hpl:=phrTo_len T ws k
    clear hI hc1 hc2
    by_cases hs:n - k<m
    ·have hs':(n:Int) - (k:Int)<(m:Int):=by omega
     have Fin2:Hid (phrTo T ws n=phrTo T ws k):=zh (phrTo_short T ws k (by rw [Hn.out,Hm.out]; exact hs) n (by omega))
     have HI2:=zh (HI.out.below ((Below.refl _ _).alloc (zG _) (.cells #[.string (str (T[k]'(by rw [Hn.out]; exact hlt))),.int .i64 (k:Int)] 154)))
     generalize (str (T[k]'(by rw [Hn.out]; exact hlt)))=tk at *
     clear hs
     go_wp2
     rw [Exit.noGoto_ret]
     go_ret
     exact ⟨_,rfl,by rw [Fin.out,Fin2.out]; exact HI2.out⟩
    ·have hs':(m:Int)≤(n:Int) - (k:Int):=by omega
     have HB7:=zh ((Blk.new wr 154 #[.string (str (T[k]'(by rw [Hn.out]; exact hlt))),.int .i64 (k:Int)]))
     generalize (str (T[k]'(by rw [Hn.out]; exact hlt)))=tk at *
     obtain ⟨wo,rfl⟩:∃ wo:World,wo=wr:=⟨_,rfl⟩
     have hmn:m≤n - k:=by omega
     clear hs
     go_wp2_with fail
     go_loopw [30] (fun i wq=>∃ j:Nat,j≤m∧i=.int .i64 j∧standsTo T ws k j=true∧Below (wo.alloc (.cells #[.string tk,.int .i64 (k:Int)] 154)).heap.size (wo.alloc (.cells #[.string tk,.int .i64 (k:Int)] 154)) wq) (fun i _=>m - (intOf i).toNat)
     case atStart=>exact ⟨0,Nat.zero_le _,rfl,standsTo_zero _ _ _,Below.refl _ _⟩
     case round =>
      obtain ⟨j,hj,rfl,hst,hbq⟩:=hrel
      have HIq:=zh ((HI.out.below ((Below.refl _ _).alloc (zG _) (.cells #[.string tk,.int .i64 (k:Int)] 154))).below hbq)
      have h7:=HB7.out.below hbq (by simp)
      have h7a:=h7.cell 0
      have h7b:=h7.cell 1
      simp at h7a h7b
      have Hbq:=zh hbq
      have Hst:=zh hst
      have hzq:=hbq.size
      simp at hzq
      clear h7 hbq hst
      by_cases hjm:j<m
      ·obtain ⟨xb,xo,e1,hxb,hx1,hx2⟩:=toks_at HT.out Hn.out (k:=k+j) (by rw [Hn.out]; omega)
       injection e1 with e1
       injection e1 with e1 e2
       subst e1 e2
       obtain ⟨ab,ao,hkl,rfl,hab,hcw⟩:=HW.out.at_map hjm
       have hbw:=HIq.out.bel
       have hy1:=(hbw.cell (p:=⟨tb,tq+(k+j) * 2,none⟩) htb).trans hx1
       have hy2:=(hbw.cell (p:=⟨tb,tq+(k+j) * 2+1,none⟩) htb).trans hx2
       have hyw:=(hbw.cell (p:=⟨ab,ao+j,none⟩) hab).trans hcw
       have hss:=standsTo_succ T ws k j (by rw [Hn.out]; omega) (by rw [Hm.out]; omega)
       have hbe:=str_beq (T[k+j]'(by rw [Hn.out]; omega)) ws[j]
       rw [Hst.out,Bool.true_and,← hbe] at hss
       have Hss:=zh hss
       have hi0:(0:Int)≤(k:Int)+(j:Int):=by omega
       have hi1:(k:Int)+(j:Int)<(n:Int):=by omega
       have hi2:((k:Int)+(j:Int)).toNat=k+j:=by omega
       have Hno:Hid (standsTo T ws k (j+1)=false→phrTo T ws (k+1)=phrTo T ws k):=zh (fun e=>by
        rw [phrTo_succ,standsTo_no T ws k (j+1) (by rw [Hm.out]; omega) e]; simp)
       clear hbw hx1 hx2 hcw hss hbe
       generalize (str (T[k+j]'(by rw [Hn.out]; omega)))=x at *
       generalize ws[j]=y at *
       by_cases hxy:(x.toList == y.toList)=true
       ·have hxy':(x.toList != y.toList)=false:=by rw [bne,hxy]; rfl
        have Hs2:Hid (standsTo T ws k (j+1)=true):=zh (by rw [Hss.out,hxy])
        have c1:=fun wx=>behind_any k j (by omega) wx
        have h7c:=fun o=>(World.cell?_alloc_lt wr o ⟨wo.heap.size,1,none⟩ (by show wo.heap.size < _; omega)).trans h7b
        have hbx:=Hbq.out.alloc Hbq.out.size (.cells #[.string x,.int .i64 ((k+j:Nat):Int)] 154)
        have Hbx:=zh hbx
        have C1:=zh c1
        clear hbx c1
        have e1:((k+j:Nat):Int)=(k:Int)+(j:Int):=by omega
        rw [e1] at C1
        have E1:=zh e1
        clear e1
        go_wp2_with (go_at_call 159; refine (C1.out _).mono ?_; rintro e w' ⟨rfl,rfl⟩)
        go_roundw
        case rel=>exact ⟨j+1,by omega,by go_num,Hs2.out,Hbx.out⟩
        case measure=>simp [intOf]; omega
       ·have hxy':(x.toList != y.toList)=true:=by rw [bne,Bool.eq_false_iff.2 hxy]; rfl
        have Hs2:=zh (Hno.out (by rw [Hss.out]; exact Bool.eq_false_iff.2 hxy))
        have hxf:(x.toList == y.toList)=false:=Bool.eq_false_iff.2 hxy
        have HIx:=zh (HIq.out.below ((Below.refl _ _).alloc (zG _) (.cells #[.string x,.int .i64 ((k+j:Nat):Int)] 154)))
        clear hxy
        go_wp2
        go_roundw
        case rel=>exact ⟨k+1,by omega,by go_num,by rw [Hs2.out]; exact HIx.out⟩
        case measure=>simp [intOf]; omega
      ·obtain rfl:j=m:=by omega
       have hst2:=Hst.out
       have hmm:=Hm.out
       subst hmm
       rw [standsTo_all] at hst2
       have Hph:Hid (phrTo T ws (k+1)=phrTo T ws k ++ [k]):=zh (by rw [phrTo_succ,hst2]; rfl)
       have hown:=HIq.out.own
       have hbsz:=HIq.out.bel.size
       clear hst2
       generalize phrTo T ws k=P at *
       go_wp2_with (at_builtin; refine wpList_append_own _ rfl _ _ 38 rfl w.heap.size 3 i0 _ 1 8 Tryz.underlying38 hi0 hz0 hz1 hz2 rfl (by decide) _ _ _ rfl (hown.alloc _) ⟨wr.heap.size,0,none⟩ 1 1 [.int .i64 (k:Int)] rfl rfl ?d1 ?d2 ?d3 ?d4 ?d5 ?_)
       case d2=>first | rfl | (intro u hu; simp at hu; subst hu; rfl)
       case d3=>unfold maxLen; omega
       case d4=>omega
       case d5=>first | omega | (simp; omega)
       intro v' w5 hown5 hg5 _
       have HI5:=zh ((HIq.out.below ((Below.refl _ _).alloc (zG _) _)).put hown5 hg5)
       clear hown5 hg5 hown
       go_wp2
       go_roundw
       case rel=>exact ⟨k+1,by omega,by go_num,by rw [Hph.out]; exact HI5.out⟩
       case measure=>simp [intOf]; omega
   ·obtain rfl:k=n:=by omega
    have HI:=zh hI
    clear hI
    go_wp2
    rw [Exit.noGoto_ret]
    go_ret
    exact ⟨_,rfl,by rw [Fin.out]; exact HI.out⟩
end Go.Proofs.YtlfpfkallgkjdaaGreat.Qy
end

section
namespace Go.Proofs.YtlfpfkallgkjdaaGreat.Qy
open Go.RowKit Ut Tk
set_option maxHeartbeats 3200000 in
theorem stand_ref (TA:Option Addr) (n tc:Nat) (T:List (List UInt8)) (WA:Option Addr) (m wc:Nat) (ws:List ByteArray) (k:Nat) (w:World) (hT:Reads w w.heap.size 2 TA n (tokC (placed T))) (hn:T.length=n) (hn2:n≤1048576)
  (hW:Reads w w.heap.size 1 WA m (ws.map Value.string)) (hm:ws.length=m) (hm2:m≤8796093021952) (hk:k<n) :
  Calls Tryz.prog 138 #[.slice TA n tc,.int .i64 (k:Int),.slice WA m wc] w fun e w'=>e=.returned (.bool (stands T ws k))∧Below w.heap.size w w':=by
 have HT:=zh hT
 have HW:=zh hW
 have Hn:=zh hn
 have Hm:=zh hm
 by_cases hs:n - k<m
 ·have Fin:=zh (stands_short T ws k (by rw [hn,hm]; exact hs))
  have hs':(n:Int) - (k:Int)<(m:Int):=by omega
  clear hT hW hn hm hs
  go_enter Tryz.func138,Tryz.ntmps138
  go_wp2
  go_ret
  exact ⟨by rw [Fin.out]; rfl,Below.refl _ _⟩
 ·have hs':¬ (n:Int) - (k:Int)<(m:Int):=by omega
  have hmn:m≤n - k:=by omega
  clear hT hW hn hm hs
  go_enter Tryz.func138,Tryz.ntmps138
  go_wp2
  go_loopw [7] (fun i wr=>∃ j:Nat,j≤m∧i=.int .i64 j∧standsTo T ws k j=true∧Below w.heap.size w wr) (fun i _=>m - (intOf i).toNat)
  case atStart=>exact ⟨0,Nat.zero_le _,rfl,standsTo_zero _ _ _,Below.refl _ _⟩
  case round =>
   obtain ⟨j,hj,rfl,hst,hb⟩:=hrel
   have Hb:=zh hb
   have Hst:=zh hst
   clear hst hb
   by_cases hjm:j<m
   ·obtain ⟨tb,tq,rfl,htb,hx1,hx2⟩:=toks_at HT.out Hn.out (k:=k+j) (by rw [Hn.out]; omega)
    obtain ⟨ab,ao,hkl,rfl,hab,hcw⟩:=HW.out.at_map hjm
    have hy1:=(Hb.out.cell (p:=⟨tb,tq+(k+j) * 2,none⟩) htb).trans hx1
    have hy2:=(Hb.out.cell (p:=⟨tb,tq+(k+j) * 2+1,none⟩) htb).trans hx2
    have hyw:=(Hb.out.cell (p:=⟨ab,ao+j,none⟩) hab).trans hcw
    have hss:=standsTo_succ T ws k j (by rw [Hn.out]; omega) (by rw [Hm.out]; omega)
    have hbe:=str_beq (T[k+j]'(by rw [Hn.out]; omega)) ws[j]
    rw [Hst.out,Bool.true_and,← hbe] at hss
    have Hss:=zh hss
    have hi0:(0:Int)≤(k:Int)+(j:Int):=by omega
    have hi1:(k:Int)+(j:Int)<(n:Int):=by omega
    have hi2:((k:Int)+(j:Int)).toNat=k+j:=by omega
    have hi3:IntKind.i64.wrap ((k:Int)+(j:Int))=(k:Int)+(j:Int):=IntWalk.i64_in _ (by omega)
    have hj0:(0:Int)≤(j:Int):=by omega
    have hj1:(j:Int)<(m:Int):=by omega
    have Hno:Hid (standsTo T ws k (j+1)=false→stands T ws k=false):=zh (fun e=>standsTo_no T ws k (j+1) (by rw [Hm.out]; omega) e)
    clear hx1 hx2 hcw hss hbe
    have hprev : 0<j→wr.cell? ⟨tb,tq+(k+j - 1) * 2+1,none⟩=some (.int .i64 ((k+j - 1:Nat):Int)):=fun h0=>by
     obtain ⟨tb',tq',e1,htb',_,hx2⟩:=toks_at HT.out Hn.out (k:=k+j - 1) (by rw [Hn.out]; omega)
     injection e1 with e1
     injection e1 with e1 e2
     subst e1 e2
     exact (Hb.out.cell (p:=⟨tb,tq+(k+j - 1) * 2+1,none⟩) htb).trans hx2
    generalize (str (T[k+j]'(by rw [Hn.out]; omega)))=x at *
    generalize ws[j]=y at *
    by_cases hxy:(x.toList == y.toList)=true
    ·have hxy':(x.toList != y.toList)=false:=by rw [bne,hxy]; rfl
     have Hs2:Hid (standsTo T ws k (j+1)=true):=zh (by rw [Hss.out,hxy])
     by_cases h0 : 0<j
     ·have hp:=hprev h0
      have e1:((k+j - 1:Nat):Int)=(k:Int)+(j:Int) - 1:=by omega
      have e2:((k:Int)+(j:Int) - 1).toNat=k+j - 1:=by omega
      have e3:IntKind.i64.wrap ((k:Int)+(j:Int) - 1)=(k:Int)+(j:Int) - 1:=IntWalk.i64_in _ (by omega)
      have e4:(0:Int)≤(k:Int)+(j:Int) - 1:=by omega
      have e5:(k:Int)+(j:Int) - 1<(n:Int):=by omega
      have e6:(((k:Int)+(j:Int) - 1) == 9223372036854775807)=false:=by rw [beq_eq_false_iff_ne]; omega
      have e7:IntKind.i64.wrap ((k:Int)+(j:Int) - 1+1)=(k:Int)+(j:Int):=by rw [show (k:Int)+(j:Int) - 1+1=(k:Int)+(j:Int) from by omega]; exact hi3
      have h0':decide (0<j)=true:=by simpa using h0
      rw [e1] at hp
      clear hprev e1
      go_wp2_with fail
      go_quiet (fail)
      have Hbx:=zh (below_drewN Hb.out nq)
      go_wp2
      go_roundw
      case rel=>exact ⟨j+1,by omega,by go_num,Hs2.out,Hbx.out⟩
      case measure=>simp [intOf]; omega
     ·have h0':decide ((0:Int)<(j:Int))=false:=by simpa using h0
      clear hprev
      go_wp2_with fail
      go_quiet (fail)
      have Hbx:=zh (below_drewN Hb.out nq)
      go_wp2
      go_roundw
      case rel=>exact ⟨j+1,by omega,by go_num,Hs2.out,Hbx.out⟩
      case measure=>simp [intOf]; omega
    ·have hxf:(x.toList == y.toList)=false:=Bool.eq_false_iff.2 hxy
     have hxy':(x.toList != y.toList)=true:=by rw [bne,hxf]; rfl
     have Hs2:=zh (Hno.out (by rw [Hss.out]; exact hxf))
     clear hxy hprev
     go_wp2_with fail
     go_quiet (fail)
     have Hbx:=zh (below_drewN Hb.out nq)
     go_wp2
     go_ret
     exact ⟨by rw [Hs2.out]; rfl,Hbx.out⟩
   ·obtain rfl:j=m:=by omega
    have hst2:=Hst.out
    have hmm:=Hm.out
    subst hmm
    rw [standsTo_all] at hst2
    have Fin:=zh hst2
    clear hst2 hjm
    go_wp2
    go_ret
    exact ⟨by rw [Fin.out]; rfl,Hb.out⟩
end Go.Proofs.YtlfpfkallgkjdaaGreat.Qy
end

section
namespace Go.Proofs.YtlfpfkallgkjdaaGreat.Ss
open Go.Shelf Go.RowKit Go.Lib Go.Sort
variable {α:Type} [Inhabited α] {enc : α→List Value}
set_option maxHeartbeats 400000 in
theorem rotate_any (k:Nat) (hk2:k=2) (fv:Value) (blk off cap a m b:Nat) (d0 d:Array α) (w0 w:World) (R:RowK enc k w0 blk off d0) (hs:d.size=d0.size) (S:SWK enc k w0 blk off d w) (ham:a<m) (hmb:m<b) (hb:b≤d.size) (hsz:d.size<1099511627776) :
  Calls Tryz.prog 177 #[.slice (some ⟨blk,off,none⟩) d.size cap,.int .i64 a,.int .i64 m,.int .i64 b,fv] w fun e w' =>
   e=.returned (.tuple #[])∧∃ d',SWK enc k w0 blk off d' w'∧d'.size=d.size∧PermIn a b d d'∧∀ x,d'[x]! = rotR d a m b x:=by
 have S0:Aside (SWK enc k w0 blk off d w):=S
 have HK:=zh hk2
 have HS:=zh hs
 clear S hk2 hs
 go_enter Tryz.func177,Tryz.ntmps177
 go_wp2
 go_loopw [10,11] (fun v10 v11 wr=>∃ (i j:Nat) (dk:Array α),0<i∧0<j∧a+i≤m∧m+j≤b∧v10=.int .i64 (i:Nat)∧v11=.int .i64 (j:Nat)∧Aside (SWK enc k w0 blk off dk wr)∧dk.size=d.size∧Hid (PermIn a b d dk)∧Hid (∀ x,rotR dk (m - i) m (m+j) x=rotR d a m b x)) (fun v10 v11 _=>(intOf v10).toNat+(intOf v11).toNat)
 case atStart=>exact ⟨m - a,b - m,d,by omega,by omega,by omega,by omega,by go_num,by go_num,S0,rfl,zh (permIn_refl _ _ _),zh (fun x=>by rw [show m - (m - a)=a by omega,show m+(b - m)=b by omega])⟩
 case round =>
  clear S0
  obtain ⟨i,j,dk,hi0,hj0,him,hjb,rfl,rfl,S1,hds,HP,HX⟩:=hrel
  by_cases hij:i=j
  ·subst hij
   have hnn:¬ ((i:Int)≠(i:Int)):=by omega
   have e1:IntKind.i64.wrap ((m:Int) - (i:Int))=((m - i:Nat):Int):=by rw [IntKind.wrap_i64]; omega
   have e2:(m:Int) - (i:Int)=((m - i:Nat):Int):=by omega
   have c1:=swapRange_any k HK.out fv blk off cap (m - i) m i d0 dk w0 wr R (hds.trans HS.out) S1.out (by omega) (by omega) (by omega)
   rw [hds] at c1
   have C1:=zh c1
   clear c1 S1
   go_wp2_with fail
   try rw [e2]
   refine C1.out.mono ?_
   rintro e w2 ⟨rfl,d',S2,h1,h2,h3⟩
   have Fin:Hid (SWK enc k w0 blk off d' w2∧d'.size=d.size∧PermIn a b d d'∧∀ x,d'[x]! = rotR d a m b x):=zh ⟨S2,by omega,permIn_trans _ _ _ _ _ HP.out (permIn_mono _ _ _ _ _ _ (by omega) (by omega) (by omega) h2),fun x=>by rw [h3,rot_eq _ _ _ (by omega),HX.out]⟩
   clear C1 S2 h1 h2 h3 HP HX
   go_wp2
   go_end0
   exact ⟨rfl,d',Fin.out⟩
  ·have hnn:(i:Int)≠(j:Int):=by omega
   by_cases hgt:j<i
   ·have hgi:(j:Int)<(i:Int):=by omega
    have e2:(m:Int) - (i:Int)=((m - i:Nat):Int):=by omega
    have c1:=swapRange_any k HK.out fv blk off cap (m - i) m j d0 dk w0 wr R (hds.trans HS.out) S1.out (by omega) (by omega) (by omega)
    rw [hds] at c1
    have C1:=zh c1
    clear c1 S1
    go_wp2_with fail
    try rw [e2]
    refine C1.out.mono ?_
    rintro e w2 ⟨rfl,d',S2,h1,h2,h3⟩
    have S3:Aside (SWK enc k w0 blk off d' w2):=S2
    have P3:Hid (PermIn a b d d'):=zh (permIn_trans _ _ _ _ _ HP.out (permIn_mono _ _ _ _ _ _ (by omega) (by omega) (by omega) h2))
    have X3:Hid (∀ x,rotR d' (m - (i - j)) m (m+j) x=rotR d a m b x):=zh (fun x=>by rw [rot_gt dk d' m i j hgt (by omega) h3,HX.out])
    clear C1 S2 h2 h3 HP HX
    go_wp2
    go_roundw
    case rel=>exact ⟨i - j,j,d',by omega,by omega,by omega,by omega,by go_num,by go_num,S3,by omega,P3,X3⟩
    case measure=>simp [intOf]; omega
   ·have hgi:¬ (j:Int)<(i:Int):=by omega
    have e2:(m:Int) - (i:Int)=((m - i:Nat):Int):=by omega
    have e3:(m:Int)+(j:Int) - (i:Int)=((m+j - i:Nat):Int):=by omega
    have c1:=swapRange_any k HK.out fv blk off cap (m - i) (m+j - i) i d0 dk w0 wr R (hds.trans HS.out) S1.out (by omega) (by omega) (by omega)
    rw [hds] at c1
    have C1:=zh c1
    clear c1 S1
    go_wp2_with fail
    try rw [e2]
    try rw [e3]
    refine C1.out.mono ?_
    rintro e w2 ⟨rfl,d',S2,h1,h2,h3⟩
    have S3:Aside (SWK enc k w0 blk off d' w2):=S2
    have P3:Hid (PermIn a b d d'):=zh (permIn_trans _ _ _ _ _ HP.out (permIn_mono _ _ _ _ _ _ (by omega) (by omega) (by omega) h2))
    have X3:Hid (∀ x,rotR d' (m - i) m (m+(j - i)) x=rotR d a m b x):=zh (fun x=>by rw [rot_lt dk d' m i j (by omega) (by omega) h3,HX.out])
    clear C1 S2 h2 h3 HP HX
    go_wp2
    go_roundw
    case rel=>exact ⟨i,j - i,d',by omega,by omega,by omega,by omega,by go_num,by go_num,S3,by omega,P3,X3⟩
    case measure=>simp [intOf]; omega
end Go.Proofs.YtlfpfkallgkjdaaGreat.Ss
end
