/- Arguments that came in, opened to what the walks ask. -/
import Derived.ProofKit
import Derived.OpenShut
import Derived.ShutString
import Derived.ChangeOld
import Derived.SliceStrings
import Derived.SizedLaws
import Derived.Shelf.Strings.Builder1
import Derived.StillTail
import Derived.Test.YtlfpfkallgkjdaaGreatProg
import Derived.Shelf.SlSortCmp.KitK
import Derived.Sort.LotA
import Derived.Sort.WalkB2
import Derived.Sort.WalkB12
import Derived.Deep.LoopGhost
import Derived.Lib.Hide
import Derived.Test.YtlfpfkallgkjdaaGreatQAlertBatchesRow0
set_option linter.unusedSectionVars false
set_option linter.unusedSimpArgs false
set_option linter.unusedVariables false
set_option maxRecDepth 20000
section
namespace Go.Proofs.YtlfpfkallgkjdaaGreat
open Go.RowKit Go.ChangeShapes Go.WideShapes Go.ChangeAt
section
variable {H:Type} {enc:TypeId × Value→H} {P:Program} {W:World} {base:Nat} {t e:TypeId} {v:Value} {d:DataW H} {p:List MemPlace}
theorem weights_le {ts:List TypeId} {ds:List (DataW H)} (h:(DataW.weightsEach P ts ds).all (·≤reachBytes)=true) {j:Nat} (ht:ts[j]?=some t) (hd:ds[j]?=some d):∀ n∈d.weights P t,n≤140737488351232:=by
 intro n hn
 have:=List.all_eq_true.1 h _ (DataW.weights_mem_each ht hd n hn)
 have e:reachBytes=140737488351232:=by decide
 rw [← e]
 simpa using this
theorem weightsAll_mem {e:TypeId} {y:DataW H}:∀ {l:List (DataW H)},y∈l→∀ n∈y.weights P e,n∈DataW.weightsAll P e l
 | [],h,_,_=>by cases h
 | x :: l,h,n,hn=>by
  simp only [DataW.weightsAll,List.mem_append]
  rcases List.mem_cons.1 h with rfl | h
  ·exact Or.inl hn
  ·exact Or.inr (weightsAll_mem h n hn)
theorem range_map_getD {α:Type} (l:List α) (x : α) (n:Nat) (h:n≤l.length):(List.range n).map (fun i=>l.getD i x)=l.take n:=by
 apply List.ext_getElem
 ·simp; omega
 ·intro i h1 h2
  simp at h1
  simp [List.getD_eq_getElem?_getD,List.getElem?_eq_getElem (show i<l.length by omega)]
end
end Go.Proofs.YtlfpfkallgkjdaaGreat
end

section
namespace Go.Proofs.YtlfpfkallgkjdaaGreat.Qy
open Go.RowKit
inductive Q where
 | mk (kind:Int) (name:ByteArray) (words:List ByteArray) (l:List Q)
def Q.kind:Q→Int | .mk k _ _ _=>k
def Q.name:Q→ByteArray | .mk _ n _ _=>n
def Q.words:Q→List ByteArray | .mk _ _ w _=>w
def Q.l:Q→List Q | .mk _ _ _ l=>l
theorem Q.ind {p:Q→Prop} (h:∀ k n ws l,(∀ x∈l,p x)→p (.mk k n ws l)):∀ q,p q:=by
 intro q
 refine Q.rec (motive_1:=p) (motive_2:=fun l=>∀ x∈l,p x) (fun k n ws l hl=>h k n ws l hl) (by simp) (fun x l hx hl=>?_) q
 intro y hy
 rcases List.mem_cons.1 hy with rfl | hy
 ·exact hx
 ·exact hl y hy
theorem flat_get {k:Nat}:∀ {vss:List (List Value)} (_:∀ v∈vss,v.length=k) (i j:Nat) (hi:i<vss.length) (_:j<k),vss.flatten[i * k+j]?=(vss[i])[j]?
 | v :: vss,h,0,j,_,_=>by
  have hv:=h v (by simp)
  rw [List.flatten_cons,Nat.zero_mul,Nat.zero_add,List.getElem?_append_left (by omega)]
  rfl
 | v :: vss,h,i+1,j,hi,hj=>by
  have hv:=h v (by simp)
  have ih:=flat_get (fun x hx=>h x (List.mem_cons_of_mem _ hx)) i j (by simpa using hi) hj
  have e:(i+1) * k+j=v.length+(i * k+j):=by rw [hv,Nat.add_mul,Nat.one_mul]; omega
  rw [List.flatten_cons,e,List.getElem?_append_right (by omega),Nat.add_sub_cancel_left,ih]
  rfl
inductive QAt (w:World) (B:Nat):Q→List Value→Prop
 | mk {k:Int} {nm:ByteArray} {ws:List ByteArray} {l:List Q} {A C:Option Addr} {n c m d:Nat} (vss:List (List Value)) (hn:ws.length=n) (hw:Reads w B 1 A n (ws.map Value.string)) (hm:l.length=m) (hv:vss.length=m)
   (h4:∀ v∈vss,v.length=4) (hl:Reads w B 4 C m vss.flatten) (kids:∀ i (h:i<l.length) (h':i<vss.length),QAt w B l[i] vss[i]):QAt w B (.mk k nm ws l) [.int .i64 k,.string nm,.slice A n c,.slice C m d]
theorem QAt.keep {w w':World} {B:Nat} (hk:∀ b o,b<B→w'.cell? ⟨b,o,none⟩=w.cell? ⟨b,o,none⟩) {q:Q} {vs:List Value} (h:QAt w B q vs):QAt w' B q vs:=by
 induction h with
 | mk vss hn hw hm hv h4 hl _ ih=>exact .mk vss hn (hw.keep hk) hm hv h4 (hl.keep hk) ih
theorem QAt.lower {w w':World} {B:Nat} {q:Q} {vs:List Value} (h:QAt w B q vs) (hb:Below B w w'):QAt w' B q vs:=h.keep fun _ _ hp=>hb.cell hp
theorem QAt.more {w:World} {B B':Nat} {q:Q} {vs:List Value} (h:QAt w B q vs) (hB:B≤B'):QAt w B' q vs:=by
 induction h with
 | mk vss hn hw hm hv h4 hl _ ih=>exact .mk vss hn (hw.more hB) hm hv h4 (hl.more hB) ih
theorem QAt.grow {w w':World} {q:Q} {vs:List Value} (h:QAt w w.heap.size q vs) (hb:Below w.heap.size w w'):QAt w' w'.heap.size q vs:=(h.lower hb).more hb.size
structure QIs (w:World) (B:Nat) (k:Int) (nm:ByteArray) (ws:List ByteArray) (l:List Q) (A:Option Addr) (n:Nat) (C:Option Addr) (m:Nat):Prop where
 wn:ws.length=n
 wds:Reads w B 1 A n (ws.map Value.string)
 lm:l.length=m
 kid:∀ i (h:i<l.length),∃ b o v,C=some ⟨b,o,none⟩∧b<B∧QAt w B l[i] v∧∀ j u,v[j]?=some u→w.cell? ⟨b,o+(i * 4+j),none⟩=some u
theorem QAt.is {w:World} {B:Nat} {k:Int} {nm:ByteArray} {ws:List ByteArray} {l:List Q} {vs:List Value} (h:QAt w B (.mk k nm ws l) vs) :
  ∃ A n c C m d,vs=[.int .i64 k,.string nm,.slice A n c,.slice C m d]∧QIs w B k nm ws l A n C m:=by
 cases h with
 | @mk _ _ _ _ A C n c m d vss hn hw hm hv h4 hl kids =>
  refine ⟨A,n,c,C,m,d,rfl,hn,hw,hm,fun i hi=>?_⟩
  obtain ⟨b,o,e,hb,hc⟩:=hl.2 (by omega)
  have hi':i<vss.length:=by omega
  refine ⟨b,o,vss[i],e,hb,kids i hi hi',fun j u hu=>?_⟩
  have hj:j<4:=by
   have h1:=(List.getElem?_eq_some_iff.1 hu).1
   rw [h4 _ (List.getElem_mem hi')] at h1
   exact h1
  exact hc _ _ ((flat_get h4 i j hi' hj).trans hu)
theorem QAt.len {w:World} {B:Nat} {q:Q} {vs:List Value} (h:QAt w B q vs):vs.length=4:=by cases h; rfl
theorem QIs.at_ {w:World} {B:Nat} {k:Int} {nm:ByteArray} {ws:List ByteArray} {l:List Q} {A C:Option Addr} {n m:Nat} (h:QIs w B k nm ws l A n C m) {i:Nat} (hi:i<l.length) :
  ∃ b o A' n' c' C' m' d',C=some ⟨b,o,none⟩∧b<B∧QAt w B l[i] [.int .i64 l[i].kind,.string l[i].name,.slice A' n' c',.slice C' m' d'] ∧
   w.cell? ⟨b,o+i * 4,none⟩=some (.int .i64 l[i].kind)∧w.cell? ⟨b,o+i * 4+1,none⟩=some (.string l[i].name)∧w.cell? ⟨b,o+i * 4+2,none⟩=some (.slice A' n' c')∧w.cell? ⟨b,o+i * 4+3,none⟩=some (.slice C' m' d'):=by
 obtain ⟨b,o,v,e,hb,hq,hc⟩:=h.kid i hi
 generalize l[i]=q at *
 obtain ⟨k',nm',ws',l'⟩:=q
 obtain ⟨A',n',c',C',m',d',rfl,_⟩:=hq.is
 exact ⟨b,o,A',n',c',C',m',d',e,hb,hq,by simpa [Q.kind] using hc 0 _ rfl,by simpa [Nat.add_assoc,Q.name] using hc 1 _ rfl,by simpa [Nat.add_assoc] using hc 2 _ rfl,by simpa [Nat.add_assoc] using hc 3 _ rfl⟩
def fldC (fs:List (ByteArray × ByteArray)):List Value:=fs.flatMap fun f=>[.string f.1,.string f.2]
theorem fldC_len (fs:List (ByteArray × ByteArray)):(fldC fs).length=fs.length * 2:=by
 induction fs with
 | nil=>rfl
 | cons f fs ih=>simp [fldC] at *; omega
theorem fldC_get:∀ (fs:List (ByteArray × ByteArray)) (k:Nat) (h:k<fs.length),(fldC fs)[k * 2]?=some (.string fs[k].1)∧(fldC fs)[k * 2+1]?=some (.string fs[k].2)
 | f :: fs,0,_=>⟨rfl,rfl⟩
 | f :: fs,k+1,h=>by
  have ih:=fldC_get fs k (by simpa using h)
  have e1:(k+1) * 2=k * 2+2:=by omega
  have e2:(k+1) * 2+1=(k * 2+1)+2:=by omega
  rw [e2,e1]
  exact ih
theorem fields_at {w:World} {B n:Nat} {A:Option Addr} {fs:List (ByteArray × ByteArray)} (h:Reads w B 2 A n (fldC fs)) {k:Nat} (hk:k<fs.length) :
  ∃ b o,A=some ⟨b,o,none⟩∧b<B∧w.cell? ⟨b,o+k * 2,none⟩=some (.string fs[k].1)∧w.cell? ⟨b,o+k * 2+1,none⟩=some (.string fs[k].2):=by
 have hl:=h.1
 rw [fldC_len] at hl
 obtain ⟨b,o,e,hb,hc⟩:=h.2 (by omega)
 have g:=fldC_get fs k hk
 refine ⟨b,o,e,hb,hc _ _ g.1,?_⟩
 have:=hc _ _ g.2
 rwa [← Nat.add_assoc] at this
end Go.Proofs.YtlfpfkallgkjdaaGreat.Qy
end

section
namespace Go.Proofs.YtlfpfkallgkjdaaGreat.Tk
open Go.RowKit Ut
def wordGo (a:List UInt8):List Nat→List UInt8
 | []=>a
 | r :: t=>if 32<a.length+(enc (lower (r:Int))).length then a else wordGo (a ++ enc (lower (r:Int))) t
def word (l:List Nat):List UInt8:=wordGo [] l
theorem wordGo_cons (a:List UInt8) (r:Nat) (t:List Nat):wordGo a (r :: t)=if 32<a.length+(enc (lower (r:Int))).length then a else wordGo (a ++ enc (lower (r:Int))) t:=rfl
theorem wordGo_len:∀ (l:List Nat) (a:List UInt8),a.length≤32→(wordGo a l).length≤32
 | [],a,h=>h
 | r :: t,a,h=>by
  rw [wordGo_cons]
  split
  ·exact h
  ·exact wordGo_len t _ (by rw [List.length_append]; omega)
theorem word_len (l:List Nat):(word l).length≤32:=wordGo_len l [] (by simp)
def last (c:List Nat):List (List Nat):=if c=[] then [] else [c]
def runs (c:List Nat):List Nat→List (List Nat)
 | []=>last c
 | r :: t=>if isWord (r:Int) then runs (c ++ [r]) t else last c ++ runs [] t
theorem runs_nil (c:List Nat):runs c []=last c:=rfl
theorem runs_cons (c:List Nat) (r:Nat) (t:List Nat):runs c (r :: t)=if isWord (r:Int) then runs (c ++ [r]) t else last c ++ runs [] t:=rfl
theorem runs_end:∀ (l c:List Nat) (b:Nat),isWord (b:Int)=false→runs c (l ++ [b])=runs c l
 | [],c,b,h=>by
  rw [List.nil_append,runs_cons,h,if_neg (by decide),runs_nil,runs_nil]
  simp [last]
 | r :: t,c,b,h=>by
  rw [List.cons_append,runs_cons,runs_cons,runs_end t _ b h,runs_end t _ b h]
def words (s:List UInt8):List (List UInt8):=(runs [] (runes s)).map word
end Go.Proofs.YtlfpfkallgkjdaaGreat.Tk
end

section
namespace Go.Proofs.YtlfpfkallgkjdaaGreat.Tk
open Go.RowKit Ut
def low (r:Nat):Nat:=(lower (r:Int)).toNat
theorem low_cast (r:Nat) (h:Ut.Good r):((low r:Nat):Int)=lower (r:Int):=Int.toNat_of_nonneg (lower_good r h).1
theorem low_good (r:Nat) (h:Ut.Good r):Ut.Good (low r):=(lower_good r h).2
theorem low_word (r:Nat) (h:Ut.Good r):isWord (low r:Nat)=isWord (r:Int):=by rw [low_cast r h,lower_word]
theorem low_low (r:Nat) (h:Ut.Good r):lower ((low r:Nat):Int)=lower (r:Int):=by rw [low_cast r h,lower_lower]
def wordN (a:List UInt8):List Nat→Nat
 | []=>0
 | r :: t=>if 32<a.length+(enc (lower (r:Int))).length then 0 else wordN (a ++ enc (lower (r:Int))) t+1
theorem wordN_cons (a:List UInt8) (r:Nat) (t:List Nat):wordN a (r :: t)=if 32<a.length+(enc (lower (r:Int))).length then 0 else wordN (a ++ enc (lower (r:Int))) t+1:=rfl
theorem wordGo_take:∀ (l:List Nat) (a:List UInt8),wordGo a (l.take (wordN a l))=wordGo a l
 | [],a=>rfl
 | r :: t,a=>by
  rw [wordN_cons,wordGo_cons]
  split
  ·rename_i h
   simp only [List.take_zero]
   rfl
  ·rename_i h
   rw [List.take_succ_cons,wordGo_cons,if_neg h,wordGo_take]
theorem wordGo_enc:∀ (l:List Nat) (a:List UInt8),wordGo a l=a ++ encode ((ints (l.take (wordN a l))).map lower)
 | [],a=>by simp [wordGo,ints,encode]
 | r :: t,a=>by
  rw [wordN_cons,wordGo_cons]
  split
  ·simp [ints,encode]
  ·rw [List.take_succ_cons,wordGo_enc t]
   simp [ints,encode]
theorem wordN_pos (r:Nat) (t:List Nat) : 1≤wordN [] (r :: t):=by
 rw [wordN_cons,if_neg (by have:=(enc_len (lower (r:Int))).2; simp; omega)]
 omega
theorem wordGo_low:∀ (l:List Nat) (a:List UInt8),(∀ r∈l,Ut.Good r)→wordGo a (l.map low)=wordGo a l
 | [],a,_=>rfl
 | r :: t,a,h=>by
  rw [List.map_cons,wordGo_cons,wordGo_cons,low_low r (h r (by simp)),wordGo_low t _ (fun x hx=>h x (by simp [hx]))]
theorem word_low (l:List Nat) (h:∀ r∈l,Ut.Good r):word (l.map low)=word l:=wordGo_low l [] h
def told (l:List Nat):List Nat:=(l.take (wordN [] l)).map low
theorem word_told (l:List Nat) (h:∀ r∈l,Ut.Good r):word (told l)=word l:=by
 unfold told
 rw [word_low _ (fun r hr=>h r (List.mem_of_mem_take hr))]
 exact wordGo_take l []
theorem runes_word (l:List Nat) (h:∀ r∈l,Ut.Good r) (t:List UInt8):runes (word l ++ t)=told l ++ runes t:=by
 have e:word l=encode ((ints (l.take (wordN [] l))).map lower):=by
  have:=wordGo_enc l []
  rw [List.nil_append] at this
  exact this
 rw [e,runes_encode,fix_lower _ (fun r hr=>h r (List.mem_of_mem_take hr))]
 rfl
theorem told_ne (l:List Nat) (h:l≠[]):told l≠[]:=by
 obtain ⟨r,t,rfl⟩:∃ r t,l=r :: t:=by cases l with | nil=>exact absurd rfl h | cons r t=>exact ⟨r,t,rfl⟩
 intro e
 have h1:=wordN_pos r t
 have h2:=congrArg List.length e
 unfold told at h2
 rw [List.length_map,List.length_take,List.length_cons,List.length_nil] at h2
 omega
def Run (l:List Nat):Prop:=l≠[]∧(∀ r∈l,Ut.Good r)∧∀ r∈l,isWord (r:Int)=true
theorem told_run (l:List Nat) (h:Run l):Run (told l):=by
 refine ⟨told_ne l h.1,?_,?_⟩
 ·intro r hr
  unfold told at hr
  obtain ⟨x,hx,rfl⟩:=List.mem_map.1 hr
  exact low_good x (h.2.1 x (List.mem_of_mem_take hx))
 ·intro r hr
  unfold told at hr
  obtain ⟨x,hx,rfl⟩:=List.mem_map.1 hr
  rw [low_word x (h.2.1 x (List.mem_of_mem_take hx))]
  exact h.2.2 x (List.mem_of_mem_take hx)
theorem runs_all:∀ (m c x:List Nat),(∀ r∈m,isWord (r:Int)=true)→runs c (m ++ x)=runs (c ++ m) x
 | [],c,x,_=>by simp
 | r :: m,c,x,h=>by
  rw [List.cons_append,runs_cons,h r (by simp),if_pos rfl,runs_all m (c ++ [r]) x (fun y hy=>h y (by simp [hy]))]
  simp
theorem runs_one (m:List Nat) (h:Run m):runs [] m=[m]:=by
 have:=runs_all m [] [] h.2.2
 rw [List.append_nil] at this
 rw [this,List.nil_append,runs_nil]
 rw [last,if_neg h.1]
theorem runs_are:∀ (l c:List Nat),(∀ r∈l,Ut.Good r)→(∀ r∈c,Ut.Good r∧isWord (r:Int)=true)→∀ m∈runs c l,Run m
 | [],c,_,hc,m,hm=>by
  rw [runs_nil] at hm
  unfold last at hm
  split at hm
  ·cases hm
  ·simp only [List.mem_singleton] at hm
   subst hm
   exact ⟨by assumption,fun r hr=>(hc r hr).1,fun r hr=>(hc r hr).2⟩
 | r :: t,c,hl,hc,m,hm=>by
  rw [runs_cons] at hm
  split at hm
  ·rename_i hw
   refine runs_are t (c ++ [r]) (fun x hx=>hl x (by simp [hx])) (fun x hx=>?_) m hm
   rcases List.mem_append.1 hx with hx | hx
   ·exact hc x hx
   ·simp only [List.mem_singleton] at hx
    subst hx
    exact ⟨hl x (by simp),hw⟩
  ·rcases List.mem_append.1 hm with hm | hm
   ·unfold last at hm
    split at hm
    ·cases hm
    ·simp only [List.mem_singleton] at hm
     subst hm
     exact ⟨by assumption,fun r hr=>(hc r hr).1,fun r hr=>(hc r hr).2⟩
   ·exact runs_are t [] (fun x hx=>hl x (by simp [hx])) (fun x hx=>by cases hx) m hm
theorem text_runs (s:List UInt8):∀ m∈runs [] (runes s),Run m:=runs_are _ _ (runes_good s) (fun x hx=>by cases hx)
theorem blank_no:isWord ((32:Nat):Int)=false:=by decide
theorem words_word (s:List UInt8):∀ w∈words s,words w=[w]∧w.length≤32:=by
 intro w hw
 unfold words at hw
 obtain ⟨m,hm,rfl⟩:=List.mem_map.1 hw
 have hr:=text_runs s m hm
 refine ⟨?_,word_len m⟩
 have e:=runes_word m hr.2.1 []
 rw [List.append_nil,runes_nil,List.append_nil] at e
 unfold words
 rw [e,runs_one _ (told_run m hr)]
 show [word (told m)]=[word m]
 rw [word_told m hr.2.1]
def isW (s:List UInt8):Bool:=words s == [s]
theorem isW_len (s:List UInt8) (h : 32<s.length):isW s=false:=by
 unfold isW
 rw [beq_eq_false_iff_ne]
 intro e
 have:=(words_word s s (by rw [e]; simp)).2
 omega
def nameB (c:UInt8):Bool:=c.toNat == 95 || (decide (48≤c.toNat) && decide (c.toNat≤57)) || (decide (97≤c.toNat) && decide (c.toNat≤122))
def isN (s:List UInt8):Bool:=decide (1≤s.length) && decide (s.length≤32) && s.all nameB
def colonAt (s:List UInt8):Nat:=s.findIdx (· == 58)
def term (a b:List UInt8):List UInt8:=a ++ 58 :: b
end Go.Proofs.YtlfpfkallgkjdaaGreat.Tk
end

section
namespace Go.Proofs.YtlfpfkallgkjdaaGreat.Tk
open Go.RowKit
theorem b_size:(Tryz.prog.info? 214).map (fun i=>i.size)=some 2:=by kernel_rfl
theorem b_lies:liesAt Tryz.prog Tryz.prog.depth 214 (2 / Tryz.prog.cellsOf 214) 0 214 1=true:=by kernel_rfl
theorem byte_info:(Tryz.prog.info? 5).map (fun i=>(i.zero,i.size,i.bytes))=some (some (.int .u8 0),1,1):=by kernel_rfl
set_option maxHeartbeats 1048576 in
set_option maxRecDepth 100000 in
theorem copyCheck_used (b:Nat) (w:World) (h0:w.cell? ⟨b,0,none⟩=some (.pointer (some ⟨b,0,none⟩))) :
  Calls Tryz.prog 176 #[.pointer (some ⟨b,0,none⟩)] w fun e w'=>e=.returned (.tuple #[])∧w'=w:=by
 obtain ⟨j,hj,_⟩:=Option.map_eq_some_iff.1 b_size
 go_enter Tryz.func176,Tryz.ntmps176
 go_wp2
 rw [Lib.run_neq_ptr_same w _ Tryz.underlying212 hj]
 go_wp2
 go_end0
 exact ⟨rfl,rfl⟩
set_option maxHeartbeats 1048576 in
set_option maxRecDepth 100000 in
theorem copyCheck_fresh (b:Nat) (w:World) (h0:w.cell? ⟨b,0,none⟩=some (.pointer none)) (hsh:w.shape? b=some (214,2)) (hfz:w.frozen? ⟨b,0,none⟩=false) :
  Calls Tryz.prog 176 #[.pointer (some ⟨b,0,none⟩)] w fun e w'=>e=.returned (.tuple #[])∧w'=w.setCell ⟨b,0,none⟩ (.pointer (some ⟨b,0,none⟩)):=by
 obtain ⟨j,hj,hjs⟩:=Option.map_eq_some_iff.1 b_size
 go_enter Tryz.func176,Tryz.ntmps176
 go_wp2
 rw [Lib.run_to_unsafe w ⟨b,0,none⟩ Tryz.underlying212 Tryz.underlying253 hj (by rw [hjs]; decide) hsh (Nat.zero_lt_succ 1)]
 simp only [Result.andThen]
 rw [Oper.upon_value]
 go_wp2
 rw [run_callFunc_extern Tryz.func192 (by kernel_rfl) (by kernel_rfl) (by kernel_rfl) (e:=Extern.AbiNoEscape.same) (by kernel_rfl)]
 rw [Lib.run_noEscape]
 simp only [Result.andThen]
 rw [Oper.upon_value]
 go_wp2
 rw [Lib.run_from_unsafe w ⟨b,0,none⟩ Tryz.underlying253 Tryz.underlying212 hj hsh b_lies]
 simp only [Result.andThen]
 rw [Oper.upon_value]
 go_wp2
 go_end0
 exact ⟨rfl,rfl⟩
theorem copyCheck (B b:Nat) (bs:List Value) (w:World) (h:Lib.IsBuilder 214 5 B b bs w) :
  Calls Tryz.prog 176 #[.pointer (some ⟨b,0,none⟩)] w fun e w'=>e=.returned (.tuple #[])∧(Lib.BuilderAt 214 5 B b (.pointer (some ⟨b,0,none⟩)) bs w'∧Below B w w'):=by
 rcases h with h | h
 ·refine (copyCheck_fresh b w h.cell0 h.shape h.frozen0).mono ?_
  rintro e w' ⟨rfl,rfl⟩
  exact ⟨rfl,h.used _,(Below.refl B w).setCell (p:=⟨b,0,none⟩) h.1 _⟩
 ·refine (copyCheck_used b w h.cell0).mono ?_
  rintro e w' ⟨rfl,rfl⟩
  exact ⟨rfl,h,Below.refl B _⟩
set_option maxHeartbeats 2000000 in
set_option maxRecDepth 100000 in
theorem writeString (B b:Nat) (bs:List Value) (s:ByteArray) (w:World) (h:Lib.IsBuilder 214 5 B b bs w) (hlen:bs.length+s.size≤140737488355328) (hBw:B≤w.heap.size) :
  Calls Tryz.prog 148 #[.pointer (some ⟨b,0,none⟩),.string s] w fun e w'=>e=.returned (.tuple #[.int .i64 s.size,.nilIface])∧(Lib.BuilderAt 214 5 B b (.pointer (some ⟨b,0,none⟩)) (bs ++ Lib.strCells s) w'∧Below B w w'):=by
 obtain ⟨i0,hi,hz0,hz1,hz2⟩:=info_parts byte_info
 go_enter Tryz.func148,Tryz.ntmps148
 go_wp2_with (go_at_call 176; refine (copyCheck B b bs _ h).mono ?_)
 rintro e w1 ⟨rfl,h1,hb1⟩
 obtain ⟨hB,v,hbk,hown,hne⟩:=h1
 have c0:w1.cell? ⟨b,0,none⟩=some (.pointer (some ⟨b,0,none⟩)):=by rw [Lib.cell_of_heap hbk]; rfl
 have c1:w1.cell? ⟨b,1,none⟩=some v:=by rw [Lib.cell_of_heap hbk]; rfl
 go_wp2_with (at_builtin; refine Lib.wpList_append_own_string _ rfl _ _ 205 9 rfl B 5 i0 Tryz.underlying205 Tryz.underlying9 hi hz0 hz1 hz2 _ _ _ rfl hown s rfl ?c3 ?c4 ?c5 ?_)
 case c3=>unfold maxLen; omega
 case c4=>omega
 case c5=>have:=hb1.size; omega
 intro v' w2 hown' hgrow _
 have hlt:b<w1.heap.size:=by
  rcases Nat.lt_or_ge b w1.heap.size with h' | h'
  ·exact h'
  ·simp [Array.getElem?_eq_none h'] at hbk
 have hb2:w2.heap[b]?=some (.cells #[.pointer (some ⟨b,0,none⟩),v] 214 (0,0)):=by
  rw [hgrow.block b hlt (fun e=>hne e.symm)]
  exact hbk
 have d0:w2.cell? ⟨b,0,none⟩=some (.pointer (some ⟨b,0,none⟩)):=by rw [Lib.cell_of_heap hb2]; rfl
 have d1:w2.cell? ⟨b,1,none⟩=some v:=by rw [Lib.cell_of_heap hb2]; rfl
 have f1:w2.frozen? ⟨b,1,none⟩=false:=Lib.frozen_of_heap hb2 1
 obtain ⟨ao,n',cap,rfl⟩:∃ ao n' cap,v'=.slice ao n' cap:=by
  rcases hown'.2 with ⟨hv,_⟩ | ⟨g,cap,cur,hv,_⟩
  ·exact ⟨_,_,_,hv⟩
  ·exact ⟨_,_,_,hv⟩
 go_wp2
 go_ret2
 refine ⟨rfl,?_,?_⟩
 ·exact Lib.BuilderAt.put (T:=214) (e:=5) hB hb2 (bs':=bs ++ Lib.strCells s) (by simpa [Lib.strCells_length] using hown') (by decide)
 ·exact (hb1.grown hgrow (by have:=hb1.size; omega) (fun k hk=>(hown.lt k hk).1)).setCell (p:=⟨b,1,none⟩) hB _
end Go.Proofs.YtlfpfkallgkjdaaGreat.Tk
end

section
namespace Go.Proofs.YtlfpfkallgkjdaaGreat
open Go Go.RowKit
section
variable {P:Program} {ops:Array Oper} {md:Region.Mode} {C:World→Prop} {G:World→World→Prop} {Q:Act→World→Prop} {S:Nat→Option RSpec} {n g:Nat} {K:Array Bool→Act→(Nat→World→Prop)→Prop}
def TAnyL (P:Program) (md:Region.Mode) (ops:Array Oper) (C:World→Prop) (G:World→World→Prop) (S:Nat→Option RSpec) (n:Nat) (K:Array Bool→Act→(Nat→World→Prop)→Prop):Nat→Array Bool→Act→(Nat→World→Prop)→Prop
 | 0,listed,a,F=>SatT C F→K listed a F
 | fuel+1,listed,a,F=>SatT C F→(Region.ready md ops listed≠[] ∧
  ∀ i∈Region.ready md ops listed,i<n∧∀ o,ops[i]?=some o→stepT P ops C G md S i o (TAnyL P md ops C G S n K fuel (listed.setIfInBounds i true)) a F)
theorem wpAny_of_TL (hS:∀ i s,S i=some s→∀ x w w',G w w'→s.Φ x w→s.Φ x w') {Q':Exit→Act→World→Prop} (hK:∀ listed a F w,K listed a F→C w→(∀ j,F j w)→wpAny P md ops Q' g listed a w) :
  ∀ (fuel:Nat) (listed:Array Bool) (a:Act) (F:Nat→World→Prop) (w:World),C w→(∀ j,F j w)→Lasts G F→TAnyL P md ops C G S n K fuel listed a F→wpAny P md ops Q' (fuel+g) listed a w
 | 0,_,a,F,w,hC,hF,_,h=>by rw [Nat.zero_add]; exact hK _ _ _ _ (h ⟨w,hC,hF⟩) hC hF
 | fuel+1,listed,a,F,w,hC,hF,hL,h=>by
  rw [show fuel+1+g=(fuel+g)+1 by omega]
  have h:=h ⟨w,hC,hF⟩
  refine ⟨fun h0=>absurd h0 h.1,fun i hi=>?_⟩
  unfold wpOp
  obtain ⟨_,o,ho,_⟩:=mem_ready.1 hi
  simp only [ho]
  have hs:=(h.2 i hi).2 o ho
  unfold stepT at hs
  split
  ·rename_i hw
   rw [if_pos hw] at hs
   left
   split at hs
   ·rename_i hSi
    obtain ⟨c,h1,h2⟩:=hs
    rcases h1 w hC (fun e _ _=>hF e.on) with hr | ⟨hr,rfl⟩
    ·unfold Oper.wp; rw [hr]
     exact wpAny_of_TL hS hK fuel _ _ F w hC hF hL h2
    ·unfold Oper.wp; rw [hr]
     exact wpAny_of_TL hS hK fuel _ _ F w hC hF hL h2
   ·rename_i s hSi
    refine wp_of_gives ?_ (hs.1 w hC (fun e _ _=>hF e.on))
    rintro v w' hg ⟨hC',x,rfl,hx⟩
    refine wpAny_of_TL hS hK fuel _ _ _ w' hC' ?_ (hL.upd i (hS i s hSi x)) (hs.2 x)
    intro j
    unfold upd
    split
    ·exact ⟨hL j _ _ hg (hF j),hx⟩
    ·exact hL j _ _ hg (hF j)
  ·rename_i hw
   rw [if_neg hw] at hs
   exact wpAny_of_TL hS hK fuel _ _ F w hC hF hL hs
theorem TAnyL_first (hS:∀ i s,S i=some s→∀ x w w',G w w'→s.Φ x w→s.Φ x w') {i:Nat} {oi:Oper} (hi:ops[i]?=some oi) (hsel:∀ (j:Nat) (o:Oper) cs b,ops[j]?=some o→o.op≠.select cs b)
  (hs:Region.sinkB md ops n=true) (hc:Region.chainB md ops n=true) (hn:n<ops.size) (hin:i<n) (hdone:∀ listed a F,K listed a F→∀ j∈Region.ready md ops listed,n≤j)
  {V:Type} {f:V→Value} {p:V→Option (World→Prop)} :
  ∀ (fuel:Nat) (listed:Array Bool) (a:Act) (F:Nat→World→Prop),HeadInv md ops n listed→Lasts G F →
   (∀ j oj,ops[j]?=some oj→j≠i→listed.getD j true=false→(∀ e∈oj.after,Region.binds md e=true→e.on≠i)→oi.apart ops oj=true) →
   i∈Region.ready md ops listed→Head P ops C G md S i oi a F V f p →
   (∀ x,TAnyL P md ops C G S n K fuel (listed.setIfInBounds i true) (a.put oi.dst (f x)) (updO F i (p x)))→TAnyL P md ops C G S n K (fuel+1) listed a F:=by
 intro fuel
 induction fuel with
 | zero =>
  intro listed a F inv hL _ hr hy H hsat
  have hun:=(mem_ready.1 hr).1
  refine ⟨fun h=>(by rw [h] at hr; cases hr),fun j hj=>?_⟩
  have hjn:j<n:=by
   rcases Nat.lt_or_ge j n with h | h
   ·exact h
   ·exact absurd hj (tail_waits hs hc hn inv _ i rfl hin hun j h)
  refine ⟨hjn,fun oj hoj=>?_⟩
  by_cases hji:j=i
  ·subst hji
   rw [hi] at hoj
   injection hoj with hoj
   subst hoj
   exact hy.step H
  ·obtain ⟨x,hx⟩:=hy.sat hL hsat
   have:=hdone _ _ _ (H x hx) j (ready_mono hj hji)
   omega
 | succ fuel ih =>
  intro listed a F inv hL hfree hr hy H hsat
  have hun0:=(mem_ready.1 hr).1
  refine ⟨fun h=>(by rw [h] at hr; cases hr),fun j hj=>?_⟩
  have hjn:j<n:=by
   rcases Nat.lt_or_ge j n with h | h
   ·exact h
   ·exact absurd hj (tail_waits hs hc hn inv _ i rfl hin hun0 j h)
  refine ⟨hjn,fun oj hoj=>?_⟩
  by_cases hji:j=i
  ·subst hji
   rw [hi] at hoj
   injection hoj with hoj
   subst hoj
   exact hy.step H
  ·obtain ⟨hjun,oj',hoj',hall⟩:=mem_ready.1 hj
   rw [hoj] at hoj'
   injection hoj' with hoj'
   subst hoj'
   have hnot:∀ e∈oj.after,Region.binds md e=true→e.on≠i:=fun e he hb heq=>by
    have h1:=hall e he hb
    have h0:=(mem_ready.1 hr).1
    rw [heq] at h1
    rcases Nat.lt_or_ge i listed.size with h' | h'
    ·simp [h'] at h0 h1; rw [h0] at h1; cases h1
    ·simp [Array.getElem?_eq_none h'] at h1
   have hnot2:∀ e∈oi.after,Region.binds md e=true→e.on≠j:=fun e he hb heq=>by
    obtain ⟨h0,o2,ho2,hall2⟩:=mem_ready.1 hr
    rw [hi] at ho2
    injection ho2 with ho2
    subst ho2
    have h1:=hall2 e he hb
    rw [heq] at h1
    rcases Nat.lt_or_ge j listed.size with h' | h'
    ·simp [h'] at hjun h1; rw [hjun] at h1; cases h1
    ·simp [Array.getElem?_eq_none h'] at h1
   have hap:=hfree j oj hoj hji hjun hnot
   obtain ⟨a1,a2,a3⟩:=Oper.apart_spec hap
   have hsi:∀ cs b,oi.op≠.select cs b:=fun cs b=>hsel i oi cs b hi
   have hsj:∀ cs b,oj.op≠.select cs b:=fun cs b=>hsel j oj cs b hoj
   obtain ⟨x0,hx0⟩:=hy.sat hL hsat
   obtain ⟨Vj,fj,pj,hj0,_⟩:=head_of_step (((H x0 hx0).2 j (ready_mono hj hji)).2 oj hoj)
   have hjH:∀ x,Head P ops C G md S j oj (a.put oi.dst (f x)) (updO F i (p x)) Vj fj pj:=fun x =>
    hj0.same ((execOp_put oj hsj a oi.dst _ a1).trans (execOp_put oj hsj a oi.dst _ a1).symm) ((wanted_put oj a oi.dst _ a1).trans (wanted_put oj a oi.dst _ a1).symm) (fun w=>(deps_updO hnot w).trans (deps_updO hnot w).symm)
   have hja:Head P ops C G md S j oj a F Vj fj pj:=hj0.same (execOp_put oj hsj a oi.dst _ a1).symm (wanted_put oj a oi.dst _ a1).symm (fun w=>(deps_updO hnot w).symm)
   refine hja.step fun y=>?_
   refine ih (listed.setIfInBounds j true) (a.put oj.dst (fj y)) (updO F j (pj y)) (inv.set hj hjn) (hja.lasts hS hL y) ?_ (ready_mono hr (Ne.symm hji)) ?_ ?_
   ·intro k ok hk hki hun hno
    refine hfree k ok hk hki ?_ hno
    by_cases hjk:j=k
    ·subst hjk; exact hjun
    ·rw [getD_set_ne true hjk] at hun; exact hun
   ·exact hy.same (execOp_put oi hsi a oj.dst _ a3) (wanted_put oi a oj.dst _ a3) (fun w=>deps_updO hnot2 w)
   ·intro x
    rw [← updO_comm (Ne.symm hji),← Act.put_comm a (f x) (fj y) a2,Array.setIfInBounds_comm _ _ hji]
    have hb:SatT C (updO F i (p x))→TAnyL P md ops C G S n K fuel ((listed.setIfInBounds i true).setIfInBounds j true) ((a.put oi.dst (f x)).put oj.dst (fj y)) (updO (updO F i (p x)) j (pj y)):=by
     intro hsx
     obtain ⟨V',f',p',h',hk'⟩:=head_of_step (((H x hsx).2 j (ready_mono hj hji)).2 oj hoj)
     obtain ⟨y',e1,e2⟩:=(hjH x).one h' hsx y
     rw [← e1,← e2]
     exact hk' y'
    cases fuel with
    | zero=>exact fun hs=>hb (sat_updO hs) hs
    | succ fuel=>exact fun hs=>hb (sat_updO hs) hs
theorem TAnyL_lex (hS:∀ i s,S i=some s→∀ x w w',G w w'→s.Φ x w→s.Φ x w') (hsel:Region.noSelect ops=true) (hs:Region.sinkB md ops n=true) (hc:Region.chainB md ops n=true) (hn:n<ops.size) :
  ∀ (l:List Oper) (k:Nat) (listed:Array Bool) (a:Act) (F:Nat→World→Prop),HeadInv md ops n listed→Lasts G F→(∀ j,j<l.length→l[j]?=ops[k+j]?)→k+l.length=n →
  Region.lexHead md ops g l.length k listed=true→wpGrow P ops C G md S Q l k a F →
  TAnyL P md ops C G S n (fun listed' a' F'=>Region.seqB md ops g n listed'=true∧FinT C Q a' F') l.length listed a F
 | [],k,listed,a,F,_,_,_,hk,hB,h=>fun _=>by
  have:k=n:=by simpa using hk
  subst this
  exact ⟨by simpa [Region.lexHead] using hB,h⟩
 | o :: l,k,listed,a,F,inv,hL,hl,hk,hB,h=>by
  have h0:ops[k]?=some o:=by simpa using (hl 0 (by simp)).symm
  simp only [List.length_cons,Region.lexHead,Bool.and_eq_true] at hB
  obtain ⟨⟨hr,hf⟩,hB'⟩:=hB
  have hkn:k<n:=by simp only [List.length_cons] at hk; omega
  have hr':k∈Region.ready md ops listed:=by simpa using hr
  obtain ⟨V,f,p,hh,hk'⟩:=head_of_step (show stepT P ops C G md S k o (wpGrow P ops C G md S Q l (k+1)) a F from h)
  exact TAnyL_first hS h0 (Region.noSelect_spec hsel) hs hc hn hkn (fun listed' a' F' hL=>seqB_ready hL.1) l.length listed a F inv hL (Region.free_spec h0 hf) hr' hh
   (fun x=>TAnyL_lex hS hsel hs hc hn l (k+1) _ _ _ (inv.set hr' hkn) (hh.lasts hS hL x) (fun j hj=>by have:=hl (j+1) (by simp; omega); simpa [Nat.add_assoc,Nat.add_comm 1 j] using this) (by simp only [List.length_cons] at hk; omega) hB' (hk' x))
theorem wp_region_grow_tail {id:Nat} {Q':Exit→Act→World→Prop} {a:Act} {w:World} {l:List Oper} (n:Nat) (S:Nat→Option RSpec) (C:World→Prop) (G:World→World→Prop)
  (hm:P.follows .mixedOrders=true) (hB:Region.lexTailB .any l.toArray n=true) (hS:∀ i s,S i=some s→∀ x w w',G w w'→s.Φ x w→s.Φ x w') (hC:C { w with drawn:=w.drawn+1 })
  (h:GrowAt P l.toArray C G .any S (fun a w=>wpList P l.toArray Q' (l.drop n) a w) (l.take n) 0 a (fun _ _=>True)):(Code.region id l.toArray true).wp P Q' a w:=by
 simp only [Region.lexTailB,Bool.and_eq_true,decide_eq_true_eq] at hB
 obtain ⟨⟨⟨⟨hsel,hn⟩,hs⟩,hc⟩,hlex⟩:=hB
 have hn':n<l.length:=by simpa using hn
 have htl:(l.take n).length=n:=by simp; omega
 have hdl:(l.drop n).length=l.toArray.size - n:=by simp
 have inv0:HeadInv .any l.toArray n (Array.replicate l.toArray.size false) :=
  ⟨by simp,fun j oj _ hl=>(by rw [getD_replicate_false] at hl; cases hl),fun t _ ht=>getD_in (by simpa using ht) (getD_replicate_false _ _)⟩
 have H:=TAnyL_lex (C:=C) (G:=G) (md:=.any) (g:=l.toArray.size - n) hS hsel hs hc hn (l.take n) 0 _ a (fun _ _=>True) inv0 (fun _ _ _ _ _=>trivial) (fun j hj=>by
  have hj':j<n:=by rw [htl] at hj; exact hj
  simp [hj']) (by simpa using htl) (by rw [htl]; exact hlex) h.out
 refine wp_region_any hm ?_
 have:=wpAny_of_TL (Q':=Q') (g:=l.toArray.size - n) hS (fun listed a' F' w' hL hC' hF'=>by
  have:=wpAny_of_seq (md:=.any) (Q':=Q') (l.drop n) n listed a' w' (fun j=>by simp [List.getElem?_drop]) (by rw [hdl]; exact hL.1) (hL.2 w' hC' hF')
  rwa [hdl] at this) _ _ _ _ _ hC (fun _=>trivial) (fun _ _ _ _ _=>trivial) H
 rw [htl,show n+(l.toArray.size - n)=l.toArray.size by omega] at this
 exact this
theorem give_value {o:Oper} {a:Act} {w:World} {R:Value→World→Prop} {u:Value} {w':World} (hr:(execOp a.eval o).run P w=.ok (.value u) w') (hg:G w w') (h:R u w'):growUpon P G w R ((execOp a.eval o).run P w):=by
 rw [hr]; exact ⟨hg,h⟩
end
end Go.Proofs.YtlfpfkallgkjdaaGreat
end

section
namespace Go.Proofs.YtlfpfkallgkjdaaGreat.Ss
open Go.Sort
variable {α:Type} [Inhabited α]
def swpR (d:Array α) (a b n x:Nat) : α:=if a≤x∧x<a+n then d[x+(b - a)]! else if b≤x∧x<b+n then d[x - (b - a)]! else d[x]!
theorem swpR_zero (d:Array α) (a b x:Nat):swpR d a b 0 x=d[x]!:=by
 unfold swpR
 rw [if_neg (by omega),if_neg (by omega)]
theorem swp_get (d:Array α) (i j x:Nat) (hi:i<d.size) (hj:j<d.size):(swp d i j)[x]! = if x=j then d[i]! else if x=i then d[j]! else d[x]!:=by
 by_cases e1:x=j
 ·subst e1
  rw [if_pos rfl,swp_right d i x hj]
 ·rw [if_neg e1]
  by_cases e2:x=i
  ·subst e2
   rw [if_pos rfl,swp_left d x j hi e1]
  ·rw [if_neg e2,swp_other d i j x e2 e1]
theorem swpR_step (d dk:Array α) (a b k:Nat) (hab:a+k<b) (hs:dk.size=d.size) (hb:b+k<d.size) (h:∀ x,dk[x]! = swpR d a b k x):∀ x,(swp dk (a+k) (b+k))[x]! = swpR d a b (k+1) x:=by
 intro x
 rw [swp_get dk (a+k) (b+k) x (by omega) (by omega),h,h,h]
 unfold swpR
 by_cases e1:x=b+k
 ·subst e1
  rw [if_pos rfl,if_neg (by omega),if_neg (by omega),if_neg (by omega),if_pos (by omega)]
  congr 1
  omega
 ·rw [if_neg e1]
  by_cases e2:x=a+k
  ·subst e2
   rw [if_pos rfl,if_neg (by omega),if_neg (by omega),if_pos (by omega)]
   congr 1
   omega
  ·rw [if_neg e2]
   by_cases c1:a≤x∧x<a+k
   ·rw [if_pos c1,if_pos (by omega)]
   ·rw [if_neg c1]
    by_cases c2:b≤x∧x<b+k
    ·rw [if_pos c2,if_neg (by omega),if_pos (by omega)]
    ·rw [if_neg c2,if_neg (by omega),if_neg (by omega)]
def rotR (d:Array α) (a m b x:Nat) : α:=if a≤x∧x<a+(b - m) then d[x+(m - a)]! else if a+(b - m)≤x∧x<b then d[x - (b - m)]! else d[x]!
theorem rot_gt (d d':Array α) (m i j:Nat) (hji:j<i) (him:i≤m) (h:∀ x,d'[x]! = swpR d (m - i) m j x) (x:Nat):rotR d' (m - (i - j)) m (m+j) x=rotR d (m - i) m (m+j) x:=by
 unfold rotR
 simp only [h]
 unfold swpR
 repeat' split
 all_goals first | (exfalso; omega) | rfl | (congr 1; omega)
theorem rot_lt (d d':Array α) (m i j:Nat) (hij:i<j) (him:i≤m) (h:∀ x,d'[x]! = swpR d (m - i) (m+j - i) i x) (x:Nat):rotR d' (m - i) m (m+(j - i)) x=rotR d (m - i) m (m+j) x:=by
 unfold rotR
 simp only [h]
 unfold swpR
 repeat' split
 all_goals first | (exfalso; omega) | rfl | (congr 1; omega)
theorem rot_eq (d:Array α) (m i:Nat) (him:i≤m) (x:Nat):swpR d (m - i) m i x=rotR d (m - i) m (m+i) x:=by
 unfold rotR swpR
 repeat' split
 all_goals first | (exfalso; omega) | rfl | (congr 1; omega)
end Go.Proofs.YtlfpfkallgkjdaaGreat.Ss
end

section
namespace Go.Proofs.YtlfpfkallgkjdaaGreat.Ss
open Go.Sort Go.Proofs
variable {α:Type} [Inhabited α] (cf : α→α→Int) (tag : α→Nat)
def bef (x y : α):Prop:=cf x y<0∨(¬ cf y x<0∧tag x<tag y)
variable {cf tag}
theorem lt_false {x y : α}:ltOf cf x y=false↔¬ cf x y<0:=by
 unfold ltOf
 exact decide_eq_false_iff_not
theorem lt_true {x y : α}:ltOf cf x y=true↔cf x y<0:=by
 unfold ltOf
 exact decide_eq_true_iff
theorem bef_trans (hW:SWO (ltOf cf)) {x y z : α} (h1:bef cf tag x y) (h2:bef cf tag y z):bef cf tag x z:=by
 rcases h1 with h1 | ⟨h1,t1⟩
 ·rcases h2 with h2 | ⟨h2,t2⟩
  ·exact .inl (lt_true.1 (hW.trans _ _ _ (lt_true.2 h1) (lt_true.2 h2)))
  ·refine .inl (Classical.byContradiction fun h=>?_)
   exact lt_false.1 (hW.ntrans x z y (lt_false.2 h) (lt_false.2 h2)) h1
 ·rcases h2 with h2 | ⟨h2,t2⟩
  ·refine .inl (Classical.byContradiction fun h=>?_)
   exact lt_false.1 (hW.ntrans y x z (lt_false.2 h1) (lt_false.2 h)) h2
  ·exact .inr ⟨lt_false.1 (hW.ntrans z y x (lt_false.2 h2) (lt_false.2 h1)),by omega⟩
theorem bef_lt {x y : α} (h:cf x y<0):bef cf tag x y:=.inl h
theorem bef_ge {x y : α} (ht:tag y<tag x) (h:¬ cf x y<0):bef cf tag y x:=.inr ⟨h,ht⟩
variable (cf tag)
def Srt (d:Array α) (a b:Nat):Prop:=∀ x y,a≤x→x<y→y<b→bef cf tag d[x]! d[y]!
def Tg (d:Array α) (a m b:Nat):Prop:=∀ x y,a≤x→x<m→m≤y→y<b→tag d[x]!<tag d[y]!
variable {cf tag}
theorem Srt.step_l (hW:SWO (ltOf cf)) {d:Array α} {a b x y:Nat} {z : α} (h:Srt cf tag d a b) (ha:a≤x) (hxy:x≤y) (hb:y<b) (hz:bef cf tag d[y]! z):bef cf tag d[x]! z:=by
 rcases Nat.lt_or_ge x y with hlt | hge
 ·exact bef_trans hW (h x y ha hlt hb) hz
 ·obtain rfl:x=y:=by omega
  exact hz
theorem Srt.step_r (hW:SWO (ltOf cf)) {d:Array α} {a b x y:Nat} {z : α} (h:Srt cf tag d a b) (ha:a≤x) (hxy:x≤y) (hb:y<b) (hz:bef cf tag z d[x]!):bef cf tag z d[y]!:=by
 rcases Nat.lt_or_ge x y with hlt | hge
 ·exact bef_trans hW hz (h x y ha hlt hb)
 ·obtain rfl:x=y:=by omega
  exact hz
theorem Srt.sub {d:Array α} {a b a' b':Nat} (h:Srt cf tag d a b) (ha:a≤a') (hb:b'≤b):Srt cf tag d a' b':=fun x y h1 h2 h3=>h x y (by omega) h2 (by omega)
theorem Srt.one (d:Array α) {a b:Nat} (h:b≤a+1):Srt cf tag d a b:=fun x y h1 h2 h3=>by omega
theorem Srt.join {d:Array α} {a m b:Nat} (h1:Srt cf tag d a m) (h2:Srt cf tag d m b) (h3:∀ x y,a≤x→x<m→m≤y→y<b→bef cf tag d[x]! d[y]!):Srt cf tag d a b:=fun x y hx hxy hy=>by
 by_cases c1:y<m
 ·exact h1 x y hx hxy c1
 ·by_cases c2:x<m
  ·exact h3 x y hx c2 (by omega) hy
  ·exact h2 x y (by omega) hxy hy
theorem rot_id (d:Array α) (s m e:Nat) (h:s=m∨e=m) (hs:s≤m) (he:m≤e) (x:Nat):d[x]! = rotR d s m e x:=by
 unfold rotR
 rcases h with rfl | rfl
 ·repeat' split
  all_goals first | (exfalso; omega) | rfl | (congr 1; omega)
 ·repeat' split
  all_goals first | (exfalso; omega) | rfl | (congr 1; omega)
theorem sym_split (hW:SWO (ltOf cf)) {d d1:Array α} {a m b mid s e:Nat} (h1:a≤s) (h2:s≤m) (h3:m≤e) (h4:e≤b) (h5:s≤mid) (h6:mid≤e) (h7:mid+m=s+e) (S1:Srt cf tag d a m) (S2:Srt cf tag d m b) (T:Tg tag d a m b)
  (hA:s=a∨e=b∨bef cf tag d[s - 1]! d[e]!) (hB:s=m∨e=m∨bef cf tag d[e - 1]! d[s]!) (hd:∀ x,d1[x]! = rotR d s m e x) :
  (Srt cf tag d1 a s∧Srt cf tag d1 s mid∧Tg tag d1 a s mid)∧(Srt cf tag d1 mid e∧Srt cf tag d1 e b∧Tg tag d1 mid e b)∧(∀ x y,a≤x→x<mid→mid≤y→y<b→bef cf tag d1[x]! d1[y]!):=by
 have g1:∀ x,x<s→d1[x]! = d[x]!:=fun x hx=>by rw [hd]; unfold rotR; rw [if_neg (by omega),if_neg (by omega)]
 have g2:∀ x,s≤x→x<mid→d1[x]! = d[x+(m - s)]!:=fun x hx hy=>by rw [hd]; unfold rotR; rw [if_pos (by omega)]
 have g3:∀ x,mid≤x→x<e→d1[x]! = d[x - (e - m)]!:=fun x hx hy=>by rw [hd]; unfold rotR; rw [if_neg (by omega),if_pos (by omega)]
 have g4:∀ x,e≤x→d1[x]! = d[x]!:=fun x hx=>by rw [hd]; unfold rotR; rw [if_neg (by omega),if_neg (by omega)]
 refine ⟨⟨fun x y p1 p2 p3=>?_,fun x y p1 p2 p3=>?_,fun x y p1 p2 p3 p4=>?_⟩,⟨fun x y p1 p2 p3=>?_,fun x y p1 p2 p3=>?_,fun x y p1 p2 p3 p4=>?_⟩,fun x y p1 p2 p3 p4=>?_⟩
 ·rw [g1 x (by omega),g1 y (by omega)]; exact S1 x y p1 p2 (by omega)
 ·rw [g2 x (by omega) (by omega),g2 y (by omega) (by omega)]; exact S2 _ _ (by omega) (by omega) (by omega)
 ·rw [g1 x (by omega),g2 y (by omega) (by omega)]; exact T _ _ (by omega) (by omega) (by omega) (by omega)
 ·rw [g3 x (by omega) (by omega),g3 y (by omega) (by omega)]; exact S1 _ _ (by omega) (by omega) (by omega)
 ·rw [g4 x (by omega),g4 y (by omega)]; exact S2 _ _ (by omega) (by omega) (by omega)
 ·rw [g3 x (by omega) (by omega),g4 y (by omega)]; exact T _ _ (by omega) (by omega) (by omega) (by omega)
 ·by_cases c1:x<s
  ·rw [g1 x c1]
   by_cases c2:y<e
   ·rw [g3 y p3 c2]; exact S1 _ _ (by omega) (by omega) (by omega)
   ·rw [g4 y (by omega)]
    rcases hA with hA | hA | hA
    ·omega
    ·omega
    ·exact S1.step_l hW (y:=s - 1) p1 (by omega) (by omega) (S2.step_r hW (x:=e) (by omega) (by omega) p4 hA)
  ·rw [g2 x (by omega) p2]
   by_cases c2:y<e
   ·rw [g3 y p3 c2]
    rcases hB with hB | hB | hB
    ·omega
    ·omega
    ·exact S2.step_l hW (y:=e - 1) (by omega) (by omega) (by omega) (S1.step_r hW (x:=s) (by omega) (by omega) (by omega) hB)
   ·rw [g4 y (by omega)]; exact S2 _ _ (by omega) (by omega) (by omega)
def shL (d:Array α) (a k x:Nat) : α:=if a≤x∧x<k then d[x+1]! else if x=k then d[a]! else d[x]!
theorem shL_zero (d:Array α) (a x:Nat):d[x]! = shL d a a x:=by
 unfold shL
 repeat' split
 all_goals first | (exfalso; omega) | rfl | (congr 1)
theorem shL_step {d dk:Array α} {a k:Nat} (hak:a≤k) (hs:dk.size=d.size) (hk:k+1<d.size) (h:∀ x,dk[x]! = shL d a k x) (x:Nat):(swp dk k (k+1))[x]! = shL d a (k+1) x:=by
 rw [swp_get dk k (k+1) x (by omega) (by omega)]
 simp only [h]
 unfold shL
 repeat' split
 all_goals first | (exfalso; omega) | rfl | (congr 1; omega)
theorem shL_srt (hW:SWO (ltOf cf)) {d d1:Array α} {a i b:Nat} (hai:a<i) (hib:i≤b) (S:Srt cf tag d (a+1) b) (h1:∀ h,a+1≤h→h<i→bef cf tag d[h]! d[a]!) (h2:∀ h,i≤h→h<b→bef cf tag d[a]! d[h]!) (hd:∀ x,d1[x]! = shL d a (i - 1) x):Srt cf tag d1 a b:=fun x y p1 p2 p3=>by
 have g1:∀ x,a≤x→x<i - 1→d1[x]! = d[x+1]!:=fun x hx hy=>by rw [hd]; unfold shL; rw [if_pos (by omega)]
 have g2:d1[i - 1]! = d[a]!:=by rw [hd]; unfold shL; rw [if_neg (by omega),if_pos rfl]
 have g3:∀ x,i≤x→d1[x]! = d[x]!:=fun x hx=>by rw [hd]; unfold shL; rw [if_neg (by omega),if_neg (by omega)]
 by_cases c1:x<i - 1
 ·rw [g1 x p1 c1]
  by_cases c2:y<i - 1
  ·rw [g1 y (by omega) c2]; exact S _ _ (by omega) (by omega) (by omega)
  ·by_cases c3:y=i - 1
   ·rw [c3,g2]; exact h1 _ (by omega) (by omega)
   ·rw [g3 y (by omega)]; exact S _ _ (by omega) (by omega) (by omega)
 ·by_cases c4:x=i - 1
  ·rw [c4,g2,g3 y (by omega)]; exact h2 _ (by omega) (by omega)
  ·rw [g3 x (by omega),g3 y (by omega)]; exact S _ _ (by omega) (by omega) (by omega)
def shR (d:Array α) (m k x:Nat) : α:=if k<x∧x≤m then d[x - 1]! else if x=k then d[m]! else d[x]!
theorem shR_zero (d:Array α) (m x:Nat):d[x]! = shR d m m x:=by
 unfold shR
 repeat' split
 all_goals first | (exfalso; omega) | rfl | (congr 1)
theorem shR_step {d dk:Array α} {m k:Nat} (hkm:k+1≤m) (hs:dk.size=d.size) (hm:m<d.size) (h:∀ x,dk[x]! = shR d m (k+1) x) (x:Nat):(swp dk (k+1) k)[x]! = shR d m k x:=by
 rw [swp_get dk (k+1) k x (by omega) (by omega)]
 simp only [h]
 unfold shR
 repeat' split
 all_goals first | (exfalso; omega) | rfl | (congr 1; omega)
theorem shR_srt (hW:SWO (ltOf cf)) {d d1:Array α} {a i m:Nat} (hai:a≤i) (him:i≤m) (S:Srt cf tag d a m) (h1:∀ h,a≤h→h<i→bef cf tag d[h]! d[m]!) (h2:∀ h,i≤h→h<m→bef cf tag d[m]! d[h]!) (hd:∀ x,d1[x]! = shR d m i x):Srt cf tag d1 a (m+1):=fun x y p1 p2 p3=>by
 have g1:∀ x,i<x→x≤m→d1[x]! = d[x - 1]!:=fun x hx hy=>by rw [hd]; unfold shR; rw [if_pos (by omega)]
 have g2:d1[i]! = d[m]!:=by rw [hd]; unfold shR; rw [if_neg (by omega),if_pos rfl]
 have g3:∀ x,x<i→d1[x]! = d[x]!:=fun x hx=>by rw [hd]; unfold shR; rw [if_neg (by omega),if_neg (by omega)]
 by_cases c1:x<i
 ·rw [g3 x c1]
  by_cases c2:y<i
  ·rw [g3 y c2]; exact S _ _ (by omega) (by omega) (by omega)
  ·by_cases c3:y=i
   ·rw [c3,g2]; exact h1 _ (by omega) (by omega)
   ·rw [g1 y (by omega) (by omega)]; exact S _ _ (by omega) (by omega) (by omega)
 ·by_cases c4:x=i
  ·rw [c4,g2,g1 y (by omega) (by omega)]; exact h2 _ (by omega) (by omega)
  ·rw [g1 x (by omega) (by omega),g1 y (by omega) (by omega)]; exact S _ _ (by omega) (by omega) (by omega)
theorem sym_done {d1 d2 d3:Array α} {a mid b:Nat} (ham:a≤mid) (hmb:mid≤b) (hb:b≤d1.size) (h:∀ x y,a≤x→x<mid→mid≤y→y<b→bef cf tag d1[x]! d1[y]!) (P2:PermIn a mid d1 d2) (S2:Srt cf tag d2 a mid) (P3:PermIn mid b d2 d3) (S3:Srt cf tag d3 mid b):Srt cf tag d3 a b:=by
 have q2:∀ x,x<a∨mid≤x→d2[x]! = d1[x]!:=P2.2.1
 have q3:∀ x,x<mid∨b≤x→d3[x]! = d2[x]!:=P3.2.1
 have e2:∀ x,a≤x→x<mid→∀ y,mid≤y→y<b→bef cf tag d2[x]! d2[y]!:=fun x hx hxm y hy hyb=>by
  rw [q2 y (.inr hy)]
  exact permIn_all d1 d2 a mid (fun z=>bef cf tag z d1[y]!) (by omega) P2 (fun i hi hi2=>h i y hi hi2 hy hyb) x hx hxm
 refine Srt.join (m:=mid) (fun x y p1 p2 p3=>?_) S3 (fun x y p1 p2 p3 p4=>?_)
 ·rw [q3 x (.inl (by omega)),q3 y (.inl p3)]; exact S2 x y p1 p2 p3
 ·rw [q3 x (.inl p2)]
  exact permIn_all d2 d3 mid b (fun z=>bef cf tag d2[x]! z) (by rw [P2.1]; exact hb) P3 (fun i hi hi2=>e2 x p1 p2 i hi hi2) y p3 p4
theorem Tg.sub {d:Array α} {a m b a' b':Nat} (h:Tg tag d a m b) (ha:a≤a') (hb:b'≤b):Tg tag d a' m b':=fun x y h1 h2 h3 h4=>h x y (by omega) h2 h3 (by omega)
theorem sym_lo (hW:SWO (ltOf cf)) {d:Array α} {a m b p c:Nat} (S1:Srt cf tag d a m) (S2:Srt cf tag d m b) (T:Tg tag d a m b) (hc:c<m) (hq:m≤p - c) (hac:a≤c) (h:¬ cf d[p - c]! d[c]!<0) (x:Nat) (hx:a≤x) (hxc:x≤c) (hpb:p - x<b):bef cf tag d[x]! d[p - x]! :=
 S1.step_l hW (y:=c) hx hxc hc (S2.step_r hW (x:=p - c) hq (by omega) hpb (bef_ge (T c (p - c) hac hc hq (by omega)) h))
theorem sym_hi (hW:SWO (ltOf cf)) {d:Array α} {a m b p c:Nat} (S1:Srt cf tag d a m) (S2:Srt cf tag d m b) (hac:a≤c) (hqb:p - c<b) (h:cf d[p - c]! d[c]!<0) (x:Nat) (hx:c≤x) (hxm:x<m) (hpx:m≤p - x):bef cf tag d[p - x]! d[x]! :=
 S2.step_l hW (y:=p - c) hpx (by omega) hqb (S1.step_r hW (x:=c) hac hx hxm (bef_lt h))
theorem Srt.keep {d d':Array α} {a b:Nat} (h:Srt cf tag d a b) (hk:∀ x,a≤x→x<b→d'[x]! = d[x]!):Srt cf tag d' a b:=fun x y p1 p2 p3=>by
 rw [hk x p1 (by omega),hk y (by omega) p3]
 exact h x y p1 p2 p3
theorem Tg.keep {d d':Array α} {a m b:Nat} (h:Tg tag d a m b) (hk:∀ x,a≤x→x<b→d'[x]! = d[x]!):Tg tag d' a m b:=fun x y p1 p2 p3 p4=>by
 rw [hk x p1 (by omega),hk y (by omega) p4]
 exact h x y p1 p2 p3 p4
end Go.Proofs.YtlfpfkallgkjdaaGreat.Ss
end

section
namespace Go.Proofs.YtlfpfkallgkjdaaGreat.Ss
open Go.Shelf Go.RowKit Go.Lib Go.Sort
variable {α:Type} [Inhabited α] {enc : α→List Value}
set_option maxHeartbeats 400000 in
theorem swapRange_any (k:Nat) (hk2:k=2) (fv:Value) (blk off cap a b n:Nat) (d0 d:Array α) (w0 w:World) (R:RowK enc k w0 blk off d0) (hs:d.size=d0.size) (S:SWK enc k w0 blk off d w) (hab:a+n≤b) (hb:b+n≤d.size) (hsz:d.size<1099511627776) :
  Calls Tryz.prog 193 #[.slice (some ⟨blk,off,none⟩) d.size cap,.int .i64 a,.int .i64 b,.int .i64 n,fv] w fun e w' =>
   e=.returned (.tuple #[])∧∃ d',SWK enc k w0 blk off d' w'∧d'.size=d.size∧PermIn a (b+n) d d'∧∀ x,d'[x]! = swpR d a b n x:=by
 have zE:∀ w,(Go.sizeOf 105).run Tryz.prog w=.ok k w:=by rw [hk2]; exact Tryz.sizeOf105
 have mixed:Tryz.prog.follows Departure.mixedOrders=true:=by kernel_rfl
 have S0:Aside (SWK enc k w0 blk off d w):=S
 clear S hk2
 go_enter Tryz.func193,Tryz.ntmps193
 go_wp2
 go_loopw [10] (fun i wr=>∃ (j:Nat) (dk:Array α),j≤n∧i=.int .i64 (j:Nat)∧Aside (SWK enc k w0 blk off dk wr)∧dk.size=d.size∧Hid (PermIn a (b+n) d dk)∧Hid (∀ x,dk[x]! = swpR d a b j x)) (fun i _=>n - (intOf i).toNat)
 case atStart=>exact ⟨0,d,Nat.zero_le _,rfl,S0,rfl,zh (permIn_refl _ _ _),zh (fun x=>(swpR_zero d a b x).symm)⟩
 case round =>
  clear S0
  obtain ⟨j,dk,hj,rfl,S1,hds,HP,HX⟩:=hrel
  by_cases hlt:j<n
  ·have hji:(j:Int)<(n:Int):=by omega
   have S2:Aside (SWK enc k w0 blk off (swp dk (a+j) (b+j)) ((wr.drew.setCells blk (off+(a+j) * k) (enc dk[b+j]!)).setCells blk (off+(b+j) * k) (enc dk[a+j]!))):=S1.out.swapped R (a+j) (b+j) (by omega) (by omega)
   have l44a:=S1.out.ld1 R (by omega) Tryz.prog (a+j) (by omega)
   have l44b:=S1.out.ld1 R (by omega) Tryz.prog (b+j) (by omega)
   have s44a:=S1.out.st1 R (by omega) Tryz.prog (a+j) (by omega) dk[b+j]!
   have s44b:=S1.out.st2 R (by omega) Tryz.prog (a+j) (b+j) (by omega) (by omega) dk[b+j]! dk[a+j]!
   have n44a:(enc dk[a+j]!).length=k:=R.hk _
   have n44b:(enc dk[b+j]!).length=k:=R.hk _
   have HP2:Hid (PermIn a (b+n) d (swp dk (a+j) (b+j))):=zh (permIn_trans _ _ _ _ _ HP.out (swp_permIn dk a (b+n) (a+j) (b+j) (by omega) (by omega) (by omega) (by omega) (by omega)))
   have HX2:=zh (swpR_step d dk a b j (by omega) hds (by omega) HX.out)
   generalize enc dk[a+j]! = cI44 at S2 l44a s44b n44a
   generalize enc dk[b+j]! = cJ44 at S2 l44b s44a s44b n44b
   have ea44:(((a:Int)+(j:Int))).toNat=a+j:=by omega
   have ra44:IntKind.i64.wrap ((a:Int)+(j:Int))=(a:Int)+(j:Int):=by rw [IntKind.wrap_i64]; omega
   have rb44:IntKind.i64.wrap ((b:Int)+(j:Int))=(b:Int)+(j:Int):=by rw [IntKind.wrap_i64]; omega
   have pa44:(0:Int)≤(a:Int)+(j:Int):=by omega
   have pb44:(0:Int)≤(b:Int)+(j:Int):=by omega
   have ba44:(a:Int)+(j:Int)<(d.size:Int):=by omega
   have bb44:(b:Int)+(j:Int)<(d.size:Int):=by omega
   have eb44:(((b:Int)+(j:Int))).toNat=b+j:=by omega
   clear S1 HP HX
   go_wp2_with fail
   go_big_region_o
   clear l44a l44b s44a s44b
   generalize (wr.drew.setCells blk (off+(a+j) * k) cJ44).setCells blk (off+(b+j) * k) cI44=w2 at S2 ⊢
   go_wp2
   go_roundw
   case rel=>exact ⟨j+1,swp dk (a+j) (b+j),by omega,by go_num,S2,by rw [size_swp]; exact hds,HP2,HX2⟩
   case measure=>simp [intOf]; omega
  ·obtain rfl:j=n:=by omega
   go_wp2
   go_end0
   exact ⟨rfl,dk,S1.out,hds,HP.out,HX.out⟩
end Go.Proofs.YtlfpfkallgkjdaaGreat.Ss
end
