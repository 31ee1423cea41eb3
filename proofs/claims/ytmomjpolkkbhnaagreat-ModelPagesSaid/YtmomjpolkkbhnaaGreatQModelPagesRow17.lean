/- A stable sort: blocks, sorted and merged. (No program in sight.) -/
import Derived.Shelf.GgSortFunc.RowK
import Derived.Sort.OwnSorted
import Derived.Deep.QuietTactic
import Derived.BigQuiet
import Derived.Lib.AppendZerosOnto
import Derived.Laws.NewBlocks
import Derived.Test.YtmomjpolkkbhnaaGreatQModelPagesRow14
import Derived.Test.YtmomjpolkkbhnaaGreatQModelPagesRow2
import Derived.Test.YtmomjpolkkbhnaaGreatQModelPagesRow19
import Derived.Test.YtmomjpolkkbhnaaGreatQModelPagesRow0
import Derived.Test.YtmomjpolkkbhnaaGreatQModelPagesRow37
set_option linter.unusedSectionVars false
set_option linter.unusedSimpArgs false
set_option linter.unusedVariables false
set_option maxRecDepth 20000
section
namespace Go.Proofs.YtmomjpolkkbhnaaGreat.Ss
open Go.Sort Go.Proofs
variable {α:Type} [Inhabited α] {cf : α→α→Int} {tag : α→Nat}
def Tgb (tag : α→Nat) (d:Array α) (B n:Nat):Prop:=∀ c x y,x<c * B→c * B≤y→y<n→tag d[x]!<tag d[y]!
def Sb (cf : α→α→Int) (tag : α→Nat) (d:Array α) (B n:Nat):Prop:=∀ c,Srt cf tag d (c * B) (min ((c+1) * B) n)
theorem Tgb.perm {d d':Array α} {B n a b:Nat} (hT:Tgb tag d B n) (hb:b≤d.size) (hin:∀ c,c * B≤a∨b≤c * B) (P:PermIn a b d d') (hbn:b≤n):Tgb tag d' B n:=by
 intro c x y hx hy hn
 have hc:=hin c
 have hT:=hT c
 generalize c * B=q at *
 have h1:∀ x0,x0<q→tag d[x0]!<tag d'[y]!:=fun x0 hx0=>by
  by_cases hyi:a≤y∧y<b
  ·exact permIn_all d d' a b (fun z=>tag d[x0]!<tag z) hb P (fun i hi hi2=>hT x0 i hx0 (by omega) (by omega)) y hyi.1 hyi.2
  ·rw [P.2.1 y (by omega)]; exact hT x0 y hx0 hy hn
 by_cases hxi:a≤x∧x<b
 ·exact permIn_all d d' a b (fun z=>tag z<tag d'[y]!) hb P (fun i hi hi2=>h1 i (by omega)) x hxi.1 hxi.2
 ·rw [P.2.1 x (by omega)]; exact h1 x hx
theorem Tgb.twice {d:Array α} {B n:Nat} (h:Tgb tag d B n):Tgb tag d (2 * B) n:=fun c x y hx hy hn=>by
 have e:c * (2 * B)=(c * 2) * B:=(Nat.mul_assoc c 2 B).symm
 rw [e] at hx hy
 exact h (c * 2) x y hx hy hn
structure Ph (cf : α→α→Int) (tag : α→Nat) (d0 dB dk:Array α) (B n c:Nat):Prop where
 hs:dk.size=d0.size
 hBs:dB.size=d0.size
 hn:n≤d0.size
 P:PermIn 0 n d0 dk
 T:Tgb tag dk (2 * B) n
 S:∀ c'<c,Srt cf tag dk (c' * (2 * B)) ((c'+1) * (2 * B))
 K:∀ x,c * (2 * B)≤x→dk[x]! = dB[x]!
 TB:Tgb tag dB B n
 SB:Sb cf tag dB B n
theorem Ph.start {d0 dB:Array α} {B n:Nat} (hBs:dB.size=d0.size) (hn:n≤d0.size) (P:PermIn 0 n d0 dB) (T:Tgb tag dB B n) (S:Sb cf tag dB B n):Ph cf tag d0 dB dB B n 0 :=
 ⟨hBs,hBs,hn,P,T.twice,fun c' h=>by omega,fun _ _=>rfl,T,S⟩
theorem blk_a (c B:Nat):(c * 2) * B=c * (2 * B):=Nat.mul_assoc c 2 B
theorem blk_m (c B:Nat):(c * 2+1) * B=c * (2 * B)+B:=by rw [Nat.add_mul,Nat.mul_assoc,Nat.one_mul]
theorem blk_b (c B:Nat):(c+1) * (2 * B)=c * (2 * B)+2 * B:=by rw [Nat.add_mul,Nat.one_mul]
theorem Ph.wants {d0 dB dk:Array α} {B n c a b:Nat} (h:Ph cf tag d0 dB dk B n c) (ha:a=c * (2 * B)) (hb:b=min (a+2 * B) n) (hm:a+B<n):Srt cf tag dk a (a+B)∧Srt cf tag dk (a+B) b∧Tg tag dk a (a+B) b:=by
 have s1:=h.SB (c * 2)
 have s2:=h.SB (c * 2+1)
 have t1:=h.TB (c * 2+1)
 have e3:(c * 2+1+1) * B=c * (2 * B)+2 * B:=by rw [Nat.add_mul,blk_m]; omega
 rw [blk_m,blk_a,← ha] at s1
 rw [e3,blk_m,← ha] at s2
 rw [blk_m,← ha] at t1
 have K:=h.K
 rw [← ha] at K
 have hb1:b≤n:=by omega
 refine ⟨(s1.sub (zG _) (by omega)).keep (fun x h1 h2=>K x h1),(s2.sub (zG _) (by omega)).keep (fun x h1 h2=>K x (by omega)),fun x y h1 h2 h3 h4=>?_⟩
 rw [K x h1,K y (by omega)]
 exact t1 x y h2 h3 (by omega)
theorem Ph.next {d0 dB dk d':Array α} {B n c a:Nat} (h:Ph cf tag d0 dB dk B n c) (ha:a=c * (2 * B)) (hb:a+2 * B≤n) (P:PermIn a (a+2 * B) dk d') (S:Srt cf tag d' a (a+2 * B)):Ph cf tag d0 dB d' B n (c+1):=by
 have hs:=h.hs
 have hn:=h.hn
 refine ⟨P.1.trans hs,h.hBs,hn,permIn_trans _ _ _ _ _ h.P (permIn_mono _ _ _ _ _ _ (by omega) (by omega) (by omega) P),h.T.perm (by omega) (fun c'=>?_) P (by omega),fun c' hc'=>?_,fun x hx=>?_,h.TB,h.SB⟩
 ·rcases Nat.lt_or_ge c c' with g | g
  ·refine .inr ?_
   have:=Nat.mul_le_mul_right (2 * B) (show c+1≤c' from g)
   rw [blk_b,← ha] at this
   exact this
  ·exact .inl (by rw [ha]; exact Nat.mul_le_mul_right _ g)
 ·rcases Nat.lt_or_ge c' c with g | g
  ·have e:=Nat.mul_le_mul_right (2 * B) (show c'+1≤c from g)
   rw [← ha] at e
   exact (h.S c' g).keep (fun x h1 h2=>P.2.1 x (.inl (by omega)))
  ·obtain rfl:c'=c:=by omega
   rw [blk_b,← ha]; exact S
 ·rw [blk_b,← ha] at hx
  rw [P.2.1 x (.inr hx)]
  exact h.K x (by rw [← ha]; omega)
theorem Ph.last {d0 dB dk d':Array α} {B n c a:Nat} (h:Ph cf tag d0 dB dk B n c) (ha:a=c * (2 * B)) (hb:n<a+2 * B) (hm:a+B<n) (P:PermIn a n dk d') (S:Srt cf tag d' a n):d'.size=d0.size∧PermIn 0 n d0 d'∧Tgb tag d' (2 * B) n∧Sb cf tag d' (2 * B) n:=by
 have hs:=h.hs
 have hn:=h.hn
 refine ⟨P.1.trans hs,permIn_trans _ _ _ _ _ h.P (permIn_mono _ _ _ _ _ _ (by omega) (by omega) (by omega) P),h.T.perm (by omega) (fun c'=>?_) P (by omega),fun c'=>?_⟩
 ·rcases Nat.lt_or_ge c c' with g | g
  ·refine .inr ?_
   have:=Nat.mul_le_mul_right (2 * B) (show c+1≤c' from g)
   rw [blk_b,← ha] at this
   omega
  ·exact .inl (by rw [ha]; exact Nat.mul_le_mul_right _ g)
 ·rcases Nat.lt_trichotomy c' c with g | g | g
  ·have e:=Nat.mul_le_mul_right (2 * B) (show c'+1≤c from g)
   rw [← ha] at e
   exact ((h.S c' g).keep (fun x h1 h2=>P.2.1 x (.inl (by omega)))).sub (zG _) (by omega)
  ·subst g
   rw [blk_b,← ha]
   exact S.sub (zG _) (by omega)
  ·have:=Nat.mul_le_mul_right (2 * B) (show c+1≤c' from g)
   rw [blk_b,← ha] at this
   exact Srt.one _ (by omega)
theorem Ph.done {d0 dB dk:Array α} {B n c a:Nat} (h:Ph cf tag d0 dB dk B n c) (ha:a=c * (2 * B)) (hm:n≤a+B):dk.size=d0.size∧PermIn 0 n d0 dk∧Tgb tag dk (2 * B) n∧Sb cf tag dk (2 * B) n:=by
 refine ⟨h.hs,h.P,h.T,fun c'=>?_⟩
 rcases Nat.lt_trichotomy c' c with g | g | g
 ·exact (h.S c' g).sub (zG _) (by omega)
 ·subst g
  have s1:=h.SB (c' * 2)
  rw [blk_m,blk_a,← ha] at s1
  rw [blk_b,← ha]
  have K:=h.K
  rw [← ha] at K
  exact (s1.sub (zG _) (by omega)).keep (fun x h1 h2=>K x h1)
 ·have:=Nat.mul_le_mul_right (2 * B) (show c+1≤c' from g)
  rw [blk_b,← ha] at this
  exact Srt.one _ (by omega)
theorem Sb.whole {d:Array α} {B n:Nat} (h:Sb cf tag d B n) (hB:n≤B):Srt cf tag d 0 n:=by
 have:=h 0
 rw [Nat.zero_mul,Nat.zero_add,Nat.one_mul] at this
 exact this.sub (zG _) (by omega)
structure Pi (cf : α→α→Int) (tag : α→Nat) (d0 dk:Array α) (B n c:Nat):Prop where
 hs:dk.size=d0.size
 hn:n≤d0.size
 P:PermIn 0 n d0 dk
 T:Tgb tag dk B n
 S:∀ c'<c,Srt cf tag dk (c' * B) ((c'+1) * B)
 K:∀ x,c * B≤x→dk[x]! = d0[x]!
 O:∀ x y,x<y→y<n→tag d0[x]!<tag d0[y]!
theorem Pi.start {d0:Array α} {B n:Nat} (hn:n≤d0.size) (O:∀ x y,x<y→y<n→tag d0[x]!<tag d0[y]!):Pi cf tag d0 d0 B n 0 :=
 ⟨rfl,hn,permIn_refl _ _ _,fun c x y hx hy hn=>O x y (by omega) hn,fun c' h=>by omega,fun _ _=>rfl,O⟩
theorem Pi.next {d0 dk d':Array α} {B n c a:Nat} (h:Pi cf tag d0 dk B n c) (ha:a=c * B) (hb:a+B≤n) (P:PermIn a (a+B) dk d') (S:Srt cf tag d' a (a+B)):Pi cf tag d0 d' B n (c+1):=by
 have hs:=h.hs
 have hn:=h.hn
 have e1:(c+1) * B=a+B:=by rw [Nat.add_mul,Nat.one_mul,ha]
 refine ⟨P.1.trans hs,hn,permIn_trans _ _ _ _ _ h.P (permIn_mono _ _ _ _ _ _ (by omega) (by omega) (by omega) P),h.T.perm (by omega) (fun c'=>?_) P (by omega),fun c' hc'=>?_,fun x hx=>?_,h.O⟩
 ·rcases Nat.lt_or_ge c c' with g | g
  ·refine .inr ?_
   have:=Nat.mul_le_mul_right B (show c+1≤c' from g)
   rw [e1] at this
   exact this
  ·exact .inl (by rw [ha]; exact Nat.mul_le_mul_right _ g)
 ·rcases Nat.lt_or_ge c' c with g | g
  ·have e:=Nat.mul_le_mul_right B (show c'+1≤c from g)
   rw [← ha] at e
   exact (h.S c' g).keep (fun x h1 h2=>P.2.1 x (.inl (by omega)))
  ·obtain rfl:c'=c:=by omega
   rw [e1,← ha]; exact S
 ·rw [e1] at hx
  rw [P.2.1 x (.inr hx)]
  exact h.K x (by rw [← ha]; omega)
theorem Pi.last {d0 dk d':Array α} {B n c a:Nat} (h:Pi cf tag d0 dk B n c) (ha:a=c * B) (hb:n<a+B) (han:a≤n) (P:PermIn a n dk d') (S:Srt cf tag d' a n):d'.size=d0.size∧PermIn 0 n d0 d'∧Tgb tag d' B n∧Sb cf tag d' B n:=by
 have hs:=h.hs
 have hn:=h.hn
 have e1:(c+1) * B=a+B:=by rw [Nat.add_mul,Nat.one_mul,ha]
 refine ⟨P.1.trans hs,permIn_trans _ _ _ _ _ h.P (permIn_mono _ _ _ _ _ _ (by omega) (by omega) (by omega) P),h.T.perm (by omega) (fun c'=>?_) P (by omega),fun c'=>?_⟩
 ·rcases Nat.lt_or_ge c c' with g | g
  ·refine .inr ?_
   have:=Nat.mul_le_mul_right B (show c+1≤c' from g)
   rw [e1] at this
   omega
  ·exact .inl (by rw [ha]; exact Nat.mul_le_mul_right _ g)
 ·rcases Nat.lt_trichotomy c' c with g | g | g
  ·have e:=Nat.mul_le_mul_right B (show c'+1≤c from g)
   rw [← ha] at e
   exact ((h.S c' g).keep (fun x h1 h2=>P.2.1 x (.inl (by omega)))).sub (zG _) (by omega)
  ·subst g
   rw [e1,← ha]
   exact S.sub (zG _) (by omega)
  ·have:=Nat.mul_le_mul_right B (show c+1≤c' from g)
   rw [e1] at this
   exact Srt.one _ (by omega)
theorem Pi.tags {d0 dk:Array α} {B n c a:Nat} (h:Pi cf tag d0 dk B n c) (ha:a=c * B) {x y:Nat} (hx:a≤x) (hxy:x<y) (hy:y<n):tag dk[x]!<tag dk[y]!:=by
 have K:=h.K
 rw [← ha] at K
 rw [K x hx,K y (by omega)]
 exact h.O x y hxy hy
theorem permIn_upto {d d':Array α} {a b i:Nat} (P:PermIn a b d d') (hai:a≤i) (K:∀ x,i≤x→d'[x]! = d[x]!) (hib:i≤b) (hb:b≤d.size):PermIn a i d d':=by
 refine ⟨P.1,fun x hx=>?_,?_⟩
 ·rcases hx with hx | hx
  ·exact P.2.1 x (.inl hx)
  ·exact K x hx
 ·have hs:=P.1
  have e:∀ (c:Array α),b≤c.size→(c.extract a b).toList=(c.extract a i).toList ++ (c.extract i b).toList:=fun c hc=>by
   rw [← Array.toList_append,Array.extract_append_extract]
   congr 2 <;> omega
  have h2:(d'.extract i b).toList=(d.extract i b).toList:=by
   refine List.ext_getElem (by simp [hs]) (fun x h1 h3=>?_)
   have hx:i+x<d.size:=by simp at h3; omega
   have:=K (i+x) (by omega)
   rw [getElem!_pos d' (i+x) (by omega),getElem!_pos d (i+x) hx] at this
   simpa using this
  have P2:=P.2.2
  rw [e d' (by omega),e d hb,h2] at P2
  exact (List.perm_append_right_iff _).1 P2
theorem ins_srt (hW:SWO (ltOf cf)) {di dj:Array α} {a i j:Nat} (haj:a≤j) (hji:j≤i) (S:Srt cf tag di a i) (hT:∀ h,a≤h→h<i→tag di[h]!<tag di[i]!) (hX:∀ x,dj[x]! = shR di i j x) (hG:∀ h,j≤h→h<i→bef cf tag di[i]! di[h]!) (hstop:j≤a∨¬ cf di[i]! di[j - 1]!<0):Srt cf tag dj a (i+1):=by
 refine shR_srt hW haj hji S (fun h h1 h2=>?_) hG hX
 rcases hstop with g | g
 ·omega
 ·exact S.step_l hW (y:=j - 1) h1 (by omega) (by omega) (bef_ge (hT (j - 1) (by omega) (by omega)) g)
end Go.Proofs.YtmomjpolkkbhnaaGreat.Ss
end

section
namespace Go.Proofs.YtmomjpolkkbhnaaGreat.Ss
open Go.RowKit Go.Sort Go.Shelf Go.Lib
variable {α:Type} [Inhabited α] {enc : α→List Value} {k:Nat}
theorem encs_len (hk:∀ x,(enc x).length=k) (l:List α):(l.flatMap enc).length=l.length * k:=by
 induction l with
 | nil=>simp
 | cons x l ih=>rw [List.flatMap_cons,List.length_append,hk,ih,List.length_cons,Nat.add_mul,Nat.one_mul,Nat.add_comm]
theorem encs_get (hk:∀ x,(enc x).length=k) (l:List α) (i j:Nat) (hi:i<l.length) (hj:j<k):(l.flatMap enc)[i * k+j]?=(enc l[i])[j]?:=by
 have:=Qy.flat_get (k:=k) (vss:=l.map enc) (fun v hv=>by obtain ⟨x,_,rfl⟩:=List.mem_map.1 hv; exact hk x) i j (by simpa using hi) hj
 rw [List.getElem_map] at this
 rw [List.flatMap_def]
 exact this
theorem flat_enc (hk:∀ x,(enc x).length=k) (h0 : 0<k) (l:List α):flatK enc k l.toArray=(l.flatMap enc).toArray:=by
 apply Array.ext
 ·simp only [size_flatK,List.size_toArray,encs_len hk]
 ·intro i h1 h2
  rw [size_flatK] at h1
  have hs:l.toArray.size=l.length:=by simp
  rw [hs] at h1
  have hi:i / k<l.length:=Nat.div_lt_of_lt_mul (by rw [Nat.mul_comm]; exact h1)
  have e1:(flatK enc k l.toArray)[i]! = (enc l.toArray[i / k]!)[i % k]!:=get_flatK enc k l.toArray i (by rw [hs]; exact h1)
  rw [getElem!_pos _ i (by rw [size_flatK,hs]; exact h1)] at e1
  have e2:l.toArray[i / k]! = l[i / k]:=by rw [getElem!_pos _ _ (by simpa using hi)]; simp
  have hm:i % k<k:=Nat.mod_lt _ h0
  have g:=encs_get hk l (i / k) (i % k) hi hm
  have ei:i / k * k+i % k=i:=by rw [Nat.mul_comm]; exact Nat.div_add_mod i k
  rw [ei] at g
  rw [e1,e2]
  have h3:i<(l.flatMap enc).length:=by rw [encs_len hk]; exact h1
  rw [List.getElem?_eq_getElem h3,List.getElem?_eq_getElem (by rw [hk]; exact hm)] at g
  injection g with g
  rw [getElem!_pos _ _ (by rw [hk]; exact hm),← g]
  simp
theorem holdsE (hk:∀ x,(enc x).length=k) (h0 : 0<k) {w:World} {g:Nat} {cur:Array Value} {e:TypeId} {l:List α} (hb:w.heap[g]?=some (.cells cur e (0,0))) (ht:cur.toList.take (l.length * k)=l.flatMap enc):HoldsK enc k w g 0 l.toArray:=by
 unfold HoldsK
 rw [flat_enc hk h0]
 intro j hj
 have hj':j<(l.flatMap enc).length:=by simpa using hj
 have hj2:j<l.length * k:=by rw [encs_len hk] at hj'; exact hj'
 refine ⟨?_,by simp [World.frozen?,hb]⟩
 have h1:(cur.toList.take (l.length * k))[j]?=(l.flatMap enc)[j]?:=by rw [ht]
 rw [List.getElem?_take_of_lt hj2] at h1
 simp only [World.cell?,hb,Nat.zero_add]
 simp only [Option.isSome_none,Bool.false_eq_true,if_false]
 rw [← Array.getElem?_toList,h1]
 simp [hj',List.getElem?_eq_getElem hj']
theorem heapE {w:World} {g n:Nat} {os:Array Obj} {cur:Array Value} {e:TypeId} {fr:Nat × Nat} (d:Array Value) (hb:w.heap[g]?=some (.cells cur e fr)) :
  (grow (putRow id (Sort.ahead w n) g 0 d) os).heap[g]?=some (.cells (putCells id 0 d cur) e fr):=by
 have hg:g<w.heap.size:=(Array.getElem?_eq_some_iff.1 hb).1
 rw [heap_grow_old _ _ (by simpa using hg)]
 simp [putRow,mapBlock,Sort.ahead,Array.getElem?_modify,hb,onCells]
theorem grownE {w:World} {g n:Nat} {os:Array Obj} (d:Array α):w.grownBy (sortWorldK enc k w g 0 n d os) (some g):=by
 unfold sortWorldK putRowK
 refine ⟨rfl,rfl,rfl,by simp,fun j hj hne=>?_⟩
 rw [heap_grow_old _ _ (by simpa using hj)]
 have:g≠j:=fun e=>hne (by rw [e])
 simp [putRow,mapBlock,Sort.ahead,Array.getElem?_modify,this]
theorem takeE (cur:Array Value) (F:List Value) (h:F.length≤cur.size):(putCells id 0 F.toArray cur).toList.take F.length=F:=by
 apply List.ext_getElem?
 intro j
 by_cases hj:j<F.length
 ·rw [List.getElem?_take_of_lt hj,Array.getElem?_toList]
  simp [putCells,hj,show j<cur.size by omega]
 ·rw [List.getElem?_take_eq_none (by omega),List.getElem?_eq_none (by omega)]
theorem ownE (hk:∀ x,(enc x).length=k) (h0 : 0<k) {w:World} {base g cap n:Nat} {e:TypeId} {os:Array Obj} {cur:Array Value} {l m:List α} (hl:m.length=l.length) (hbase:base≤g) (hb:w.heap[g]?=some (.cells cur e (0,0)))
  (h1:l.length≤cap) (h2:cap≤maxLen) (h3:cur.size=cap * k) :
  (sortWorldK enc k w g 0 n m.toArray os).ownsRow base e k (.slice (some ⟨g,0,none⟩) m.length cap) m.length (m.flatMap enc):=by
 unfold sortWorldK putRowK
 rw [flat_enc hk h0]
 refine ⟨encs_len hk m,.inr ⟨g,cap,_,rfl,hbase,heapE _ hb,by omega,h2,by simp [putCells,h3],?_⟩⟩
 rw [← encs_len hk m]
 exact takeE cur (m.flatMap enc) (by rw [encs_len hk,h3]; exact Nat.mul_le_mul_right k (by omega))
end Go.Proofs.YtmomjpolkkbhnaaGreat.Ss
end

section
namespace Go.Proofs.YtmomjpolkkbhnaaGreat.Qy
open Go.RowKit Ut Tk
end Go.Proofs.YtmomjpolkkbhnaaGreat.Qy
end

section
namespace Go.Proofs.YtmomjpolkkbhnaaGreat.Qy
open Go.RowKit Ut Tk
theorem isPrefix_take (p t:List UInt8):p.isPrefixOf t=(decide (p.length≤t.length) && (t.take p.length == p)):=by
 rw [Bool.eq_iff_iff]
 simp only [List.isPrefixOf_iff_prefix,Bool.and_eq_true,decide_eq_true_eq,beq_iff_eq]
 constructor
 ·rintro ⟨r,rfl⟩
  simp
 ·rintro ⟨_,h⟩
  exact ⟨t.drop p.length,by have:=List.take_append_drop p.length t; rw [h] at this; exact this⟩
def idxF (p:Nat→Bool) (n:Nat):Int:=match (List.range n).find? p with | some i=>(i:Int) | none=>-1
theorem idxF_hit (p:Nat→Bool) (n k:Nat) (hk:k<n) (h:∀ j,j<k→p j=false) (hp:p k=true):idxF p n=(k:Int):=by
 unfold idxF
 have:(List.range n).find? p=some k:=by
  rw [List.find?_range_eq_some]
  exact ⟨hp,by simpa using hk,fun j hj=>by simp [h j hj]⟩
 rw [this]
theorem idxF_no (p:Nat→Bool) (n:Nat) (h:∀ j,j<n→p j=false):idxF p n=-1:=by
 unfold idxF
 have:(List.range n).find? p=none:=by
  rw [List.find?_eq_none]
  intro j hj
  rw [h j (by simpa using hj)]
  decide
 rw [this]
theorem idxF_any (p:Nat→Bool) (n:Nat):decide (0≤idxF p n)=(List.range n).any p:=by
 unfold idxF
 cases h:(List.range n).find? p with
 | none =>
  rw [List.find?_eq_none] at h
  symm
  simp only [Int.reduceNeg,Int.reduceLE,decide_false]
  rw [List.any_eq_false]
  exact h
 | some i =>
  have h1:=List.find?_some h
  have h2:=List.mem_of_find?_eq_some h
  have e:(List.range n).any p=true:=List.any_eq_true.2 ⟨i,h2,h1⟩
  rw [e]
  simp
set_option maxHeartbeats 800000 in
theorem indexTok (TA:Option Addr) (n tc:Nat) (T:List (List UInt8)) (f:Nat) (lb:Array Value) (p:Nat→Bool) (w:World) (hcf:∀ args wx,(callFunc f args).run Tryz.prog wx=.ok (.enter f args) wx) (hT:Reads w w.heap.size 2 TA n (tokC (placed T))) (hn:T.length=n) (hn2:n≤1048576)
  (hf:∀ i (h:i<T.length) wx,Below w.heap.size w wx→Calls Tryz.prog f (#[.agg #[.string (str T[i]),.int .i64 (i:Int)]] ++ lb) wx fun e w'=>e=.returned (.bool (p i))∧Below wx.heap.size wx w') :
  Calls Tryz.prog 179 #[.slice TA n tc,.func (.func f) #[] lb] w fun e w'=>e=.returned (.int .i64 (idxF p n))∧Below w.heap.size w w':=by
 have HT:=zh hT
 have Hn:=zh hn
 have Hf:=zh hf
 clear hT hn hf
 go_enter Tryz.func179,Tryz.ntmps179
 go_wp2
 go_loopw [8] (fun i wr=>∃ k:Nat,k≤n∧i=.int .i64 k∧(∀ j,j<k→p j=false)∧Below w.heap.size w wr) (fun i _=>n - (intOf i).toNat)
 case atStart=>exact ⟨0,Nat.zero_le _,rfl,fun j hj=>by omega,Below.refl _ _⟩
 case round =>
  obtain ⟨k,hk,rfl,hal,hb⟩:=hrel
  have Hal:=zh hal
  have Hb:=zh hb
  clear hal hb
  by_cases hlt:k<n
  ·obtain ⟨tb,tq,rfl,htb,hc1,hc2⟩:=toks_at HT.out Hn.out (k:=k) (by rw [Hn.out]; exact hlt)
   have hd1:=(Hb.out.cell (p:=⟨tb,tq+k * 2,none⟩) htb).trans hc1
   have hd2:=(Hb.out.cell (p:=⟨tb,tq+k * 2+1,none⟩) htb).trans hc2
   have c1:=Hf.out k (by rw [Hn.out]; exact hlt) wr Hb.out
   have Hs:Hid (∀ b,p k=b→(b=true→idxF p n=(k:Int))∧(b=false→∀ j,j<k+1→p j=false)):=zh (fun b hb=>⟨fun e=>idxF_hit p n k hlt Hal.out (by rw [hb,e]),fun e j hj=>by
    by_cases hjk:j=k
    ·rw [hjk,hb,e]
    ·exact Hal.out j (by omega)⟩)
   clear hc1 hc2
   generalize (str (T[k]'(by rw [Hn.out]; exact hlt)))=x at *
   cases hp:p k with
   | true =>
    have Fin:=zh ((Hs.out _ hp).1 rfl)
    rw [hp] at c1
    clear hp Hs
    go_wp2_with fail
    refine c1.mono ?_
    rintro e w2 ⟨rfl,hb2⟩
    have Hb2:=zh (Hb.out.trans (hb2.mono Hb.out.size))
    clear hb2 c1
    go_wp2
    go_ret
    exact ⟨by rw [Fin.out]; rfl,Hb2.out⟩
   | false =>
    have Hn2:=zh ((Hs.out _ hp).2 rfl)
    rw [hp] at c1
    clear hp Hs
    go_wp2_with fail
    refine c1.mono ?_
    rintro e w2 ⟨rfl,hb2⟩
    have Hb2:=zh (Hb.out.trans (hb2.mono Hb.out.size))
    clear hb2 c1
    go_wp2
    go_roundw
    case rel=>exact ⟨k+1,by omega,by go_num,Hn2.out,Hb2.out⟩
    case measure=>simp [intOf]; omega
  ·obtain rfl:k=n:=by omega
   have Fin:=zh (idxF_no p k Hal.out)
   go_wp2
   go_ret
   exact ⟨by rw [Fin.out]; rfl,Hb.out⟩
end Go.Proofs.YtmomjpolkkbhnaaGreat.Qy
end

section
namespace Go.Proofs.YtmomjpolkkbhnaaGreat.Hi
open Go.RowKit
theorem ins_newrow (A X D Z:List Value) (a:Nat) (ha:A.length=a) (hX:X.length=2) :
  (((A ++ Z).take a ++ X ++ (A ++ Z).drop (a+2)).take (a+2) ++ D ++ ((A ++ Z).take a ++ X ++ (A ++ Z).drop (a+2)).drop (a+2+D.length)).take (a+2+D.length)=A ++ X ++ D:=by
 subst ha
 have e1:(A ++ Z).take A.length=A:=by rw [List.take_append_of_le_length (zG _),List.take_of_length_le (zG _)]
 have h2:(A ++ X).length=A.length+2:=by rw [List.length_append,hX]
 rw [e1]
 have e3:(A ++ X ++ (A ++ Z).drop (A.length+2)).take (A.length+2)=A ++ X:=by
  rw [List.take_append_of_le_length (by omega),List.take_of_length_le (by omega)]
 rw [e3,List.take_append_of_le_length (by rw [List.length_append,h2]; omega),List.take_of_length_le (by rw [List.length_append,h2]; omega)]
theorem setRow_size (w:World) (g:Nat) (c:Array Value):(w.setRow g c).heap.size=w.heap.size:=by simp [World.setRow]
theorem alloc_new (w:World) (o:Obj) (N:Nat) (hN:N=w.heap.size):(w.alloc o).heap[N]?=some o:=by subst hN; show (w.heap.push o)[w.heap.size]?=some o; simp
theorem alloc_old (w:World) (o:Obj) (k:Nat) (hk:k<w.heap.size):(w.alloc o).heap[k]?=w.heap[k]?:=by show (w.heap.push o)[k]?=_; simp [Array.getElem?_push,Nat.ne_of_lt hk]
set_option maxHeartbeats 3200000 in
theorem ins_grow (base g cap i vb:Nat) (l:List Bk) (k x:Int) (w:World) (hown:OwnB w base (.slice (some ⟨g,0,none⟩) l.length cap) l) (hi:i<l.length) (hroom:cap<l.length+1) (hl:l.length≤1000000)
  (hv:Blk w vb 91 #[.int .i64 k,.int .i64 x]) (hbase:base≤w.heap.size) :
  Calls Tryz.prog 134 #[.slice (some ⟨g,0,none⟩) l.length cap,.int .i64 (i:Int),.slice (some ⟨vb,0,none⟩) 1 1] w
   (InsPost w base (.slice (some ⟨g,0,none⟩) l.length cap) (l.take i ++ (k,x) :: l.drop i)):=by
 obtain ⟨cur,hcm,hnc,hg,hsz,htk,hbg⟩:∃ cur:Array Value,cap≤maxLen∧l.length≤cap∧w.heap[g]?=some (.cells cur 91 (0,0))∧cur.size=cap * 2∧cur.toList.take (l.length * 2)=bkC l∧base≤g:=by
  rcases hown.2 with ⟨h,_⟩ | ⟨g',cap',cur,h,hb,hg,hnc,hcm,hcs,ht⟩
  ·cases h
  ·injection h with h1 h2 h3
   injection h1 with h1
   injection h1 with h1
   subst h1 h3
   exact ⟨cur,hcm,hnc,hg,hcs,ht,hb⟩
 obtain rfl:cap=l.length:=by omega
 have hgl:g<w.heap.size:=(Array.getElem?_eq_some_iff.1 hg).1
 have hvl:vb<w.heap.size:=hv.lt
 have hi1:((i:Int) == (l.length:Int))=false:=beq_eq_false_iff_ne.2 (by omega)
 have hr1:((l.length:Nat):Int)<(l.length:Int)+1:=by omega
 have hdl:(bkC (l.drop i)).length=(l.length - i) * 2:=by rw [bkC_len,List.length_drop]
 have hal:(bkC (l.take i)).length=i * 2:=by rw [bkC_len,List.length_take]; omega
 have hcell:∀ j u,(bkC l)[j]?=some u→w.cell? ⟨g,j,none⟩=some u:=fun j u hj=>by
  have:=hown.cells (g:=g) rfl j u hj
  rw [add_lit,Nat.zero_add] at this
  exact this
 obtain ⟨inf,hi0,hz0,hzs,hzb⟩:=info_parts bk_info
 have hold:(Builtin.firstCells inf.size i (.slice (some ⟨g,0,none⟩) i l.length)).run Tryz.prog w.drew=.ok (bkC (l.take i)).toArray w.drew:=by
  rw [hzs]
  exact run_firstCells_some w.drew 2 i ⟨g,0,none⟩ i l.length (bkC (l.take i)) hal (fun j v hj=>by
   rw [add_lit,Nat.zero_add]
   rw [bkC_take,List.getElem?_take] at hj
   split at hj
   ·exact hcell j v hj
   ·cases hj)
 obtain ⟨G,hG⟩:∃ G,G=grownCap w (l.length+1) l.length 91:=⟨_,rfl⟩
 have hGn:l.length+1≤G:=by rw [hG]; exact grownCap_ge w _ _ _
 have hG63:G≤maxLen:=by rw [hG]; exact grownCap_le_maxLen w _ _ _ (by unfold maxLen; omega)
 have hG63':G≤9223372036854775807:=by unfold maxLen at hG63; omega
 obtain ⟨ZZ,hZZ⟩:∃ ZZ,ZZ=Builtin.zeroCells (Value.agg #[.int .i64 0,.int .i64 0]).cells (l.length+1 - i) ++ Builtin.zeroCells (Value.agg #[.int .i64 0,.int .i64 0]).cells (G - (l.length+1)):=⟨_,rfl⟩
 have hZl:ZZ.toList.length=(G - i) * 2:=by
  rw [hZZ,Array.length_toList]
  simp [Builtin.zeroCells,Value.cells]
  omega
 have hrz:∀ ty,(Builtin.append_ #[40,3] ty #[.slice (some ⟨g,0,none⟩) i l.length,.int .i64 ((l.length:Int)+1 - (i:Int))]).run Tryz.prog w =
   .ok (.slice (some ⟨w.heap.size,0,none⟩) (l.length+1) G) (w.drew.alloc (.cells (bkC (l.take i) ++ ZZ.toList).toArray 91)):=fun ty=>by
  have h:=Lib.run_append_grow_zeros w 40 3 ty 91 inf _ .i64 .i64 Tryz.underlying40 Tryz.underlying3 hi0 hz0 (some ⟨g,0,none⟩) i l.length (bkC (l.take i)) hold (l.length+1 - i) (by omega) (by omega) (by omega) (by omega) (by rw [hzb]; omega) (by rw [hzb]; exact growslice_fits (by omega) (by omega))
  have e:i+(l.length+1 - i)=l.length+1:=by omega
  have e2:(l.length:Int)+1 - (i:Int)=((l.length+1 - i:Nat):Int):=by omega
  rw [e,← hG] at h
  rw [e2,h,hZZ]
  congr 3
  simp
 obtain ⟨ROW,hROW⟩:∃ ROW,ROW=bkC (l.take i) ++ ZZ.toList:=⟨_,rfl⟩
 rw [← hROW] at hrz
 have hRl:ROW.length=G * 2:=by rw [hROW,List.length_append,hal,hZl]; omega
 obtain ⟨N,hN⟩:∃ N,N=w.heap.size:=⟨_,rfl⟩
 rw [← hN] at hrz
 have hgN:g≠N:=by omega
 have hvN:vb≠N:=by omega
 obtain ⟨W1,hW1⟩:∃ W1,W1=(w.alloc (.cells ROW.toArray 91)).drew:=⟨_,rfl⟩
 have h1N:W1.heap[N]?=some (.cells ROW.toArray 91 (0,0)):=by rw [hW1]; exact alloc_new w _ N hN
 have h1o:∀ j,j<w.heap.size→W1.heap[j]?=w.heap[j]?:=fun j hj=>by rw [hW1]; exact alloc_old w _ j hj
 obtain ⟨R1,hR1⟩:∃ R1,R1=ROW.take (i * 2) ++ [Value.int .i64 k,Value.int .i64 x] ++ ROW.drop (i * 2+2):=⟨_,rfl⟩
 have hR1l:R1.length=G * 2:=by
  rw [hR1,List.length_append,List.length_append,List.length_take,List.length_drop,hRl]
  simp; omega
 have hcpA:∀ ty dc sl,sl=l.length+1 - i→(Builtin.copy_ #[40,40] ty #[.slice (some ⟨N,i * 2,none⟩) sl dc,.slice (some ⟨vb,0,none⟩) 1 1]).run Tryz.prog W1 =
   .ok (Go.goInt (1:Nat)) (W1.setRow N R1.toArray):=fun ty dc sl hsl'=>by
  have h1v:W1.heap[vb]?=some (.cells #[.int .i64 k,.int .i64 x] 91 (0,0)):=(h1o vb hvl).trans hv
  have:=run_copyK W1 40 40 ty 91 2 1 N (i * 2) sl dc ⟨vb,0,none⟩ 1 1 ROW.toArray 91 [.int .i64 k,.int .i64 x] Tryz.underlying40 bk_size h1N (by simp only [Nat.min_def]; split <;> omega) rfl
   (fun j u hj=>by
    rw [add_lit,Nat.zero_add,cell_of_row W1 vb j _ _ _ h1v]
    simpa using hj) (by simp; omega) (by intro u hu; simp at hu; rcases hu with rfl | rfl <;> rfl)
  rw [hR1]
  simpa using this
 have h2N:(W1.setRow N R1.toArray).drew.heap[N]?=some (.cells R1.toArray 91 (0,0)):=setRow_heap W1 N _ _ _ _ h1N
 have h2o:∀ j,j<w.heap.size→(W1.setRow N R1.toArray).drew.heap[j]?=w.heap[j]?:=fun j hj=>(setRow_other W1 N j _ (by omega)).trans (h1o j hj)
 obtain ⟨R2,hR2⟩:∃ R2,R2=R1.take (i * 2+2) ++ bkC (l.drop i) ++ R1.drop (i * 2+2+(bkC (l.drop i)).length):=⟨_,rfl⟩
 have hR2l:R2.length=G * 2:=by
  rw [hR2,List.length_append,List.length_append,List.length_take,List.length_drop,hR1l,hdl]
  omega
 have hcpB:∀ ty dc sc dl sl,dl=l.length - i→sl=l.length - i→(Builtin.copy_ #[40,40] ty #[.slice (some ⟨N,(i+1) * 2,none⟩) dl dc,.slice (some ⟨g,i * 2,none⟩) sl sc]).run Tryz.prog (W1.setRow N R1.toArray).drew =
   .ok (Go.goInt (l.length - i:Nat)) ((W1.setRow N R1.toArray).drew.setRow N R2.toArray):=fun ty dc sc dl sl hdl' hsl'=>by
  have e:(i+1) * 2=i * 2+2:=by omega
  rw [e]
  have:=run_copyK (W1.setRow N R1.toArray).drew 40 40 ty 91 2 (l.length - i) N (i * 2+2) dl dc ⟨g,i * 2,none⟩ sl sc R1.toArray 91 (bkC (l.drop i)) Tryz.underlying40 bk_size h2N (by simp only [Nat.min_def]; split <;> omega) hdl
   (fun j u hj=>by
    rw [add_lit]
    rw [bkC_drop,List.getElem?_drop] at hj
    exact (World.cell?_of_block (h2o g hgl)).trans (hcell _ _ hj)) (by rw [hdl,List.size_toArray]; omega) (bkC_one _)
  rw [hR2]
  exact this
 have hfin:OwnB ((W1.setRow N R1.toArray).drew.setRow N R2.toArray) base (.slice (some ⟨N,0,none⟩) (l.length+1) G) (l.take i ++ (k,x) :: l.drop i):=by
  have hlen:(l.take i ++ (k,x) :: l.drop i).length=l.length+1:=by simp; omega
  unfold OwnB
  rw [hlen]
  refine ⟨by rw [bkC_len,hlen],.inr ⟨N,G,_,rfl,by omega,setRow_heap _ N _ _ _ _ h2N,hGn,hG63,?_,?_⟩⟩
  ·rw [List.size_toArray,hR2l]
  ·have hins:=ins_newrow (bkC (l.take i)) [Value.int .i64 k,Value.int .i64 x] (bkC (l.drop i)) ZZ.toList (i * 2) hal rfl
   rw [← hROW,← hR1,← hR2,hdl] at hins
   have e3:i * 2+2+(l.length - i) * 2=(l.length+1) * 2:=by omega
   rw [e3] at hins
   rw [List.toList_toArray]
   refine hins.trans ?_
   rw [bkC_app,List.append_assoc]
   rfl
 have hgr:w.grownBy ((W1.setRow N R1.toArray).drew.setRow N R2.toArray) (some g) :=
  ⟨by rw [hW1]; rfl,by rw [hW1]; rfl,by rw [hW1]; rfl,by rw [setRow_size]; show _≤(W1.setRow N R1.toArray).heap.size; rw [setRow_size,hW1]; show _≤(w.heap.push _).size; rw [Array.size_push]; omega,fun j hjl hj=>by
   rw [setRow_other _ N j _ (by omega)]; exact h2o j hjl⟩
 have Fin:=zh hfin
 have Gr:=zh hgr
 have hw1:IntKind.i64.wrap ((i:Int)+1)=(i:Int)+1:=IntWalk.i64_in _ (by omega)
 have hb1:(0:Int)≤(i:Int)+1:=by omega
 have htn:((i:Int)+1).toNat=i+1:=by omega
 have hb2:¬ (G=i+1):=by omega
 have hb3:(i:Int)≤(l.length:Int)+1:=by omega
 have hb4:¬ (G=i):=by omega
 have hb5:i≤l.length:=by omega
 have hb6:¬ (l.length=i):=by omega
 subst hW1
 clear hR2 hfin hgr hcell hdl hal hR1 hR1l hR2l hRl hROW hZl hZZ hG hN hold h1N h1o h2N h2o
 go_enter Tryz.func134,Tryz.ntmps134
 go_wp2_with (first
  | (at_builtin; refine Lib.wpList_append_run _ rfl _ _ _ _ rfl _ _ rfl rfl _ _ (hrz _) ?_)
  | (at_builtin; refine Lib.wpList_copy_run _ rfl _ _ 40 40 rfl _ _ rfl rfl (hcpA _ _ _ (by omega)) ?_))
 go_region_law (refine step_copyR rfl _ _ 40 40 rfl _ _ (by simp [Act.eval,Act.put]) (by simp [Act.eval,Act.put]) (hcpB _ _ _ _ _ (by omega) (by omega)) ?_)
 go_wp2
 go_ret
 exact ⟨_,rfl,Fin.out,Gr.out⟩
end Go.Proofs.YtmomjpolkkbhnaaGreat.Hi
end

section
namespace Go.Proofs.YtmomjpolkkbhnaaGreat.Hi
open Go.RowKit
set_option maxHeartbeats 1600000 in
theorem ins_end_some (base g cap vb:Nat) (l:List Bk) (k x:Int) (w:World) (hown:OwnB w base (.slice (some ⟨g,0,none⟩) l.length cap) l) (hl:l.length≤1000000)
  (hv:Blk w vb 91 #[.int .i64 k,.int .i64 x]) (hbase:base≤w.heap.size) :
  Calls Tryz.prog 134 #[.slice (some ⟨g,0,none⟩) l.length cap,.int .i64 (l.length:Int),.slice (some ⟨vb,0,none⟩) 1 1] w
   (InsPost w base (.slice (some ⟨g,0,none⟩) l.length cap) (l ++ [(k,x)])):=by
 obtain ⟨inf,hi0,hz0,hz1,hz2⟩:=info_parts bk_info
 obtain ⟨N,hN⟩:∃ N,N=l.length:=⟨_,rfl⟩
 unfold OwnB at hown
 rw [← hN] at hown hl ⊢
 have Post:Hid (∀ w' v',w'.ownsRow base 91 2 v' (N+1) (bkC l ++ [Value.int .i64 k,Value.int .i64 x])→OwnB w' base v' (l ++ [(k,x)])):=zh (fun w' v' h=>by
  unfold OwnB
  rw [List.length_append,bkC_app,← hN]
  exact h)
 obtain ⟨X,hX⟩:∃ X,X=[Value.int .i64 k,Value.int .i64 x]:=⟨_,rfl⟩
 have hXn:∀ j u,X[j]?=some u→w.cell? ((⟨vb,0,none⟩:Addr).add j)=some u:=fun j u hj=>by
  rw [add_lit,Nat.zero_add,cell_of_row w vb j _ _ _ hv,← hj,hX]
  simp
 have hX1:∀ u∈X,u.oneCell'=true:=by rw [hX]; intro u hu; simp at hu; rcases hu with rfl | rfl <;> rfl
 have hXl:X.length=1 * 2:=by rw [hX]; rfl
 rw [← hX] at Post
 obtain ⟨cs,hcs⟩:∃ cs,cs=bkC l:=⟨_,rfl⟩
 rw [← hcs] at Post hown
 have hN0:N≤cap:=by
  rcases hown.2 with ⟨h,_⟩ | ⟨g',cap',cur,h,hb,hg,hnc,hcm,hcs,ht⟩
  ·cases h
  ·injection h with h1 h2 h3; omega
 clear hX hcs hN hv
 by_cases hc:cap=N
 ·subst hc
  go_enter Tryz.func134,Tryz.ntmps134
  go_wp2_with (at_builtin; refine wpList_append_own _ rfl _ _ 40 rfl base 91 inf _ 2 16 Tryz.underlying40 hi0 hz0 hz1 hz2 rfl (by decide) (.slice (some ⟨g,0,none⟩) cap cap) cap cs rfl hown ⟨vb,0,none⟩ 1 1 X rfl hXl hXn hX1 ?d3 ?d4 hbase ?_)
  case d3=>unfold maxLen; omega
  case d4=>omega
  intro v' w5 hown5 hg5 _
  have F:=zh (Post.out _ _ hown5)
  have G:=zh hg5
  clear hown5 hg5 hown
  go_wp2
  go_ret
  exact ⟨_,rfl,F.out,G.out⟩
 ·go_enter Tryz.func134,Tryz.ntmps134
  go_wp2_with (at_builtin; refine wpList_append_own _ rfl _ _ 40 rfl base 91 inf _ 2 16 Tryz.underlying40 hi0 hz0 hz1 hz2 rfl (by decide) (.slice (some ⟨g,0,none⟩) N cap) N cs rfl hown ⟨vb,0,none⟩ 1 1 X rfl hXl hXn hX1 ?d3 ?d4 hbase ?_)
  case d3=>unfold maxLen; omega
  case d4=>omega
  intro v' w5 hown5 hg5 _
  have F:=zh (Post.out _ _ hown5)
  have G:=zh hg5
  clear hown5 hg5 hown
  go_wp2
  go_ret
  exact ⟨_,rfl,F.out,G.out⟩
set_option maxHeartbeats 1600000 in
theorem ins_end_nil (base vb:Nat) (k x:Int) (w:World)
  (hv:Blk w vb 91 #[.int .i64 k,.int .i64 x]) (hbase:base≤w.heap.size) :
  Calls Tryz.prog 134 #[.slice none 0 0,.int .i64 0,.slice (some ⟨vb,0,none⟩) 1 1] w
   (InsPost w base (.slice none 0 0) [(k,x)]):=by
 obtain ⟨inf,hi0,hz0,hz1,hz2⟩:=info_parts bk_info
 have hown:=World.ownsRow_nil w base 91 2
 have Post:Hid (∀ w' v',w'.ownsRow base 91 2 v' (0+1) ([] ++ [Value.int .i64 k,Value.int .i64 x])→OwnB w' base v' [(k,x)]):=zh (fun w' v' h=>h)
 obtain ⟨X,hX⟩:∃ X,X=[Value.int .i64 k,Value.int .i64 x]:=⟨_,rfl⟩
 have hXn:∀ j u,X[j]?=some u→w.cell? ((⟨vb,0,none⟩:Addr).add j)=some u:=fun j u hj=>by
  rw [add_lit,Nat.zero_add,cell_of_row w vb j _ _ _ hv,← hj,hX]
  simp
 have hX1:∀ u∈X,u.oneCell'=true:=by rw [hX]; intro u hu; simp at hu; rcases hu with rfl | rfl <;> rfl
 have hXl:X.length=1 * 2:=by rw [hX]; rfl
 rw [← hX] at Post
 clear hX hv
 go_enter Tryz.func134,Tryz.ntmps134
 go_wp2_with (at_builtin; refine wpList_append_own _ rfl _ _ 40 rfl base 91 inf _ 2 16 Tryz.underlying40 hi0 hz0 hz1 hz2 rfl (by decide) (.slice none 0 0) 0 [] rfl hown ⟨vb,0,none⟩ 1 1 X rfl hXl hXn hX1 ?d3 ?d4 hbase ?_)
 case d3=>decide
 case d4=>omega
 intro v' w5 hown5 hg5 _
 have F:=zh (Post.out _ _ hown5)
 have G:=zh hg5
 clear hown5 hg5 hown
 go_wp2
 go_ret
 exact ⟨_,rfl,F.out,G.out⟩
theorem ins_any (base i vb:Nat) (v:Value) (l:List Bk) (k x:Int) (w:World) (hown:OwnB w base v l) (hi:i≤l.length) (hl:l.length≤1000000)
  (hv:Blk w vb 91 #[.int .i64 k,.int .i64 x]) (hne:v.ownBlock≠some vb) (hbase:base≤w.heap.size) :
  Calls Tryz.prog 134 #[v,.int .i64 (i:Int),.slice (some ⟨vb,0,none⟩) 1 1] w
   (InsPost w base v (l.take i ++ (k,x) :: l.drop i)):=by
 rcases hown.2 with ⟨rfl,h0⟩ | ⟨g,cap,cur,rfl,hb,hg,hnc,hcm,hcs,ht⟩
 ·have:l=[]:=List.eq_nil_of_length_eq_zero h0
  subst this
  obtain rfl:i=0:=by simpa using hi
  exact ins_end_nil base vb k x w hv hbase
 ·have hne':vb≠g:=fun e=>hne (by rw [e]; rfl)
  by_cases he:i=l.length
  ·subst he
   rw [List.take_length,List.drop_length]
   exact ins_end_some base g cap vb l k x w hown hl hv hbase
  ·by_cases hr:l.length+1≤cap
   ·exact ins_room base g cap i vb l k x w hown (by omega) hr hl hv hne'
   ·exact ins_grow base g cap i vb l k x w hown (by omega) (by omega) hl hv hbase
end Go.Proofs.YtmomjpolkkbhnaaGreat.Hi
end
