/- A stable sort: plain. (No program in sight.) -/
import Derived.Test.YtmomjpolkkbhnaaGreatProg
import Derived.Shelf.SlSortCmp.KitK
import Derived.Sort.LotA
import Derived.Outline
import Derived.Test.YtmomjpolkkbhnaaGreatQModelPagesRow26
import Derived.Test.YtmomjpolkkbhnaaGreatQModelPagesRow7
import Derived.Test.YtmomjpolkkbhnaaGreatQModelPagesRow1
import Derived.Test.YtmomjpolkkbhnaaGreatQModelPagesRow3
import Derived.Test.YtmomjpolkkbhnaaGreatQModelPagesRow19
import Derived.Test.YtmomjpolkkbhnaaGreatQModelPagesRow0
set_option linter.unusedSectionVars false
set_option linter.unusedSimpArgs false
set_option linter.unusedVariables false
set_option maxRecDepth 20000
section
namespace Go.Proofs.YtmomjpolkkbhnaaGreat.Ss
open Go.Sort
variable {α:Type} [Inhabited α]
def swpR (d:Array α) (a b n x:Nat) : α:=if a≤x∧x<a+n then d[x+(b - a)]! else if b≤x∧x<b+n then d[x - (b - a)]! else d[x]!
theorem swpR_zero (d:Array α) (a b x:Nat):swpR d a b 0 x=d[x]!:=by
 unfold swpR
 rw [if_neg (by omega),if_neg (by omega)]
theorem swp_get (d:Array α) (i j x:Nat) (hi:i<d.size) (hj:j<d.size):(swp d i j)[x]! = if x=j then d[i]! else if x=i then d[j]! else d[x]!:=by
 by_cases e1:x=j
 ·subst e1
  rw [if_pos rfl,swp_right d i x hj]
 ·rw [if_neg e1]
  by_cases e2:x=i
  ·subst e2
   rw [if_pos rfl,swp_left d x j hi e1]
  ·rw [if_neg e2,swp_other d i j x e2 e1]
theorem swpR_step (d dk:Array α) (a b k:Nat) (hab:a+k<b) (hs:dk.size=d.size) (hb:b+k<d.size) (h:∀ x,dk[x]! = swpR d a b k x):∀ x,(swp dk (a+k) (b+k))[x]! = swpR d a b (k+1) x:=by
 intro x
 rw [swp_get dk (a+k) (b+k) x (by omega) (by omega),h,h,h]
 unfold swpR
 by_cases e1:x=b+k
 ·subst e1
  rw [if_pos rfl,if_neg (by omega),if_neg (by omega),if_neg (by omega),if_pos (by omega)]
  congr 1
  omega
 ·rw [if_neg e1]
  by_cases e2:x=a+k
  ·subst e2
   rw [if_pos rfl,if_neg (by omega),if_neg (by omega),if_pos (by omega)]
   congr 1
   omega
  ·rw [if_neg e2]
   by_cases c1:a≤x∧x<a+k
   ·rw [if_pos c1,if_pos (by omega)]
   ·rw [if_neg c1]
    by_cases c2:b≤x∧x<b+k
    ·rw [if_pos c2,if_neg (by omega),if_pos (by omega)]
    ·rw [if_neg c2,if_neg (by omega),if_neg (by omega)]
def rotR (d:Array α) (a m b x:Nat) : α:=if a≤x∧x<a+(b - m) then d[x+(m - a)]! else if a+(b - m)≤x∧x<b then d[x - (b - m)]! else d[x]!
theorem rot_gt (d d':Array α) (m i j:Nat) (hji:j<i) (him:i≤m) (h:∀ x,d'[x]! = swpR d (m - i) m j x) (x:Nat):rotR d' (m - (i - j)) m (m+j) x=rotR d (m - i) m (m+j) x:=by
 unfold rotR
 simp only [h]
 unfold swpR
 repeat' split
 all_goals first | (exfalso; omega) | rfl | (congr 1; omega)
theorem rot_lt (d d':Array α) (m i j:Nat) (hij:i<j) (him:i≤m) (h:∀ x,d'[x]! = swpR d (m - i) (m+j - i) i x) (x:Nat):rotR d' (m - i) m (m+(j - i)) x=rotR d (m - i) m (m+j) x:=by
 unfold rotR
 simp only [h]
 unfold swpR
 repeat' split
 all_goals first | (exfalso; omega) | rfl | (congr 1; omega)
theorem rot_eq (d:Array α) (m i:Nat) (him:i≤m) (x:Nat):swpR d (m - i) m i x=rotR d (m - i) m (m+i) x:=by
 unfold rotR swpR
 repeat' split
 all_goals first | (exfalso; omega) | rfl | (congr 1; omega)
end Go.Proofs.YtmomjpolkkbhnaaGreat.Ss
end

section
namespace Go.Proofs.YtmomjpolkkbhnaaGreat.Ss
open Go.Sort Go.Proofs
variable {α:Type} [Inhabited α] (cf : α→α→Int) (tag : α→Nat)
def bef (x y : α):Prop:=cf x y<0∨(¬ cf y x<0∧tag x<tag y)
variable {cf tag}
theorem lt_false {x y : α}:ltOf cf x y=false↔¬ cf x y<0:=by
 unfold ltOf
 exact decide_eq_false_iff_not
theorem lt_true {x y : α}:ltOf cf x y=true↔cf x y<0:=by
 unfold ltOf
 exact decide_eq_true_iff
theorem bef_trans (hW:SWO (ltOf cf)) {x y z : α} (h1:bef cf tag x y) (h2:bef cf tag y z):bef cf tag x z:=by
 rcases h1 with h1 | ⟨h1,t1⟩
 ·rcases h2 with h2 | ⟨h2,t2⟩
  ·exact .inl (lt_true.1 (hW.trans _ _ _ (lt_true.2 h1) (lt_true.2 h2)))
  ·refine .inl (Classical.byContradiction fun h=>?_)
   exact lt_false.1 (hW.ntrans x z y (lt_false.2 h) (lt_false.2 h2)) h1
 ·rcases h2 with h2 | ⟨h2,t2⟩
  ·refine .inl (Classical.byContradiction fun h=>?_)
   exact lt_false.1 (hW.ntrans y x z (lt_false.2 h1) (lt_false.2 h)) h2
  ·exact .inr ⟨lt_false.1 (hW.ntrans z y x (lt_false.2 h2) (lt_false.2 h1)),by omega⟩
theorem bef_lt {x y : α} (h:cf x y<0):bef cf tag x y:=.inl h
theorem bef_ge {x y : α} (ht:tag y<tag x) (h:¬ cf x y<0):bef cf tag y x:=.inr ⟨h,ht⟩
variable (cf tag)
def Srt (d:Array α) (a b:Nat):Prop:=∀ x y,a≤x→x<y→y<b→bef cf tag d[x]! d[y]!
def Tg (d:Array α) (a m b:Nat):Prop:=∀ x y,a≤x→x<m→m≤y→y<b→tag d[x]!<tag d[y]!
variable {cf tag}
theorem Srt.step_l (hW:SWO (ltOf cf)) {d:Array α} {a b x y:Nat} {z : α} (h:Srt cf tag d a b) (ha:a≤x) (hxy:x≤y) (hb:y<b) (hz:bef cf tag d[y]! z):bef cf tag d[x]! z:=by
 rcases Nat.lt_or_ge x y with hlt | hge
 ·exact bef_trans hW (h x y ha hlt hb) hz
 ·obtain rfl:x=y:=by omega
  exact hz
theorem Srt.step_r (hW:SWO (ltOf cf)) {d:Array α} {a b x y:Nat} {z : α} (h:Srt cf tag d a b) (ha:a≤x) (hxy:x≤y) (hb:y<b) (hz:bef cf tag z d[x]!):bef cf tag z d[y]!:=by
 rcases Nat.lt_or_ge x y with hlt | hge
 ·exact bef_trans hW hz (h x y ha hlt hb)
 ·obtain rfl:x=y:=by omega
  exact hz
theorem Srt.sub {d:Array α} {a b a' b':Nat} (h:Srt cf tag d a b) (ha:a≤a') (hb:b'≤b):Srt cf tag d a' b':=fun x y h1 h2 h3=>h x y (by omega) h2 (by omega)
theorem Srt.one (d:Array α) {a b:Nat} (h:b≤a+1):Srt cf tag d a b:=fun x y h1 h2 h3=>by omega
theorem Srt.join {d:Array α} {a m b:Nat} (h1:Srt cf tag d a m) (h2:Srt cf tag d m b) (h3:∀ x y,a≤x→x<m→m≤y→y<b→bef cf tag d[x]! d[y]!):Srt cf tag d a b:=fun x y hx hxy hy=>by
 by_cases c1:y<m
 ·exact h1 x y hx hxy c1
 ·by_cases c2:x<m
  ·exact h3 x y hx c2 (by omega) hy
  ·exact h2 x y (by omega) hxy hy
theorem rot_id (d:Array α) (s m e:Nat) (h:s=m∨e=m) (hs:s≤m) (he:m≤e) (x:Nat):d[x]! = rotR d s m e x:=by
 unfold rotR
 rcases h with rfl | rfl
 ·repeat' split
  all_goals first | (exfalso; omega) | rfl | (congr 1; omega)
 ·repeat' split
  all_goals first | (exfalso; omega) | rfl | (congr 1; omega)
theorem sym_split (hW:SWO (ltOf cf)) {d d1:Array α} {a m b mid s e:Nat} (h1:a≤s) (h2:s≤m) (h3:m≤e) (h4:e≤b) (h5:s≤mid) (h6:mid≤e) (h7:mid+m=s+e) (S1:Srt cf tag d a m) (S2:Srt cf tag d m b) (T:Tg tag d a m b)
  (hA:s=a∨e=b∨bef cf tag d[s - 1]! d[e]!) (hB:s=m∨e=m∨bef cf tag d[e - 1]! d[s]!) (hd:∀ x,d1[x]! = rotR d s m e x) :
  (Srt cf tag d1 a s∧Srt cf tag d1 s mid∧Tg tag d1 a s mid)∧(Srt cf tag d1 mid e∧Srt cf tag d1 e b∧Tg tag d1 mid e b)∧(∀ x y,a≤x→x<mid→mid≤y→y<b→bef cf tag d1[x]! d1[y]!):=by
 have g1:∀ x,x<s→d1[x]! = d[x]!:=fun x hx=>by rw [hd]; unfold rotR; rw [if_neg (by omega),if_neg (by omega)]
 have g2:∀ x,s≤x→x<mid→d1[x]! = d[x+(m - s)]!:=fun x hx hy=>by rw [hd]; unfold rotR; rw [if_pos (by omega)]
 have g3:∀ x,mid≤x→x<e→d1[x]! = d[x - (e - m)]!:=fun x hx hy=>by rw [hd]; unfold rotR; rw [if_neg (by omega),if_pos (by omega)]
 have g4:∀ x,e≤x→d1[x]! = d[x]!:=fun x hx=>by rw [hd]; unfold rotR; rw [if_neg (by omega),if_neg (by omega)]
 refine ⟨⟨fun x y p1 p2 p3=>?_,fun x y p1 p2 p3=>?_,fun x y p1 p2 p3 p4=>?_⟩,⟨fun x y p1 p2 p3=>?_,fun x y p1 p2 p3=>?_,fun x y p1 p2 p3 p4=>?_⟩,fun x y p1 p2 p3 p4=>?_⟩
 ·rw [g1 x (by omega),g1 y (by omega)]; exact S1 x y p1 p2 (by omega)
 ·rw [g2 x (by omega) (by omega),g2 y (by omega) (by omega)]; exact S2 _ _ (by omega) (by omega) (by omega)
 ·rw [g1 x (by omega),g2 y (by omega) (by omega)]; exact T _ _ (by omega) (by omega) (by omega) (by omega)
 ·rw [g3 x (by omega) (by omega),g3 y (by omega) (by omega)]; exact S1 _ _ (by omega) (by omega) (by omega)
 ·rw [g4 x (by omega),g4 y (by omega)]; exact S2 _ _ (by omega) (by omega) (by omega)
 ·rw [g3 x (by omega) (by omega),g4 y (by omega)]; exact T _ _ (by omega) (by omega) (by omega) (by omega)
 ·by_cases c1:x<s
  ·rw [g1 x c1]
   by_cases c2:y<e
   ·rw [g3 y p3 c2]; exact S1 _ _ (by omega) (by omega) (by omega)
   ·rw [g4 y (by omega)]
    rcases hA with hA | hA | hA
    ·omega
    ·omega
    ·exact S1.step_l hW (y:=s - 1) p1 (by omega) (by omega) (S2.step_r hW (x:=e) (by omega) (by omega) p4 hA)
  ·rw [g2 x (by omega) p2]
   by_cases c2:y<e
   ·rw [g3 y p3 c2]
    rcases hB with hB | hB | hB
    ·omega
    ·omega
    ·exact S2.step_l hW (y:=e - 1) (by omega) (by omega) (by omega) (S1.step_r hW (x:=s) (by omega) (by omega) (by omega) hB)
   ·rw [g4 y (by omega)]; exact S2 _ _ (by omega) (by omega) (by omega)
def shL (d:Array α) (a k x:Nat) : α:=if a≤x∧x<k then d[x+1]! else if x=k then d[a]! else d[x]!
theorem shL_zero (d:Array α) (a x:Nat):d[x]! = shL d a a x:=by
 unfold shL
 repeat' split
 all_goals first | (exfalso; omega) | rfl | (congr 1)
theorem shL_step {d dk:Array α} {a k:Nat} (hak:a≤k) (hs:dk.size=d.size) (hk:k+1<d.size) (h:∀ x,dk[x]! = shL d a k x) (x:Nat):(swp dk k (k+1))[x]! = shL d a (k+1) x:=by
 rw [swp_get dk k (k+1) x (by omega) (by omega)]
 simp only [h]
 unfold shL
 repeat' split
 all_goals first | (exfalso; omega) | rfl | (congr 1; omega)
theorem shL_srt (hW:SWO (ltOf cf)) {d d1:Array α} {a i b:Nat} (hai:a<i) (hib:i≤b) (S:Srt cf tag d (a+1) b) (h1:∀ h,a+1≤h→h<i→bef cf tag d[h]! d[a]!) (h2:∀ h,i≤h→h<b→bef cf tag d[a]! d[h]!) (hd:∀ x,d1[x]! = shL d a (i - 1) x):Srt cf tag d1 a b:=fun x y p1 p2 p3=>by
 have g1:∀ x,a≤x→x<i - 1→d1[x]! = d[x+1]!:=fun x hx hy=>by rw [hd]; unfold shL; rw [if_pos (by omega)]
 have g2:d1[i - 1]! = d[a]!:=by rw [hd]; unfold shL; rw [if_neg (by omega),if_pos rfl]
 have g3:∀ x,i≤x→d1[x]! = d[x]!:=fun x hx=>by rw [hd]; unfold shL; rw [if_neg (by omega),if_neg (by omega)]
 by_cases c1:x<i - 1
 ·rw [g1 x p1 c1]
  by_cases c2:y<i - 1
  ·rw [g1 y (by omega) c2]; exact S _ _ (by omega) (by omega) (by omega)
  ·by_cases c3:y=i - 1
   ·rw [c3,g2]; exact h1 _ (by omega) (by omega)
   ·rw [g3 y (by omega)]; exact S _ _ (by omega) (by omega) (by omega)
 ·by_cases c4:x=i - 1
  ·rw [c4,g2,g3 y (by omega)]; exact h2 _ (by omega) (by omega)
  ·rw [g3 x (by omega),g3 y (by omega)]; exact S _ _ (by omega) (by omega) (by omega)
def shR (d:Array α) (m k x:Nat) : α:=if k<x∧x≤m then d[x - 1]! else if x=k then d[m]! else d[x]!
theorem shR_zero (d:Array α) (m x:Nat):d[x]! = shR d m m x:=by
 unfold shR
 repeat' split
 all_goals first | (exfalso; omega) | rfl | (congr 1)
theorem shR_step {d dk:Array α} {m k:Nat} (hkm:k+1≤m) (hs:dk.size=d.size) (hm:m<d.size) (h:∀ x,dk[x]! = shR d m (k+1) x) (x:Nat):(swp dk (k+1) k)[x]! = shR d m k x:=by
 rw [swp_get dk (k+1) k x (by omega) (by omega)]
 simp only [h]
 unfold shR
 repeat' split
 all_goals first | (exfalso; omega) | rfl | (congr 1; omega)
theorem shR_srt (hW:SWO (ltOf cf)) {d d1:Array α} {a i m:Nat} (hai:a≤i) (him:i≤m) (S:Srt cf tag d a m) (h1:∀ h,a≤h→h<i→bef cf tag d[h]! d[m]!) (h2:∀ h,i≤h→h<m→bef cf tag d[m]! d[h]!) (hd:∀ x,d1[x]! = shR d m i x):Srt cf tag d1 a (m+1):=fun x y p1 p2 p3=>by
 have g1:∀ x,i<x→x≤m→d1[x]! = d[x - 1]!:=fun x hx hy=>by rw [hd]; unfold shR; rw [if_pos (by omega)]
 have g2:d1[i]! = d[m]!:=by rw [hd]; unfold shR; rw [if_neg (by omega),if_pos rfl]
 have g3:∀ x,x<i→d1[x]! = d[x]!:=fun x hx=>by rw [hd]; unfold shR; rw [if_neg (by omega),if_neg (by omega)]
 by_cases c1:x<i
 ·rw [g3 x c1]
  by_cases c2:y<i
  ·rw [g3 y c2]; exact S _ _ (by omega) (by omega) (by omega)
  ·by_cases c3:y=i
   ·rw [c3,g2]; exact h1 _ (by omega) (by omega)
   ·rw [g1 y (by omega) (by omega)]; exact S _ _ (by omega) (by omega) (by omega)
 ·by_cases c4:x=i
  ·rw [c4,g2,g1 y (by omega) (by omega)]; exact h2 _ (by omega) (by omega)
  ·rw [g1 x (by omega) (by omega),g1 y (by omega) (by omega)]; exact S _ _ (by omega) (by omega) (by omega)
theorem sym_done {d1 d2 d3:Array α} {a mid b:Nat} (ham:a≤mid) (hmb:mid≤b) (hb:b≤d1.size) (h:∀ x y,a≤x→x<mid→mid≤y→y<b→bef cf tag d1[x]! d1[y]!) (P2:PermIn a mid d1 d2) (S2:Srt cf tag d2 a mid) (P3:PermIn mid b d2 d3) (S3:Srt cf tag d3 mid b):Srt cf tag d3 a b:=by
 have q2:∀ x,x<a∨mid≤x→d2[x]! = d1[x]!:=P2.2.1
 have q3:∀ x,x<mid∨b≤x→d3[x]! = d2[x]!:=P3.2.1
 have e2:∀ x,a≤x→x<mid→∀ y,mid≤y→y<b→bef cf tag d2[x]! d2[y]!:=fun x hx hxm y hy hyb=>by
  rw [q2 y (.inr hy)]
  exact permIn_all d1 d2 a mid (fun z=>bef cf tag z d1[y]!) (by omega) P2 (fun i hi hi2=>h i y hi hi2 hy hyb) x hx hxm
 refine Srt.join (m:=mid) (fun x y p1 p2 p3=>?_) S3 (fun x y p1 p2 p3 p4=>?_)
 ·rw [q3 x (.inl (by omega)),q3 y (.inl p3)]; exact S2 x y p1 p2 p3
 ·rw [q3 x (.inl p2)]
  exact permIn_all d2 d3 mid b (fun z=>bef cf tag d2[x]! z) (by rw [P2.1]; exact hb) P3 (fun i hi hi2=>e2 x p1 p2 i hi hi2) y p3 p4
theorem Tg.sub {d:Array α} {a m b a' b':Nat} (h:Tg tag d a m b) (ha:a≤a') (hb:b'≤b):Tg tag d a' m b':=fun x y h1 h2 h3 h4=>h x y (by omega) h2 h3 (by omega)
theorem sym_lo (hW:SWO (ltOf cf)) {d:Array α} {a m b p c:Nat} (S1:Srt cf tag d a m) (S2:Srt cf tag d m b) (T:Tg tag d a m b) (hc:c<m) (hq:m≤p - c) (hac:a≤c) (h:¬ cf d[p - c]! d[c]!<0) (x:Nat) (hx:a≤x) (hxc:x≤c) (hpb:p - x<b):bef cf tag d[x]! d[p - x]! :=
 S1.step_l hW (y:=c) hx hxc hc (S2.step_r hW (x:=p - c) hq (by omega) hpb (bef_ge (T c (p - c) hac hc hq (by omega)) h))
theorem sym_hi (hW:SWO (ltOf cf)) {d:Array α} {a m b p c:Nat} (S1:Srt cf tag d a m) (S2:Srt cf tag d m b) (hac:a≤c) (hqb:p - c<b) (h:cf d[p - c]! d[c]!<0) (x:Nat) (hx:c≤x) (hxm:x<m) (hpx:m≤p - x):bef cf tag d[p - x]! d[x]! :=
 S2.step_l hW (y:=p - c) hpx (by omega) hqb (S1.step_r hW (x:=c) hac hx hxm (bef_lt h))
theorem Srt.keep {d d':Array α} {a b:Nat} (h:Srt cf tag d a b) (hk:∀ x,a≤x→x<b→d'[x]! = d[x]!):Srt cf tag d' a b:=fun x y p1 p2 p3=>by
 rw [hk x p1 (by omega),hk y (by omega) p3]
 exact h x y p1 p2 p3
theorem Tg.keep {d d':Array α} {a m b:Nat} (h:Tg tag d a m b) (hk:∀ x,a≤x→x<b→d'[x]! = d[x]!):Tg tag d' a m b:=fun x y p1 p2 p3 p4=>by
 rw [hk x p1 (by omega),hk y (by omega) p4]
 exact h x y p1 p2 p3 p4
end Go.Proofs.YtmomjpolkkbhnaaGreat.Ss
end

section
namespace Go.Proofs.YtmomjpolkkbhnaaGreat.Cu
open Go.RowKit Cr Qp Qy
def IsC (a:Int) (q:ByteArray):Prop:=0≤a∧a≤1099511627776∧∃ o,PrsR q.data.toList 0 o
open Classical in
noncomputable def mayB (a:Int) (q:ByteArray):Bool:=decide (IsC a q)
open Classical in
theorem mayB_yes {a:Int} {q:ByteArray} (h:IsC a q):mayB a q=true:=by unfold mayB; exact decide_eq_true h
open Classical in
theorem mayB_no {a:Int} {q:ByteArray} (h:¬ IsC a q):mayB a q=false:=by unfold mayB; exact decide_eq_false h
theorem IsC.short {a:Int} {q:ByteArray} (h:IsC a q):q.size≤1024:=by
 obtain ⟨_,_,o,hp⟩:=h
 rw [← bsize]
 cases hp with
 | ok h _ _ _ _=>exact h
theorem isC_of {a:Int} {q:ByteArray} {E:Int} {o:Option Q} (hp:PrsR q.data.toList E o):IsC a q↔(0≤a∧a≤1099511627776∧E=0) :=
 ⟨fun ⟨h1,h2,o',h3⟩=>⟨h1,h2,(hp.det h3).1⟩,fun ⟨h1,h2,h3⟩=>⟨h1,h2,o,by rw [← h3]; exact hp⟩⟩
set_option maxHeartbeats 1600000 in
theorem may_any (a:Int) (q:ByteArray) (w:World):Calls Tryz.prog 108 #[.agg #[.int .i64 a,.string q]] w fun e w'=>e=.returned (.bool (mayB a q))∧Below w.heap.size w w':=by
 have hb0:=(Below.refl w.heap.size w).alloc (zG _) (.cells #[.int .i64 a,.string q] 122)
 have hB0:=Blk.new w 122 #[.int .i64 a,.string q]
 have hz0:(w.alloc (.cells #[.int .i64 a,.string q] 122)).heap.size=w.heap.size+1:=by simp
 have c1:=parse_any q (w.alloc (.cells #[.int .i64 a,.string q] 122))
 generalize hm:mayB a q=b
 have Hm:=zh hm
 have Hb0:=zh hb0
 have HB0:=zh hB0
 have Hz0:=zh hz0
 clear hm hb0 hB0 hz0
 go_enter Tryz.func108,Tryz.ntmps108
 go_wp2_with fail
 refine c1.mono ?_
 rintro e w1 ⟨E,oq,a0,a1,a2,a3,hp,rfl,hF,hb1⟩
 have hbx:=(HB0.out.below hb1 (by rw [Hz0.out]; omega)).alloc (.cells #[a0,a1,a2,a3] 60)
 have hz1:=hb1.size
 have Hfin:=zh ((Hb0.out.trans (hb1.mono (by rw [Hz0.out]; omega))).alloc (by have:=Hz0.out; omega) (.cells #[a0,a1,a2,a3] 60))
 have HI:=zh (isC_of (a:=a) hp)
 have hc0:=hbx.cell 0
 have hc1:=hbx.cell 1
 have hlt:w.heap.size<w1.heap.size:=by have:=Hz0.out; omega
 obtain ⟨A',n',c',C',m',d',e4⟩:=hF.four
 simp only [List.cons.injEq,and_true] at e4
 obtain ⟨rfl,rfl,rfl,rfl⟩:=e4
 simp at hc0 hc1
 clear c1 hp hF hb1 hbx hz1 HB0 Hb0 Hz0
 generalize (oq.getD noQ).kind=k9 at *
 generalize (oq.getD noQ).name=s9 at *
 have key:Hid (∀ x:Bool,(x=true↔(0≤a∧a≤1099511627776∧E=0))→x=b):=zh (fun x hx=>by
  rw [← Hm.out]
  by_cases h:IsC a q
  ·rw [mayB_yes h]; exact hx.2 (HI.out.1 h)
  ·rw [mayB_no h]
   cases x with
   | false=>rfl
   | true=>exact absurd (HI.out.2 (hx.1 rfl)) h)
 clear HI Hm
 by_cases h0 : 0≤a
 ·by_cases h1:a≤1099511627776
  ·by_cases hE:E=0
   ·subst hE
    go_wp2
    go_ret
    exact ⟨by rw [← key.out true (by simp [h0,h1])]; rfl,Hfin.out⟩
   ·have hE':(E == 0)=false:=by rw [beq_eq_false_iff_ne]; exact hE
    have Hn:=zh (key.out false (by simp [hE]))
    clear hE
    go_wp2
    go_ret
    exact ⟨by rw [← Hn.out]; rfl,Hfin.out⟩
  ·have Hn:=zh (key.out false (by simp [h1]))
   have h2 : 1099511627776<a:=by omega
   go_wp2
   go_ret
   exact ⟨by rw [← Hn.out]; rfl,Hfin.out⟩
 ·have Hn:=zh (key.out false (by simp [h0]))
  have h2:a<0:=by omega
  go_wp2
  go_ret
  exact ⟨by rw [← Hn.out]; rfl,Hfin.out⟩
end Go.Proofs.YtmomjpolkkbhnaaGreat.Cu
end

section
namespace Go.Proofs.YtmomjpolkkbhnaaGreat.Cr
open Go.RowKit
def bv (L:List UInt8):List Value:=L.map fun c=>.int .u8 (c.toNat:Int)
theorem bv_len (L:List UInt8):(bv L).length=L.length:=by unfold bv; rw [List.length_map]
theorem bv_app (L M:List UInt8):bv (L ++ M)=bv L ++ bv M:=by unfold bv; rw [List.map_append]
theorem TabAt.get {w wr:World} {g k:Nat} (h:TabAt w wr g k) {j:Nat} (hj:j<k):wr.cell? ⟨g,j,none⟩=some (.int .u32 (tab j:Nat)):=by
 obtain ⟨hb,rfl,cs,hB,hz,hc⟩:=h
 rw [hB.cell]; exact hc j hj
theorem not_bits (x:Nat) (h:x<2 ^ 32):bits .xor .u32 IntKind.u32.max (x:Int)=((nots x:Nat):Int):=by
 have:=xor_bits 4294967295 x (by omega) h
 rw [show IntKind.u32.max=((4294967295:Nat):Int) by rfl,this,Nat.xor_comm]
 rfl
set_option maxHeartbeats 1600000 in
theorem next_any (s:Nat) (A:Option Addr) (n c:Nat) (L:List UInt8) (w:World) (hs:s<2 ^ 32) (hR:Reads w w.heap.size 1 A n (bv L)) (hn:n≤140737488351232) :
  Calls Tryz.prog 135 #[.int .u32 (s:Int),.slice A n c] w fun e w'=>e=.returned (.int .u32 (nots (run (nots s) L):Nat))∧Below w.heap.size w w':=by
 have hln:L.length=n:=by have:=hR.1; rw [bv_len] at this; omega
 have Hln:=zh hln
 have HR:=zh hR
 have hs0:(0:Int)≤(s:Int):=by omega
 have hs1:(s:Int)≤4294967295:=by omega
 have hns:=nots_lt hs
 have hnb:=not_bits s hs
 have hsg:IntKind.u32.signed=false:=rfl
 have hr0:=run_lt hns ([]:List UInt8)
 clear hR hln
 have c1:=table_any w
 go_enter Tryz.func135,Tryz.ntmps135
 go_wp2_with fail
 refine c1.mono ?_
 rintro e w1 ⟨g,rfl,hT⟩
 have hb:=hT.bel
 have hg:g=w.heap.size:=hT.ge
 have HR1:=zh (HR.out.below hb)
 have HT:=zh hT
 have Hb:=zh hb
 clear c1 hT hb HR hg
 go_wp2_with fail
 clear hnb
 go_loop [6,14] (fun x i=>∃ k:Nat,k≤n∧i=.int .i64 k∧x=.int .u32 (run (nots s) (L.take k):Nat)) (fun _ i=>n - (intOf i).toNat)
 case atStart=>exact ⟨0,Nat.zero_le _,rfl,rfl⟩
 case round =>
  obtain ⟨k,hk,rfl,rfl⟩:=hrel
  have hx:=run_lt hns (L.take k)
  by_cases hlt:k<n
  ·have hkl:k<L.length:=by rw [Hln.out]; exact hlt
   obtain ⟨b,o,hl,rfl,hbl,hcell⟩:=HR1.out.at_map hlt
   have hts:run (nots s) (L.take (k+1))=on (run (nots s) (L.take k)) L[k]:=by
    rw [List.take_succ_eq_append_getElem hkl,run_snoc]
   have Hts:=zh hts
   clear hts
   generalize run (nots s) (L.take k)=x at *
   generalize L[k]=q at *
   have hq:=q.toNat_lt
   have hI:bits .xor .u8 ((x:Int) % 256) (q.toNat:Int)=(((x % 256) ^^^ q.toNat:Nat):Int):=by
    have:=u8_xor_nat (x % 256) q.toNat (by omega) hq
    rw [← this]; rfl
   have hy:(x % 256) ^^^ q.toNat<256:=Nat.xor_lt_two_pow (n:=8) (by omega) (by omega)
   have Ho:=zh (on_table x q)
   generalize (x % 256) ^^^ q.toNat=y at *
   have hg:=HT.out.get hy
   have hty:=tab_lt (x:=y) (by omega)
   have hdv:bits .xor .u32 (tab y:Int) ((x:Int) / 256)=((on x q:Nat):Int):=by
    rw [show (x:Int) / 256=((x / 256:Nat):Int) by omega,xor_bits _ _ hty (by omega),Ho.out]
   generalize tab y=ty at *
   have hx0:(0:Int)≤(x:Int):=by omega
   have hx1:(x:Int)≤4294967295:=by omega
   have hyi:(y:Int)<256:=by omega
   go_wp2
   go_round
   case rel=>exact ⟨k+1,by omega,by go_num,by rw [Hts.out]⟩
   case measure=>simp [intOf]; omega
  ·obtain rfl:k=n:=by omega
   have Fin:Hid (L.take k=L):=zh (List.take_of_length_le (by rw [Hln.out]; exact zG _))
   have hnb:=not_bits _ hx
   rw [Fin.out] at hx hnb ⊢
   generalize hxx:run (nots s) L=x at *
   have Hx:=zh hxx
   clear hxx
   go_wp2
   go_ret
   rw [Hx.out]
   exact ⟨rfl,Hb.out⟩
theorem nots_zero:nots 0=4294967295:=by decide
set_option maxHeartbeats 1600000 in
theorem sum_any (p:Nat) (A:Option Addr) (n c c1:Nat) (L:List UInt8) (w:World) (hp:w.cell? ⟨p,0,none⟩=some (.slice A n c)) (hpl:p<w.heap.size) (hR:Reads w w.heap.size 1 A n (bv L)) (hn:n≤140737488351232) :
  Calls Tryz.prog 109 #[.slice (some ⟨p,0,none⟩) 1 c1] w fun e w'=>e=.returned (.int .u32 (crc L:Nat))∧Below w.heap.size w w':=by
 have c1:=next_any 0 A n c L w (by omega) hR hn
 rw [nots_zero] at c1
 have hcr:crc L=nots (run 4294967295 L):=rfl
 rw [← hcr] at c1
 generalize crc L=r at *
 clear hcr hR
 go_enter Tryz.func109,Tryz.ntmps109
 go_wp2_with fail
 go_loopw [3,8] (fun x i wr=>(i=.int .i64 0∧x=.int .u32 0∧wr=w)∨(i=.int .i64 1∧x=.int .u32 (r:Int)∧Below w.heap.size w wr)) (fun _ i _=>1 - (intOf i).toNat)
 case atStart=>exact .inl ⟨rfl,rfl,rfl⟩
 case round =>
  rcases hrel with ⟨rfl,rfl,rfl⟩ | ⟨rfl,rfl,hb⟩
  ·go_wp2_with fail
   refine c1.mono ?_
   rintro e w2 ⟨rfl,hb⟩
   have Hb:=zh hb
   clear hb c1
   go_wp2
   go_roundw
   case rel=>exact .inr ⟨rfl,rfl,Hb.out⟩
   case measure=>simp [intOf]
  ·have Hb:=zh hb
   clear hb
   go_wp2
   go_ret
   exact ⟨rfl,Hb.out⟩
end Go.Proofs.YtmomjpolkkbhnaaGreat.Cr
end

section
namespace Go.Proofs.YtmomjpolkkbhnaaGreat.Qy
open Go.RowKit Ut Tk
def cutF (f:ByteArray × ByteArray):ByteArray × ByteArray:=(f.1,ct 300 f.2)
theorem doc_info:(Tryz.prog.info? 48).map (fun i=>(i.zero,i.size,i.bytes))=some (some (.agg #[.int .i64 0,.int .i64 0,.slice none 0 0]),3,40):=by kernel_rfl
theorem fld_info:(Tryz.prog.info? 85).map (fun i=>(i.zero,i.size,i.bytes))=some (some (.agg #[.string ByteArray.empty,.string ByteArray.empty]),2,32):=by kernel_rfl
theorem grownBy_setC (w:World) (h o:Nat) (u:Value):w.grownBy (w.setCell ⟨h,o,none⟩ u) (some h) :=
 ⟨rfl,rfl,rfl,by simp [World.setCell],fun k _ hne=>Below.heap_setCell _ _ _ _ (fun e=>hne (by rw [e]))⟩
theorem own_shape2 {w:World} {base:Nat} {e:TypeId} {size n:Nat} {v:Value} {xs:List Value} (h:w.ownsRow base e size v n xs) :
  ∃ A c,v=.slice A n c∧Reads w w.heap.size size A n xs∧n≤c∧(A=none→c=0)∧(0<n→∃ g,A=some ⟨g,0,none⟩∧∃ cur,w.heap[g]?=some (.cells cur e (0,0))):=by
 obtain ⟨A,c,rfl,hR⟩:=own_shape h
 refine ⟨A,c,rfl,hR,?_⟩
 rcases h.2 with ⟨hv,h0⟩ | ⟨g,cap,cur,hv,_,hg,hnc,_⟩
 ·injection hv with _ _ hc
  exact ⟨by omega,fun _=>hc,fun h=>by omega⟩
 ·injection hv with hA _ hc
  exact ⟨by omega,fun e=>(by rw [hA] at e; cases e),fun _=>⟨g,hA,cur,hg⟩⟩
structure Flds (wo wq:World) (pd:Nat) (s a:Int) (fs:List (ByteArray × ByteArray)):Prop where
 ex:∃ v,Blk wq pd 48 #[.int .i64 s,.int .i64 a,v]∧wq.ownsRow (wo.heap.size+1) 85 2 v fs.length (fldC fs)
 bel:Below wo.heap.size wo wq
 ge:pd=wo.heap.size
end Go.Proofs.YtmomjpolkkbhnaaGreat.Qy
end

section
namespace Go.Proofs.YtmomjpolkkbhnaaGreat.Cu
open Go.RowKit Qy
def sel (a k:Int) (ds:List Dc):List Dc:=ds.filter fun d=>decide (a<d.seq) && decide (d.seq≤k)
def outP (a k l:Int) (ds:List Dc):List Dc:=(sel a k ds).take l.toNat
def lastP (a:Int) (out:List Dc):Int:=out.foldl (fun m d=>max m d.seq) a
def folP (a k l:Int) (ds:List Dc):List Dc × Int :=
 if l<1 then ([],a) else (outP a k l ds,if ((outP a k l ds).length:Int)<l then max a k else lastP a (outP a k l ds))
theorem lastP_snoc (a:Int) (out:List Dc) (d:Dc):lastP a (out ++ [d])=max (lastP a out) d.seq:=by unfold lastP; rw [List.foldl_append]; rfl
theorem sel_app (a k:Int) (xs ys:List Dc):sel a k (xs ++ ys)=sel a k xs ++ sel a k ys:=List.filter_append ..
theorem sel_yes (a k:Int) (ds:List Dc) (i:Nat) (h:i<ds.length) (h1:a<ds[i].seq) (h2:ds[i].seq≤k):sel a k (ds.take (i+1))=sel a k (ds.take i) ++ [ds[i]]:=by
 rw [List.take_succ_eq_append_getElem h,sel_app]
 congr 1
 simp [sel,h1,h2]
theorem sel_no (a k:Int) (ds:List Dc) (i:Nat) (h:i<ds.length) (h1:¬ (a<ds[i].seq∧ds[i].seq≤k)):sel a k (ds.take (i+1))=sel a k (ds.take i):=by
 rw [List.take_succ_eq_append_getElem h,sel_app]
 have:sel a k [ds[i]]=[]:=by
  unfold sel
  rw [List.filter_cons_of_neg (by simpa using h1)]
  rfl
 rw [this,List.append_nil]
theorem sel_len (a k:Int) (ds:List Dc):(sel a k ds).length≤ds.length:=List.length_filter_le ..
theorem fol_none {a k l:Int} (ds:List Dc) (h:l<1):folP a k l ds=([],a):=by unfold folP; rw [if_pos h]
theorem fol_stop {a k l:Int} {ds:List Dc} (i:Nat) (h1:¬ l<1) (h:((sel a k (ds.take i)).length:Int)=l):folP a k l ds=(sel a k (ds.take i),lastP a (sel a k (ds.take i))):=by
 have e:outP a k l ds=sel a k (ds.take i):=by
  unfold outP
  conv=>lhs; rw [← List.take_append_drop i ds]
  rw [sel_app,List.take_left' (by omega)]
 unfold folP
 rw [if_neg h1,e,if_neg (by omega)]
theorem fol_end {a k l:Int} {ds:List Dc} (i:Nat) (h1:¬ l<1) (hi:ds.length≤i) (h:((sel a k (ds.take i)).length:Int)<l):folP a k l ds=(sel a k (ds.take i),max a k):=by
 rw [List.take_of_length_le hi] at h ⊢
 have e:outP a k l ds=sel a k ds:=by
  unfold outP
  rw [List.take_of_length_le (by omega)]
 unfold folP
 rw [if_neg h1,e,if_pos h]
section
variable {w wr w2:World} {v v':Value} {ds:List Dc}
theorem docs_row (h:DocsOwn w wr v ds) {g:Nat} {t:TypeId} {cs:Array Value} (hB:Blk wr g t cs) (ht:t≠48):some g≠v.ownBlock:=by
 intro e
 obtain ⟨vss,h1,h2,h3⟩:=h.ex
 obtain ⟨_,cur,hc⟩:=own_block h2 g e.symm
 exact (Blk.ne_ (g:=g) hB (show Blk wr g 48 cur from hc) ht) rfl
theorem docs_box (h:DocsOwn w wr v ds) {g:Nat} {cs:Array Value} (hB:Blk wr g 122 cs) (hg:w.heap.size≤g) (o:Nat) (u:Value):DocsOwn w (wr.setCell ⟨g,o,none⟩ u) v ds:=by
 have hrow:=docs_row h hB (by decide)
 obtain ⟨vss,h1,h2,h3⟩:=h.ex
 have hgb:∀ b,b≠g→(wr.setCell ⟨g,o,none⟩ u).heap[b]?=wr.heap[b]?:=fun b hb=>Below.heap_setCell wr ⟨g,o,none⟩ u b hb
 refine ⟨⟨vss,h1,h2.kept (Ev.grownBy_setC wr g o u) ?_,fun i a b=>?_⟩,h.bel.setCell (p:=⟨g,o,none⟩) hg _⟩
 ·cases hv:v.ownBlock with
  | none=>exact .inl rfl
  | some k=>exact .inr (fun e=>hrow (by rw [hv]; exact e.symm))
 ·obtain ⟨hd,hf⟩:=h3 i a b
  obtain ⟨F,fn,fc,e,hR,h4⟩:=hd
  have hne:∀ b' o',F=some ⟨b',o',none⟩→0<fn→b'≠g:=fun b' o' eF hp e'=>by
   obtain ⟨b2,o2,e2,hc⟩:=hf F fn fc (by rw [e]; rfl) hp
   rw [eF] at e2
   injection e2 with e2
   injection e2 with e2 _
   subst e2 e'
   rcases hc with hc | ⟨cs2,fr,hc⟩
   ·omega
   ·unfold Blk at hB
    rw [hB] at hc
    injection hc with hc
    injection hc with _ hc
    exact absurd hc (by decide)
  refine ⟨⟨F,fn,fc,e,⟨hR.1,fun hp=>?_⟩,h4⟩,?_⟩
  ·obtain ⟨b',o',eF,hlt,hc⟩:=hR.2 hp
   refine ⟨b',o',eF,by simpa [World.setCell] using hlt,fun j u' hu=>?_⟩
   rw [World.cell?_of_block (w:=wr) (hgb b' (hne b' o' eF hp))]
   exact hc j u' hu
  ·intro F' fn' fc' hv hp
   obtain ⟨b2,o2,e2,hc⟩:=hf F' fn' fc' hv hp
   refine ⟨b2,o2,e2,?_⟩
   rcases hc with hc | ⟨cs2,fr,hc⟩
   ·exact .inl hc
   ·refine .inr ⟨cs2,fr,?_⟩
    rw [hgb b2 (fun e'=>?_)]
    ·exact hc
    ·subst e'
     unfold Blk at hB
     rw [hB] at hc
     injection hc with hc
     injection hc with _ hc
     exact absurd hc (by decide)
end
structure Fol (w wr:World) (a:Int) (q:ByteArray) (v:Value) (out:List Dc):Prop where
 box:Blk wr w.heap.size 122 #[.int .i64 a,.string q]
 res:Blk wr (w.heap.size+1) 122 #[.int .i64 0,.string ⟨#[]⟩]
 own:DocsOwn w wr v out
section
variable {w wr w2:World} {a b:Int} {q:ByteArray} {v v':Value} {out:List Dc}
theorem Fol.alloc (h:Fol w wr a q v out) (o:Obj):Fol w (wr.alloc o) a q v out:=⟨h.box.alloc o,h.res.alloc o,h.own.below ((Below.refl _ _).alloc (zG _) _)⟩
theorem Fol.below (h:Fol w wr a q v out) (hb:Below wr.heap.size wr w2):Fol w w2 a q v out:=⟨h.box.below hb h.box.lt,h.res.below hb h.res.lt,h.own.below hb⟩
theorem Fol.drew (h:Fol w wr a q v out):Fol w wr.drew a q v out:=h.below (Below.refl _ _).drew
theorem Fol.after (h:Fol w wr a q v out) (b:Int):Fol w (wr.setCell ⟨w.heap.size,0,none⟩ (.int .i64 b)) b q v out :=
 ⟨by have:=h.box.set_ 0 (.int .i64 b); simpa using this,h.res.far (by simp) _,docs_box h.own h.box (zG _) 0 _⟩
theorem Fol.put {d:Dc} {u:List Value} {xs:List Value} (h:Fol w wr a q v out) (hx:∃ vss:List (List Value),vss.length=out.length∧wr.ownsRow w.heap.size 48 3 v out.length vss.flatten∧(∀ i (h:i<out.length) (h':i<vss.length),DcV wr wr.heap.size out[i] vss[i]∧Far wr w.heap.size vss[i])∧xs=vss.flatten)
  (hp:w2.ownsRow w.heap.size 48 3 v' (out.length+1) (xs ++ u)) (hg:wr.grownBy w2 v.ownBlock) (hd:DcV wr wr.heap.size d u) (hf:Far wr w.heap.size u):Fol w w2 a q v' (out ++ [d]) :=
 ⟨h.box.grown hg (docs_row h.own h.box (by decide)),h.res.grown hg (docs_row h.own h.res (by decide)),h.own.put hx hp hg hd hf⟩
theorem Fol.done (h:Fol w wr a q v out):Blk ((wr.drew.setCell ⟨w.heap.size+1,0,none⟩ (.int .i64 a)).setCell ⟨w.heap.size+1,1,none⟩ (.string q)) (w.heap.size+1) 122 #[.int .i64 a,.string q] ∧
  DocsOwn w ((wr.drew.setCell ⟨w.heap.size+1,0,none⟩ (.int .i64 a)).setCell ⟨w.heap.size+1,1,none⟩ (.string q)) v out:=by
 have h1:=h.drew.res.set_ 0 (.int .i64 a)
 have h2:=h1.set_ 1 (.string q)
 refine ⟨by simpa using h2,docs_box (docs_box h.drew.own h.drew.res (Nat.le_succ _) 0 _) h1 (Nat.le_succ _) 1 _⟩
end
def FolTo (w:World) (p:List Dc × Int) (q:ByteArray) (e:Ending) (w':World):Prop:=∃ v,e=.returned (.tuple #[v,.agg #[.int .i64 p.2,.string q]])∧DocsOwn w w' v p.1
theorem fol_results {fn:Func} {p1 p2:Tmp} (hf:fn.results=#[.tmp p1,.cell p2 122]) {tmps:Array Value} {W:World} {b1:Nat} {a0 a1 v:Value} (h1:tmps.getD p1 undef=v) (h2:tmps.getD p2 undef=.pointer (some ⟨b1,0,none⟩)) (B1:Blk W b1 122 #[a0,a1]) :
  (results fn tmps).run Tryz.prog W=.ok (.tuple #[v,.agg #[a0,a1]]) W:=by
 have l1:=run_loadVar_row (P:=Tryz.prog) W b1 122 122 #[a0,a1] (0,0) _ B1 Tryz.underlying122 rfl (by kernel_rfl)
 have h1':tmps[p1]?.getD undef=v:=by simpa using h1
 have h2':tmps[p2]?.getD undef=.pointer (some ⟨b1,0,none⟩):=by simpa using h2
 simp [results,hf,h1',h2',asAddr,l1]
end Go.Proofs.YtmomjpolkkbhnaaGreat.Cu
end

section
namespace Go.Proofs.YtmomjpolkkbhnaaGreat.Hi
open Go.RowKit
abbrev Bk:=Int × Int
def pos (l:List Bk) (k:Int):Nat:=l.findIdx fun x=>decide (k≤x.1)
theorem pos_le (l:List Bk) (k:Int):pos l k≤l.length:=List.findIdx_le_length
theorem pos_lt (l:List Bk) (k:Int) (i:Nat) (h:i<pos l k):∃ hl:i<l.length,l[i].1<k:=by
 have hl:i<l.length:=Nat.lt_of_lt_of_le h (pos_le l k)
 refine ⟨hl,?_⟩
 have:=List.not_of_lt_findIdx h
 simpa using this
theorem pos_at (l:List Bk) (k:Int) (h:pos l k<l.length):k≤(l[pos l k]'h).1:=by
 have:=List.findIdx_getElem (p:=fun x:Bk=>decide (k≤x.1)) (xs:=l) (w:=h)
 exact of_decide_eq_true this
theorem pos_eq (l:List Bk) (k:Int) (i:Nat) (hi:i≤l.length) (h1:∀ a (h:a<i),(l[a]'(by omega)).1<k) (h2:∀ h:i<l.length,k≤l[i].1):pos l k=i:=by
 rcases Nat.lt_trichotomy (pos l k) i with h | h | h
 ·have hp:=pos_at l k (by omega)
  have:=h1 (pos l k) h
  omega
 ·exact h
 ·obtain ⟨hl,hlt⟩:=pos_lt l k i h
  have:=h2 hl
  omega
def Up (l:List Bk):Prop:=∀ i (h:i+1<l.length),(l[i]'(by omega)).1<l[i+1].1
theorem Up.lt {l:List Bk} (h:Up l):∀ (i j:Nat) (hij:i<j) (hj:j<l.length),(l[i]'(by omega)).1<l[j].1:=by
 intro i j hij
 induction j with
 | zero=>omega
 | succ j ih =>
  intro hj
  have h1:=h j hj
  by_cases e:i=j
  ·subst e; exact h1
  ·have:=ih (by omega) (by omega); omega
theorem Up.nil:Up []:=fun i h=>by simp at h
def mostN:Int:=1099511627776
def putF (l:List Bk) (k n:Int):List Bk × Bool :=
 if pos l k<l.length∧(l.getD (pos l k) (0,0)).1=k then
  (if mostN<n∨mostN - n<(l.getD (pos l k) (0,0)).2 then ([],false) else (l.set (pos l k) (k,(l.getD (pos l k) (0,0)).2+n),true))
 else (l.take (pos l k) ++ (k,n) :: l.drop (pos l k),decide (n≤mostN))
def found (l:List Bk) (k:Int):Bool:=decide (pos l k<l.length) && decide ((l.getD (pos l k) (0,0)).1=k)
def bkV (x:Bk):List Value:=[.int .i64 x.1,.int .i64 x.2]
def bkC (l:List Bk):List Value:=l.flatMap bkV
theorem bkC_len (l:List Bk):(bkC l).length=l.length * 2:=by
 induction l with
 | nil=>rfl
 | cons x l ih=>simp [bkC,bkV] at *; omega
theorem bkC_app (a b:List Bk):bkC (a ++ b)=bkC a ++ bkC b:=by simp [bkC]
theorem bkC_one:∀ (l:List Bk),∀ u∈bkC l,u.oneCell'=true:=by
 intro l u hu
 simp only [bkC,List.mem_flatMap] at hu
 obtain ⟨x,_,hx⟩:=hu
 simp only [bkV,List.mem_cons,List.not_mem_nil,or_false] at hx
 rcases hx with rfl | rfl <;> rfl
theorem bkC_get:∀ (l:List Bk) (k:Nat) (h:k<l.length),(bkC l)[k * 2]?=some (.int .i64 l[k].1)∧(bkC l)[k * 2+1]?=some (.int .i64 l[k].2)
 | x :: l,0,_=>⟨rfl,rfl⟩
 | x :: l,k+1,h=>by
  have ih:=bkC_get l k (by simpa using h)
  have e1:(k+1) * 2=k * 2+2:=by omega
  have e2:(k+1) * 2+1=(k * 2+1)+2:=by omega
  rw [e2,e1]
  exact ih
theorem bkC_take (l:List Bk) (k:Nat):bkC (l.take k)=(bkC l).take (k * 2):=by
 induction l generalizing k with
 | nil=>simp [bkC]
 | cons x l ih =>
  cases k with
  | zero=>simp [bkC]
  | succ k =>
   have e1:(k+1) * 2=k * 2+2:=by omega
   rw [List.take_succ_cons,e1]
   show bkV x ++ bkC (l.take k)=(bkV x ++ bkC l).take (k * 2+2)
   rw [ih k,show k * 2+2=(bkV x).length+k * 2 from by simp [bkV]; omega,List.take_length_add_append]
theorem bkC_drop (l:List Bk) (k:Nat):bkC (l.drop k)=(bkC l).drop (k * 2):=by
 induction l generalizing k with
 | nil=>simp [bkC]
 | cons x l ih =>
  cases k with
  | zero=>simp [bkC]
  | succ k =>
   have e1:(k+1) * 2=k * 2+2:=by omega
   rw [List.drop_succ_cons,e1]
   show bkC (l.drop k)=(bkV x ++ bkC l).drop (k * 2+2)
   rw [ih k,show k * 2+2=(bkV x).length+k * 2 from by simp [bkV]; omega,List.drop_length_add_append]
theorem bkC_set (l:List Bk) (k:Nat) (a n:Int) (h:k<l.length) (ha:l[k].1=a):(bkC l).set (k * 2+1) (.int .i64 n)=bkC (l.set k (a,n)):=by
 induction l generalizing k with
 | nil=>simp at h
 | cons x l ih =>
  cases k with
  | zero =>
   simp only [List.getElem_cons_zero] at ha
   subst ha
   simp [bkC,bkV]
  | succ k =>
   have e2:(k+1) * 2+1=(k * 2+1)+2:=by omega
   rw [e2]
   show bkV x ++ (bkC l).set (k * 2+1) _=bkV x ++ bkC (l.set k (a,n))
   rw [ih k (by simpa using h) (by simpa using ha)]
theorem bks_at {w:World} {B n:Nat} {A:Option Addr} {l:List Bk} (h:Reads w B 2 A n (bkC l)) (hn:l.length=n) {k:Nat} (hk:k<l.length) :
  ∃ b o,A=some ⟨b,o,none⟩∧b<B∧w.cell? ⟨b,o+k * 2,none⟩=some (.int .i64 l[k].1)∧w.cell? ⟨b,o+k * 2+1,none⟩=some (.int .i64 l[k].2):=by
 obtain ⟨b,o,e,hb,hc⟩:=h.2 (by omega)
 have g:=bkC_get l k hk
 refine ⟨b,o,e,hb,hc _ _ g.1,?_⟩
 have:=hc _ _ g.2
 rw [← Nat.add_assoc] at this
 exact this
end Go.Proofs.YtmomjpolkkbhnaaGreat.Hi
end

section
namespace Go.Proofs.YtmomjpolkkbhnaaGreat.Cu
open Go.RowKit Qy
def mkD (g:List UInt8):Int × List Dc:=g.foldl (fun p x=>(p.1+(1+(x.toNat:Int) % 3),p.2 ++ [⟨p.1+(1+(x.toNat:Int) % 3),0,[]⟩])) (0,[])
theorem mkD_snoc (g:List UInt8) (x:UInt8):mkD (g ++ [x])=((mkD g).1+(1+(x.toNat:Int) % 3),(mkD g).2 ++ [⟨(mkD g).1+(1+(x.toNat:Int) % 3),0,[]⟩]):=by
 unfold mkD; rw [List.foldl_append]; rfl
end Go.Proofs.YtmomjpolkkbhnaaGreat.Cu
end
