/- Rows whose blocks are of some kind. No program. -/
import Derived.Laws.AppendOwn
import Derived.Below
import Derived.Lib.Hide
import Derived.Test.YtlfpfkallgkjdaaGreatQAlertRunsRow4
import Derived.Test.YtlfpfkallgkjdaaGreatQAlertRunsRow11
import Derived.Test.YtlfpfkallgkjdaaGreatQAlertRunsRow0
section
namespace Go.Proofs.YtlfpfkallgkjdaaGreat.Qp
open Go.RowKit Qy
def ReadsS (w:World) (S:Nat→Prop) (size:Nat) (A:Option Addr) (n:Nat) (xs:List Value):Prop :=
 xs.length=n * size∧(0<n→∃ b o,A=some ⟨b,o,none⟩∧S b∧∀ j u,xs[j]?=some u→w.cell? ⟨b,o+j,none⟩=some u)
section
variable {w w':World} {S S':Nat→Prop} {size n:Nat} {A:Option Addr} {xs:List Value}
theorem ReadsS.keep (h:ReadsS w S size A n xs) (hk:∀ b o,S b→w'.cell? ⟨b,o,none⟩=w.cell? ⟨b,o,none⟩):ReadsS w' S size A n xs :=
 ⟨h.1,fun hn=>by
  obtain ⟨b,o,e,hb,hc⟩:=h.2 hn
  exact ⟨b,o,e,hb,fun j u hu=>(hk b _ hb).trans (hc j u hu)⟩⟩
theorem ReadsS.mono (h:ReadsS w S size A n xs) (hS:∀ b,S b→S' b):ReadsS w S' size A n xs :=
 ⟨h.1,fun hn=>by
  obtain ⟨b,o,e,hb,hc⟩:=h.2 hn
  exact ⟨b,o,e,hS b hb,hc⟩⟩
theorem ReadsS.reads {B:Nat} (h:ReadsS w S size A n xs) (hS:∀ b,S b→b<B):Reads w B size A n xs :=
 ⟨h.1,fun hn=>by
  obtain ⟨b,o,e,hb,hc⟩:=h.2 hn
  exact ⟨b,o,e,hS b hb,hc⟩⟩
theorem ReadsS.none_:ReadsS w S size A 0 []:=⟨by simp,fun h=>absurd h (by omega)⟩
theorem ReadsS.of_own {base:Nat} {e:TypeId} {c:Nat} (h:w.ownsRow base e size (.slice A n c) n xs):ReadsS w (fun b=>base≤b∧b<w.heap.size∧(Value.slice A n c).ownBlock=some b) size A n xs:=by
 refine ⟨h.1,fun hn=>?_⟩
 have hlt:=h.lt
 rcases h.2 with ⟨hv,h0⟩ | ⟨g,cap,cur,hv,_,hg,_⟩
 ·omega
 ·have hA:A=some ⟨g,0,none⟩:=by injection hv
  subst hA
  refine ⟨_,_,rfl,⟨(hlt g rfl).1,(hlt g rfl).2,rfl⟩,fun j u hu=>?_⟩
  have:=h.cells (g:=g) rfl j u hu
  have hadd:(⟨g,0,none⟩:Addr).add j=⟨g,j,none⟩:=by unfold Addr.add; split <;> simp_all
  rw [hadd] at this
  rw [Nat.zero_add]; exact this
end
end Go.Proofs.YtlfpfkallgkjdaaGreat.Qp
end

section
namespace Go.Proofs.YtlfpfkallgkjdaaGreat.Qp
open Go.RowKit Qy
inductive QF (w:World) (S:Nat→Prop):Q→List Value→Prop
 | mk {k:Int} {nm:ByteArray} {ws:List ByteArray} {l:List Q} {A C:Option Addr} {n c m d:Nat} (vss:List (List Value)) (hn:ws.length=n) (hw:ReadsS w S 1 A n (ws.map Value.string)) (hm:l.length=m) (hv:vss.length=m)
   (h4:∀ v∈vss,v.length=4) (hl:ReadsS w S 4 C m vss.flatten) (kids:∀ i (h:i<l.length) (h':i<vss.length),QF w S l[i] vss[i]):QF w S (.mk k nm ws l) [.int .i64 k,.string nm,.slice A n c,.slice C m d]
section
variable {w w':World} {S S':Nat→Prop} {q:Q} {vs:List Value}
theorem QF.keep (hk:∀ b o,S b→w'.cell? ⟨b,o,none⟩=w.cell? ⟨b,o,none⟩) (h:QF w S q vs):QF w' S q vs:=by
 induction h with
 | mk vss hn hw hm hv h4 hl _ ih=>exact .mk vss hn (hw.keep hk) hm hv h4 (hl.keep hk) ih
theorem QF.mono (h:QF w S q vs) (hS:∀ b,S b→S' b):QF w S' q vs:=by
 induction h with
 | mk vss hn hw hm hv h4 hl _ ih=>exact .mk vss hn (hw.mono hS) hm hv h4 (hl.mono hS) ih
theorem QF.at_ {B:Nat} (h:QF w S q vs) (hS:∀ b,S b→b<B):QAt w B q vs:=by
 induction h with
 | mk vss hn hw hm hv h4 hl _ ih=>exact .mk vss hn (hw.reads hS) hm hv h4 (hl.reads hS) ih
theorem QF.len (h:QF w S q vs):vs.length=4:=by cases h; rfl
theorem QF.four (h:QF w S q vs):∃ A n c C m d,vs=[.int .i64 q.kind,.string q.name,.slice A n c,.slice C m d]:=by
 cases h with
 | @mk _ _ _ _ A C n c m d vss hn hw hm hv h4 hl kids=>exact ⟨A,n,c,C,m,d,rfl⟩
end
def Kin (base:Nat) (w:World) (v:Value) (b:Nat):Prop:=base≤b∧b<w.heap.size∧v.ownBlock≠some b
structure Qs (base:Nat) (w:World) (v:Value) (l:List Q) (vss:List (List Value)):Prop where
 lv:vss.length=l.length
 own:w.ownsRow base 52 4 v l.length vss.flatten
 kid:∀ i (h:i<l.length) (h':i<vss.length),QF w (Kin base w v) l[i] vss[i]
theorem Qs.start (base:Nat) (w:World):Qs base w (.slice none 0 0) [] []:=⟨rfl,World.ownsRow_nil _ _ _ _,fun i h=>absurd h (by simp)⟩
theorem Qs.four {base:Nat} {w:World} {v:Value} {l:List Q} {vss:List (List Value)} (h:Qs base w v l vss):∀ u∈vss,u.length=4:=fun u hu=>by
 obtain ⟨j,hj,rfl⟩:=List.mem_iff_getElem.1 hu
 exact (h.kid j (by rw [← h.lv]; exact hj) hj).len
theorem Qs.grown {base:Nat} {w w':World} {v:Value} {l:List Q} {vss:List (List Value)} {row:Option Nat} (h:Qs base w v l vss) (hg:w.grownBy w' row) (hr:∀ b,row=some b→b<base):Qs base w' v l vss:=by
 refine ⟨h.lv,h.own.kept hg ?_,fun i a b=>?_⟩
 ·cases hv:v.ownBlock with
  | none=>exact .inl rfl
  | some k =>
   refine .inr (fun e=>?_)
   have:=(h.own.lt k hv).1
   have:=hr k e.symm
   omega
 ·refine ((h.kid i a b).keep fun g o hS=>?_).mono fun g hS=>⟨hS.1,Nat.lt_of_lt_of_le hS.2.1 hg.size,hS.2.2⟩
  refine World.cell?_of_block (hg.block g hS.2.1 (fun e=>?_))
  have:=hr g e.symm
  have:=hS.1
  omega
theorem Qs.put {base:Nat} {w w':World} {v v':Value} {l:List Q} {q:Q} {vss:List (List Value)} {u:List Value} (h:Qs base w v l vss) (hq:QF w (Kin base w v) q u)
  (hp:w'.ownsRow base 52 4 v' (l.length+1) (vss.flatten ++ u)) (hg:w.grownBy w' v.ownBlock) (hv:v'.ownBlock=v.ownBlock∨v'.ownBlock=some w.heap.size):Qs base w' v' (l ++ [q]) (vss ++ [u]):=by
 have keep:∀ (q:Q) (u:List Value),QF w (Kin base w v) q u→QF w' (Kin base w' v') q u:=fun q u hq=>by
  refine (hq.keep fun g o hS=>?_).mono fun g hS=>⟨hS.1,Nat.lt_of_lt_of_le hS.2.1 hg.size,fun e=>?_⟩
  ·exact World.cell?_of_block (hg.block g hS.2.1 (fun e=>hS.2.2 e.symm))
  ·rcases hv with hv | hv
   ·exact hS.2.2 (hv.symm.trans e)
   ·have h1:some w.heap.size=some g:=hv.symm.trans e
    injection h1 with h1
    have:=hS.2.1
    omega
 refine ⟨by simp [h.lv],?_,fun i a b=>?_⟩
 ·rw [List.flatten_append,List.length_append]
  simpa using hp
 ·by_cases hi:i<l.length
  ·rw [List.getElem_append_left hi,List.getElem_append_left (by rw [h.lv]; exact hi)]
   exact keep _ _ (h.kid i hi (by rw [h.lv]; exact hi))
  ·have hi':i=l.length:=by simp at a; omega
   subst hi'
   rw [List.getElem_append_right (by omega),List.getElem_append_right (by rw [h.lv]; omega)]
   simp only [Nat.sub_self,h.lv,List.getElem_cons_zero]
   exact keep _ _ hq
theorem Qs.query {base:Nat} {w:World} {v:Value} {l:List Q} {vss:List (List Value)} (h:Qs base w v l vss) (k:Int):∃ C d,v=.slice C l.length d ∧
  QF w (fun b=>base≤b∧b<w.heap.size) (.mk k ByteArray.empty [] l) [.int .i64 k,.string ByteArray.empty,.slice none 0 0,.slice C l.length d]:=by
 obtain ⟨C,d,rfl,_⟩:=own_shape h.own
 exact ⟨C,d,rfl,.mk vss rfl (by simpa using ReadsS.none_) rfl h.lv h.four ((ReadsS.of_own h.own).mono fun b hb=>⟨hb.1,hb.2.1⟩) fun i a b=>(h.kid i a b).mono fun g hS=>⟨hS.1,hS.2.1⟩⟩
theorem Qs.first {base:Nat} {w:World} {v:Value} {q:Q} {vss:List (List Value)} (h:Qs base w v [q] vss):∃ b d A n c C m d',v=.slice (some ⟨b,0,none⟩) 1 d∧b<w.heap.size∧base≤b ∧
  w.cell? ⟨b,0,none⟩=some (.int .i64 q.kind)∧w.cell? ⟨b,1,none⟩=some (.string q.name)∧w.cell? ⟨b,2,none⟩=some (.slice A n c)∧w.cell? ⟨b,3,none⟩=some (.slice C m d') ∧
  QF w (fun b=>base≤b∧b<w.heap.size) q [.int .i64 q.kind,.string q.name,.slice A n c,.slice C m d']:=by
 obtain ⟨A0,d,rfl,_⟩:=own_shape h.own
 have hlv:=h.lv
 obtain ⟨u,rfl⟩:∃ u,vss=[u]:=List.length_eq_one_iff.1 hlv
 have hq:=(h.kid 0 (by simp) (by simp)).mono (S':=fun b=>base≤b∧b<w.heap.size) fun g hS=>⟨hS.1,hS.2.1⟩
 simp only [List.getElem_cons_zero] at hq
 obtain ⟨A,n,c,C,m,d',rfl⟩:=hq.four
 have hS:=ReadsS.of_own h.own
 obtain ⟨b,o,e,hb,hc⟩:=hS.2 (by simp)
 have ho:o=0:=by
  rcases h.own.2 with ⟨hv,h0⟩ | ⟨g,cap,cur,hv,_⟩
  ·simp at h0
  ·injection hv with hv
   rw [e] at hv
   injection hv with hv
   injection hv
 subst ho
 subst e
 have c0:=hc 0 (.int .i64 q.kind) rfl
 have c1:=hc 1 (.string q.name) rfl
 have c2:=hc 2 (.slice A n c) rfl
 have c3:=hc 3 (.slice C m d') rfl
 exact ⟨b,d,A,n,c,C,m,d',rfl,hb.2.1,hb.1,c0,c1,c2,c3,hq⟩
theorem grownBy_trans {w w1 w2:World} {row:Option Nat} (h:w.grownBy w1 row) (k:w1.grownBy w2 row):w.grownBy w2 row :=
 ⟨k.os.trans h.os,k.tape.trans h.tape,k.output.trans h.output,Nat.le_trans h.size k.size,fun i hi hr=>(k.block i (Nat.lt_of_lt_of_le hi h.size) hr).trans (h.block i hi hr)⟩
theorem grownBy_new {w w1 w2:World} {row row2:Option Nat} (h:w.grownBy w1 row) (k:w1.grownBy w2 row2) (hn:∀ b,row2=some b→w.heap.size≤b):w.grownBy w2 row :=
 ⟨k.os.trans h.os,k.tape.trans h.tape,k.output.trans h.output,Nat.le_trans h.size k.size,fun i hi hr=>(k.block i (Nat.lt_of_lt_of_le hi h.size) (fun e=>by have:=hn i e.symm; omega)).trans (h.block i hi hr)⟩
theorem grownBy_refl (w:World) (row:Option Nat):w.grownBy w row:=⟨rfl,rfl,rfl,zG _,fun _ _ _=>rfl⟩
theorem grownBy_below {w w1 w2:World} {row:Option Nat} (h:w.grownBy w1 row) (k:Below w1.heap.size w1 w2):w.grownBy w2 row:=grownBy_trans h (grow_of_below k row)
theorem grownBy_set (w:World) (g:Nat) (i:Nat) (u:Value):w.grownBy (w.setCell ⟨g,i,none⟩ u) (some g) :=
 ⟨rfl,rfl,rfl,by simp [World.setCell],fun k _ hk=>Below.heap_setCell _ _ _ _ (fun e=>hk (by rw [e]))⟩
theorem below_of_grown {w w1 w2:World} {g:Nat} (h:Below w.heap.size w w1) (k:w1.grownBy w2 (some g)) (hg:w.heap.size≤g):Below w.heap.size w w2 :=
 h.grown k h.size (fun b e=>by injection e with e; omega)
end Go.Proofs.YtlfpfkallgkjdaaGreat.Qp
end

section
namespace Go.Proofs.YtlfpfkallgkjdaaGreat.Ut
open Go.RowKit
set_option linter.unusedSimpArgs false in
set_option maxHeartbeats 1600000 in
theorem word_ref (r:Int) (w:World):Calls Tryz.prog 136 #[.int .i64 r] w fun e w'=>e=.returned (.bool (isWord r))∧w=w':=by
 go_enter Tryz.func136,Tryz.ntmps136
 go_wp2
 all_goals
  go_ret
  refine ⟨congrArg (fun x=>Ending.returned (Value.bool x)) ?_,rfl⟩
  unfold isWord
  rw [Bool.eq_iff_iff]
  try simp only [bne_iff_ne,ne_eq,bne_eq_false_iff_eq] at *
  simp only [Bool.or_eq_true,Bool.and_eq_true,decide_eq_true_eq,bne_iff_ne,ne_eq,Bool.false_eq_true,true_iff,false_iff,reduceCtorEq]
  first | omega | decide
end Go.Proofs.YtlfpfkallgkjdaaGreat.Ut
end
