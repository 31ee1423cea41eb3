/- Rows whose blocks are of some kind. No program. -/
import Derived.Laws.AppendOwn
import Derived.Below
import Derived.Lib.Hide
import Derived.Test.YtmomjpolkkbhnaaGreatProg
import Derived.Maps.AppendAt
import Derived.Laws.AppendOwnNone
import Derived.Test.YtmomjpolkkbhnaaGreatQModelPagesRow2
import Derived.Test.YtmomjpolkkbhnaaGreatQModelPagesRow6
import Derived.Test.YtmomjpolkkbhnaaGreatQModelPagesRow0
set_option linter.unusedSimpArgs false
set_option linter.unusedVariables false
section
namespace Go.Proofs.YtmomjpolkkbhnaaGreat.Qp
open Go.RowKit Qy
def ReadsS (w:World) (S:Nat→Prop) (size:Nat) (A:Option Addr) (n:Nat) (xs:List Value):Prop :=
 xs.length=n * size∧(0<n→∃ b o,A=some ⟨b,o,none⟩∧S b∧∀ j u,xs[j]?=some u→w.cell? ⟨b,o+j,none⟩=some u)
section
variable {w w':World} {S S':Nat→Prop} {size n:Nat} {A:Option Addr} {xs:List Value}
theorem ReadsS.keep (h:ReadsS w S size A n xs) (hk:∀ b o,S b→w'.cell? ⟨b,o,none⟩=w.cell? ⟨b,o,none⟩):ReadsS w' S size A n xs :=
 ⟨h.1,fun hn=>by
  obtain ⟨b,o,e,hb,hc⟩:=h.2 hn
  exact ⟨b,o,e,hb,fun j u hu=>(hk b _ hb).trans (hc j u hu)⟩⟩
theorem ReadsS.mono (h:ReadsS w S size A n xs) (hS:∀ b,S b→S' b):ReadsS w S' size A n xs :=
 ⟨h.1,fun hn=>by
  obtain ⟨b,o,e,hb,hc⟩:=h.2 hn
  exact ⟨b,o,e,hS b hb,hc⟩⟩
theorem ReadsS.reads {B:Nat} (h:ReadsS w S size A n xs) (hS:∀ b,S b→b<B):Reads w B size A n xs :=
 ⟨h.1,fun hn=>by
  obtain ⟨b,o,e,hb,hc⟩:=h.2 hn
  exact ⟨b,o,e,hS b hb,hc⟩⟩
theorem ReadsS.none_:ReadsS w S size A 0 []:=⟨by simp,fun h=>absurd h (by omega)⟩
theorem ReadsS.of_own {base:Nat} {e:TypeId} {c:Nat} (h:w.ownsRow base e size (.slice A n c) n xs):ReadsS w (fun b=>base≤b∧b<w.heap.size∧(Value.slice A n c).ownBlock=some b) size A n xs:=by
 refine ⟨h.1,fun hn=>?_⟩
 have hlt:=h.lt
 rcases h.2 with ⟨hv,h0⟩ | ⟨g,cap,cur,hv,_,hg,_⟩
 ·omega
 ·have hA:A=some ⟨g,0,none⟩:=by injection hv
  subst hA
  refine ⟨_,_,rfl,⟨(hlt g rfl).1,(hlt g rfl).2,rfl⟩,fun j u hu=>?_⟩
  have:=h.cells (g:=g) rfl j u hu
  have hadd:(⟨g,0,none⟩:Addr).add j=⟨g,j,none⟩:=by unfold Addr.add; split <;> simp_all
  rw [hadd] at this
  rw [Nat.zero_add]; exact this
end
end Go.Proofs.YtmomjpolkkbhnaaGreat.Qp
end

section
namespace Go.Proofs.YtmomjpolkkbhnaaGreat.Ut
open Go.RowKit
set_option linter.unusedSimpArgs false in
set_option maxHeartbeats 1600000 in
theorem word_ref (r:Int) (w:World):Calls Tryz.prog 189 #[.int .i64 r] w fun e w'=>e=.returned (.bool (isWord r))∧w=w':=by
 go_enter Tryz.func189,Tryz.ntmps189
 go_wp2
 all_goals
  go_ret
  refine ⟨congrArg (fun x=>Ending.returned (Value.bool x)) ?_,rfl⟩
  unfold isWord
  rw [Bool.eq_iff_iff]
  try simp only [bne_iff_ne,ne_eq,bne_eq_false_iff_eq] at *
  simp only [Bool.or_eq_true,Bool.and_eq_true,decide_eq_true_eq,bne_iff_ne,ne_eq,Bool.false_eq_true,true_iff,false_iff,reduceCtorEq]
  first | omega | decide
end Go.Proofs.YtmomjpolkkbhnaaGreat.Ut
end

section
namespace Go.Proofs.YtmomjpolkkbhnaaGreat.Qy
open Go.RowKit
structure Dc where
 seq:Int
 at_:Int
 fs:List (ByteArray × ByteArray)
def DcV (w:World) (B:Nat) (d:Dc) (v:List Value):Prop:=∃ F fn fc,v=[.int .i64 d.seq,.int .i64 d.at_,.slice F fn fc]∧Reads w B 2 F fn (fldC d.fs)∧d.fs.length=fn∧fn≤8796093021952∧fn≤fc∧(F=none→fc=0)
theorem DcV.len {w:World} {B:Nat} {d:Dc} {v:List Value} (h:DcV w B d v):v.length=3:=by obtain ⟨F,fn,fc,rfl,_⟩:=h; rfl
theorem DcV.keep {w w':World} {B:Nat} {d:Dc} {v:List Value} (h:DcV w B d v) (hk:∀ b o,b<B→w'.cell? ⟨b,o,none⟩=w.cell? ⟨b,o,none⟩):DcV w' B d v:=by
 obtain ⟨F,fn,fc,e,h1,h2⟩:=h
 exact ⟨F,fn,fc,e,h1.keep hk,h2⟩
theorem DcV.more {w:World} {B B':Nat} {d:Dc} {v:List Value} (h:DcV w B d v) (hB:B≤B'):DcV w B' d v:=by
 obtain ⟨F,fn,fc,e,h1,h2⟩:=h
 exact ⟨F,fn,fc,e,h1.more hB,h2⟩
structure DocsAt (w:World) (B:Nat) (A:Option Addr) (n:Nat) (ds:List Dc):Prop where
 ln:ds.length=n
 ex:∃ vss:List (List Value),vss.length=n∧Reads w B 3 A n vss.flatten∧∀ i (h:i<ds.length) (h':i<vss.length),DcV w B ds[i] vss[i]
theorem DocsAt.keep {w w':World} {B n:Nat} {A:Option Addr} {ds:List Dc} (h:DocsAt w B A n ds) (hk:∀ b o,b<B→w'.cell? ⟨b,o,none⟩=w.cell? ⟨b,o,none⟩):DocsAt w' B A n ds:=by
 obtain ⟨vss,h1,h2,h3⟩:=h.ex
 exact ⟨h.ln,vss,h1,h2.keep hk,fun i a b=>(h3 i a b).keep hk⟩
theorem DocsAt.more {w:World} {B B' n:Nat} {A:Option Addr} {ds:List Dc} (h:DocsAt w B A n ds) (hB:B≤B'):DocsAt w B' A n ds:=by
 obtain ⟨vss,h1,h2,h3⟩:=h.ex
 exact ⟨h.ln,vss,h1,h2.more hB,fun i a b=>(h3 i a b).more hB⟩
theorem DocsAt.grow {w w':World} {n:Nat} {A:Option Addr} {ds:List Dc} (h:DocsAt w w.heap.size A n ds) (hb:Below w.heap.size w w'):DocsAt w' w'.heap.size A n ds:=(h.keep fun _ _ hp=>hb.cell hp).more hb.size
theorem DocsAt.nil {w:World} {B:Nat} {A:Option Addr}:DocsAt w B A 0 []:=⟨rfl,[],rfl,⟨by simp,fun h=>absurd h (by omega)⟩,fun i h=>absurd h (by simp)⟩
theorem DocsAt.at_ {w:World} {B n:Nat} {A:Option Addr} {ds:List Dc} (h:DocsAt w B A n ds) {i:Nat} (hi:i<ds.length) :
  ∃ b o F fn fc,A=some ⟨b,o,none⟩∧b<B∧w.cell? ⟨b,o+i * 3,none⟩=some (.int .i64 ds[i].seq)∧w.cell? ⟨b,o+i * 3+1,none⟩=some (.int .i64 ds[i].at_)∧w.cell? ⟨b,o+i * 3+2,none⟩=some (.slice F fn fc) ∧
   Reads w B 2 F fn (fldC ds[i].fs)∧ds[i].fs.length=fn∧fn≤8796093021952∧fn≤fc∧(F=none→fc=0):=by
 obtain ⟨vss,h1,h2,h3⟩:=h.ex
 have hl:=h.ln
 have hi':i<vss.length:=by omega
 have h4:∀ v∈vss,v.length=3:=fun v hv=>by
  obtain ⟨j,hj,rfl⟩:=List.mem_iff_getElem.1 hv
  exact (h3 j (by omega) hj).len
 obtain ⟨F,fn,fc,e,g1,g2,g3,g4⟩:=h3 i hi hi'
 obtain ⟨b,o,eA,hb,hc⟩:=h2.2 (by omega)
 have f0:=flat_get h4 i 0 hi' (by omega)
 have f1:=flat_get h4 i 1 hi' (by omega)
 have f2:=flat_get h4 i 2 hi' (by omega)
 rw [e] at f0 f1 f2
 have c0:=hc _ _ f0
 have c1:=hc _ _ f1
 have c2:=hc _ _ f2
 rw [← Nat.add_assoc] at c1 c2
 exact ⟨b,o,F,fn,fc,eA,hb,c0,c1,c2,g1,g2,g3,g4⟩
def Far (w:World) (base:Nat) (v:List Value):Prop:=∀ F fn fc,v[2]?=some (.slice F fn fc)→0<fn→∃ b o,F=some ⟨b,o,none⟩∧(b<base∨∃ cs fr,w.heap[b]?=some (.cells cs 85 fr))
structure DocsOwn (w wr:World) (v:Value) (ds:List Dc):Prop where
 ex:∃ vss:List (List Value),vss.length=ds.length∧wr.ownsRow w.heap.size 48 3 v ds.length vss.flatten∧∀ i (h:i<ds.length) (h':i<vss.length),DcV wr wr.heap.size ds[i] vss[i]∧Far wr w.heap.size vss[i]
 bel:Below w.heap.size w wr
theorem DocsOwn.start (w:World):DocsOwn w w (.slice none 0 0) []:=⟨⟨[],rfl,World.ownsRow_nil _ _ _ _,fun i h=>absurd h (by simp)⟩,Below.refl _ _⟩
theorem Far.grown {w w':World} {base:Nat} {v:List Value} {row:Option Nat} (h:Far w base v) (hg:w.grownBy w' row) (hr:∀ b,row=some b→base≤b∧∀ cs fr,w.heap[b]?≠some (.cells cs 85 fr)):Far w' base v:=by
 intro F fn fc hv hn
 obtain ⟨b,o,e,h1 | ⟨cs,fr,h1⟩⟩:=h F fn fc hv hn
 ·exact ⟨b,o,e,.inl h1⟩
 ·refine ⟨b,o,e,.inr ⟨cs,fr,?_⟩⟩
  have hlt:b<w.heap.size:=(Array.getElem?_eq_some_iff.1 h1).1
  rw [hg.block b hlt (fun er=>(hr b er.symm).2 cs fr h1)]
  exact h1
theorem Far.below {w w':World} {base:Nat} {v:List Value} (h:Far w base v) (hb:Below w.heap.size w w'):Far w' base v:=h.grown (grow_of_below hb none) (fun b e=>by cases e)
theorem DocsOwn.below {w wr w2:World} {v:Value} {ds:List Dc} (h:DocsOwn w wr v ds) (hb:Below wr.heap.size wr w2):DocsOwn w w2 v ds:=by
 obtain ⟨vss,h1,h2,h3⟩:=h.ex
 exact ⟨⟨vss,h1,h2.kept (grow_of_below hb none) (by cases hv:v.ownBlock <;> simp),fun i a b=>⟨((h3 i a b).1.keep fun _ _ hp=>hb.cell hp).more hb.size,(h3 i a b).2.below hb⟩⟩,h.bel.trans (hb.mono h.bel.size)⟩
theorem own_block {w:World} {base:Nat} {e:TypeId} {size n:Nat} {v:Value} {xs:List Value} (h:w.ownsRow base e size v n xs):∀ b,v.ownBlock=some b→base≤b∧∃ cur,w.heap[b]?=some (.cells cur e (0,0)):=by
 intro b hb
 rcases h.2 with ⟨rfl,_⟩ | ⟨g,cap,cur,rfl,h1,h2,_⟩
 ·cases hb
 ·injection hb with hb
  subst hb
  exact ⟨h1,cur,h2⟩
theorem DocsOwn.put {w wr w2:World} {v v':Value} {ds:List Dc} {d:Dc} {u:List Value} {xs:List Value} (h:DocsOwn w wr v ds) (hx:∃ vss:List (List Value),vss.length=ds.length∧wr.ownsRow w.heap.size 48 3 v ds.length vss.flatten∧(∀ i (h:i<ds.length) (h':i<vss.length),DcV wr wr.heap.size ds[i] vss[i]∧Far wr w.heap.size vss[i])∧xs=vss.flatten)
  (hp:w2.ownsRow w.heap.size 48 3 v' (ds.length+1) (xs ++ u)) (hg:wr.grownBy w2 v.ownBlock) (hd:DcV wr wr.heap.size d u) (hf:Far wr w.heap.size u):DocsOwn w w2 v' (ds ++ [d]):=by
 obtain ⟨vss,h1,h2,h3,rfl⟩:=hx
 have hown:=own_block h2
 have hr:∀ b,v.ownBlock=some b→w.heap.size≤b∧∀ cs fr,wr.heap[b]?≠some (.cells cs 85 fr):=fun b hb=>by
  obtain ⟨h4,cur,h5⟩:=hown b hb
  refine ⟨h4,fun cs fr e=>?_⟩
  rw [h5] at e
  injection e with e
  injection e with _ e
  exact absurd e (by decide)
 have keep:∀ (d:Dc) (u:List Value),DcV wr wr.heap.size d u→Far wr w.heap.size u→DcV w2 w2.heap.size d u:=fun d u hd hf=>by
  obtain ⟨F,fn,fc,rfl,g1,g2,g3,g4⟩:=hd
  refine ⟨F,fn,fc,rfl,(g1.grown hg (zG _) ?_).more hg.size,g2,g3,g4⟩
  intro b o e hn er
  obtain ⟨b',o',e',h4⟩:=hf F fn fc rfl hn
  rw [e] at e'
  injection e' with e'
  injection e' with e1 e2
  subst e1
  obtain ⟨h5,h6⟩:=hr b er.symm
  rcases h4 with h4 | ⟨cs,fr,h4⟩
  ·omega
  ·exact h6 cs fr h4
 refine ⟨⟨vss ++ [u],by simp [h1],?_,fun i a b=>?_⟩,h.bel.grown hg h.bel.size (fun k hk=>(hr k hk).1)⟩
 ·rw [List.flatten_append,List.length_append]
  simpa using hp
 ·by_cases hi:i<ds.length
  ·rw [List.getElem_append_left hi,List.getElem_append_left (by omega)]
   have:=h3 i hi (by omega)
   exact ⟨keep _ _ this.1 this.2,this.2.grown hg hr⟩
  ·have hi':i=ds.length:=by simp at a; omega
   subst hi'
   rw [List.getElem_append_right (by omega),List.getElem_append_right (by omega)]
   simp only [Nat.sub_self,h1,List.getElem_cons_zero]
   exact ⟨keep _ _ hd hf,hf.grown hg hr⟩
theorem DocsOwn.read {w wr:World} {v:Value} {ds:List Dc} (h:DocsOwn w wr v ds):∃ A c,v=.slice A ds.length c∧DocsAt wr wr.heap.size A ds.length ds:=by
 obtain ⟨vss,h1,h2,h3⟩:=h.ex
 obtain ⟨A,c,e,hR⟩:=own_shape h2
 exact ⟨A,c,e,rfl,vss,h1,hR,fun i a b=>(h3 i a b).1⟩
end Go.Proofs.YtmomjpolkkbhnaaGreat.Qy
end

section
namespace Go.Proofs.YtmomjpolkkbhnaaGreat.Qp
open Go.RowKit Qy
inductive QF (w:World) (S:Nat→Prop):Q→List Value→Prop
 | mk {k:Int} {nm:ByteArray} {ws:List ByteArray} {l:List Q} {A C:Option Addr} {n c m d:Nat} (vss:List (List Value)) (hn:ws.length=n) (hw:ReadsS w S 1 A n (ws.map Value.string)) (hm:l.length=m) (hv:vss.length=m)
   (h4:∀ v∈vss,v.length=4) (hl:ReadsS w S 4 C m vss.flatten) (kids:∀ i (h:i<l.length) (h':i<vss.length),QF w S l[i] vss[i]):QF w S (.mk k nm ws l) [.int .i64 k,.string nm,.slice A n c,.slice C m d]
section
variable {w w':World} {S S':Nat→Prop} {q:Q} {vs:List Value}
theorem QF.keep (hk:∀ b o,S b→w'.cell? ⟨b,o,none⟩=w.cell? ⟨b,o,none⟩) (h:QF w S q vs):QF w' S q vs:=by
 induction h with
 | mk vss hn hw hm hv h4 hl _ ih=>exact .mk vss hn (hw.keep hk) hm hv h4 (hl.keep hk) ih
theorem QF.mono (h:QF w S q vs) (hS:∀ b,S b→S' b):QF w S' q vs:=by
 induction h with
 | mk vss hn hw hm hv h4 hl _ ih=>exact .mk vss hn (hw.mono hS) hm hv h4 (hl.mono hS) ih
theorem QF.at_ {B:Nat} (h:QF w S q vs) (hS:∀ b,S b→b<B):QAt w B q vs:=by
 induction h with
 | mk vss hn hw hm hv h4 hl _ ih=>exact .mk vss hn (hw.reads hS) hm hv h4 (hl.reads hS) ih
theorem QF.len (h:QF w S q vs):vs.length=4:=by cases h; rfl
theorem QF.four (h:QF w S q vs):∃ A n c C m d,vs=[.int .i64 q.kind,.string q.name,.slice A n c,.slice C m d]:=by
 cases h with
 | @mk _ _ _ _ A C n c m d vss hn hw hm hv h4 hl kids=>exact ⟨A,n,c,C,m,d,rfl⟩
end
def Kin (base:Nat) (w:World) (v:Value) (b:Nat):Prop:=base≤b∧b<w.heap.size∧v.ownBlock≠some b
structure Qs (base:Nat) (w:World) (v:Value) (l:List Q) (vss:List (List Value)):Prop where
 lv:vss.length=l.length
 own:w.ownsRow base 60 4 v l.length vss.flatten
 kid:∀ i (h:i<l.length) (h':i<vss.length),QF w (Kin base w v) l[i] vss[i]
theorem Qs.start (base:Nat) (w:World):Qs base w (.slice none 0 0) [] []:=⟨rfl,World.ownsRow_nil _ _ _ _,fun i h=>absurd h (by simp)⟩
theorem Qs.four {base:Nat} {w:World} {v:Value} {l:List Q} {vss:List (List Value)} (h:Qs base w v l vss):∀ u∈vss,u.length=4:=fun u hu=>by
 obtain ⟨j,hj,rfl⟩:=List.mem_iff_getElem.1 hu
 exact (h.kid j (by rw [← h.lv]; exact hj) hj).len
theorem Qs.grown {base:Nat} {w w':World} {v:Value} {l:List Q} {vss:List (List Value)} {row:Option Nat} (h:Qs base w v l vss) (hg:w.grownBy w' row) (hr:∀ b,row=some b→b<base):Qs base w' v l vss:=by
 refine ⟨h.lv,h.own.kept hg ?_,fun i a b=>?_⟩
 ·cases hv:v.ownBlock with
  | none=>exact .inl rfl
  | some k =>
   refine .inr (fun e=>?_)
   have:=(h.own.lt k hv).1
   have:=hr k e.symm
   omega
 ·refine ((h.kid i a b).keep fun g o hS=>?_).mono fun g hS=>⟨hS.1,Nat.lt_of_lt_of_le hS.2.1 hg.size,hS.2.2⟩
  refine World.cell?_of_block (hg.block g hS.2.1 (fun e=>?_))
  have:=hr g e.symm
  have:=hS.1
  omega
theorem Qs.put {base:Nat} {w w':World} {v v':Value} {l:List Q} {q:Q} {vss:List (List Value)} {u:List Value} (h:Qs base w v l vss) (hq:QF w (Kin base w v) q u)
  (hp:w'.ownsRow base 60 4 v' (l.length+1) (vss.flatten ++ u)) (hg:w.grownBy w' v.ownBlock) (hv:v'.ownBlock=v.ownBlock∨v'.ownBlock=some w.heap.size):Qs base w' v' (l ++ [q]) (vss ++ [u]):=by
 have keep:∀ (q:Q) (u:List Value),QF w (Kin base w v) q u→QF w' (Kin base w' v') q u:=fun q u hq=>by
  refine (hq.keep fun g o hS=>?_).mono fun g hS=>⟨hS.1,Nat.lt_of_lt_of_le hS.2.1 hg.size,fun e=>?_⟩
  ·exact World.cell?_of_block (hg.block g hS.2.1 (fun e=>hS.2.2 e.symm))
  ·rcases hv with hv | hv
   ·exact hS.2.2 (hv.symm.trans e)
   ·have h1:some w.heap.size=some g:=hv.symm.trans e
    injection h1 with h1
    have:=hS.2.1
    omega
 refine ⟨by simp [h.lv],?_,fun i a b=>?_⟩
 ·rw [List.flatten_append,List.length_append]
  simpa using hp
 ·by_cases hi:i<l.length
  ·rw [List.getElem_append_left hi,List.getElem_append_left (by rw [h.lv]; exact hi)]
   exact keep _ _ (h.kid i hi (by rw [h.lv]; exact hi))
  ·have hi':i=l.length:=by simp at a; omega
   subst hi'
   rw [List.getElem_append_right (by omega),List.getElem_append_right (by rw [h.lv]; omega)]
   simp only [Nat.sub_self,h.lv,List.getElem_cons_zero]
   exact keep _ _ hq
theorem Qs.query {base:Nat} {w:World} {v:Value} {l:List Q} {vss:List (List Value)} (h:Qs base w v l vss) (k:Int):∃ C d,v=.slice C l.length d ∧
  QF w (fun b=>base≤b∧b<w.heap.size) (.mk k ByteArray.empty [] l) [.int .i64 k,.string ByteArray.empty,.slice none 0 0,.slice C l.length d]:=by
 obtain ⟨C,d,rfl,_⟩:=own_shape h.own
 exact ⟨C,d,rfl,.mk vss rfl (by simpa using ReadsS.none_) rfl h.lv h.four ((ReadsS.of_own h.own).mono fun b hb=>⟨hb.1,hb.2.1⟩) fun i a b=>(h.kid i a b).mono fun g hS=>⟨hS.1,hS.2.1⟩⟩
theorem Qs.first {base:Nat} {w:World} {v:Value} {q:Q} {vss:List (List Value)} (h:Qs base w v [q] vss):∃ b d A n c C m d',v=.slice (some ⟨b,0,none⟩) 1 d∧b<w.heap.size∧base≤b ∧
  w.cell? ⟨b,0,none⟩=some (.int .i64 q.kind)∧w.cell? ⟨b,1,none⟩=some (.string q.name)∧w.cell? ⟨b,2,none⟩=some (.slice A n c)∧w.cell? ⟨b,3,none⟩=some (.slice C m d') ∧
  QF w (fun b=>base≤b∧b<w.heap.size) q [.int .i64 q.kind,.string q.name,.slice A n c,.slice C m d']:=by
 obtain ⟨A0,d,rfl,_⟩:=own_shape h.own
 have hlv:=h.lv
 obtain ⟨u,rfl⟩:∃ u,vss=[u]:=List.length_eq_one_iff.1 hlv
 have hq:=(h.kid 0 (by simp) (by simp)).mono (S':=fun b=>base≤b∧b<w.heap.size) fun g hS=>⟨hS.1,hS.2.1⟩
 simp only [List.getElem_cons_zero] at hq
 obtain ⟨A,n,c,C,m,d',rfl⟩:=hq.four
 have hS:=ReadsS.of_own h.own
 obtain ⟨b,o,e,hb,hc⟩:=hS.2 (by simp)
 have ho:o=0:=by
  rcases h.own.2 with ⟨hv,h0⟩ | ⟨g,cap,cur,hv,_⟩
  ·simp at h0
  ·injection hv with hv
   rw [e] at hv
   injection hv with hv
   injection hv
 subst ho
 subst e
 have c0:=hc 0 (.int .i64 q.kind) rfl
 have c1:=hc 1 (.string q.name) rfl
 have c2:=hc 2 (.slice A n c) rfl
 have c3:=hc 3 (.slice C m d') rfl
 exact ⟨b,d,A,n,c,C,m,d',rfl,hb.2.1,hb.1,c0,c1,c2,c3,hq⟩
theorem grownBy_trans {w w1 w2:World} {row:Option Nat} (h:w.grownBy w1 row) (k:w1.grownBy w2 row):w.grownBy w2 row :=
 ⟨k.os.trans h.os,k.tape.trans h.tape,k.output.trans h.output,Nat.le_trans h.size k.size,fun i hi hr=>(k.block i (Nat.lt_of_lt_of_le hi h.size) hr).trans (h.block i hi hr)⟩
theorem grownBy_new {w w1 w2:World} {row row2:Option Nat} (h:w.grownBy w1 row) (k:w1.grownBy w2 row2) (hn:∀ b,row2=some b→w.heap.size≤b):w.grownBy w2 row :=
 ⟨k.os.trans h.os,k.tape.trans h.tape,k.output.trans h.output,Nat.le_trans h.size k.size,fun i hi hr=>(k.block i (Nat.lt_of_lt_of_le hi h.size) (fun e=>by have:=hn i e.symm; omega)).trans (h.block i hi hr)⟩
theorem grownBy_refl (w:World) (row:Option Nat):w.grownBy w row:=⟨rfl,rfl,rfl,zG _,fun _ _ _=>rfl⟩
theorem grownBy_set (w:World) (g:Nat) (i:Nat) (u:Value):w.grownBy (w.setCell ⟨g,i,none⟩ u) (some g) :=
 ⟨rfl,rfl,rfl,by simp [World.setCell],fun k _ hk=>Below.heap_setCell _ _ _ _ (fun e=>hk (by rw [e]))⟩
theorem below_of_grown {w w1 w2:World} {g:Nat} (h:Below w.heap.size w w1) (k:w1.grownBy w2 (some g)) (hg:w.heap.size≤g):Below w.heap.size w w2 :=
 h.grown k h.size (fun b e=>by injection e with e; omega)
end Go.Proofs.YtmomjpolkkbhnaaGreat.Qp
end

section
namespace Go.Proofs.YtmomjpolkkbhnaaGreat.Rg
open Go.RowKit
theorem add_lit (b o n:Nat):(⟨b,o,none⟩:Addr).add n=⟨b,o+n,none⟩:=by unfold Addr.add; split <;> simp_all
section
variable {w:World} {B n c p k:Nat} {A:Option Addr} {X:List Value}
end
structure Row (T:TypeId) (k B:Nat) (w wr:World) (v:Value) (n:Nat) (X:List Value):Prop where
 own:wr.ownsRow B T k v n X
 bel:Below B w wr
section
variable {T:TypeId} {k B n:Nat} {w wr w':World} {v:Value} {X:List Value}
theorem Row.start (hb:Below B w wr):Row T k B w wr (.slice none 0 0) 0 []:=⟨World.ownsRow_nil _ _ _ _,hb⟩
theorem Row.empty (T:TypeId) (k:Nat) (hk : 0<k) (w:World):Row T k w.heap.size w (w.alloc (.cells #[] T)) (.slice (some ⟨w.heap.size,0,none⟩) 0 0) 0 [] :=
 ⟨World.ownsRow_lit (base:=w.heap.size) (e:=T) (size:=k) w #[] 0 (by simp) (by unfold maxLen; omega) (by simp),(Below.refl _ _).alloc (zG _) _⟩
theorem Row.below (h:Row T k B w wr v n X) (hB:B≤wr.heap.size) (hb:Below wr.heap.size wr w'):Row T k B w w' v n X :=
 ⟨h.own.kept (grow_of_below hb none) (by cases v.ownBlock <;> simp),h.bel.trans (hb.mono hB)⟩
theorem Row.alloc (h:Row T k B w wr v n X) (hB:B≤wr.heap.size) (o:Obj):Row T k B w (wr.alloc o) v n X:=h.below hB ((Below.refl _ _).alloc (zG _) _)
theorem own_base {w:World} {B B' n:Nat} {T:TypeId} {v:Value} {xs:List Value} (h:w.ownsRow B T k v n xs) (hB:B'≤B):w.ownsRow B' T k v n xs:=by
 obtain ⟨h1,h2 | ⟨g,cap,cur,q1,q2,q3⟩⟩:=h
 ·exact ⟨h1,.inl h2⟩
 ·exact ⟨h1,.inr ⟨g,cap,cur,q1,by omega,q3⟩⟩
theorem Row.over {w2:World} (h:Row T k B wr w2 v n X) (hw:Below w.heap.size w wr) (hB:w.heap.size≤B):Row T k w.heap.size w w2 v n X:=⟨own_base h.own hB,hw.trans (h.bel.mono hB)⟩
theorem new_row (w:World) (T:TypeId) (cs:List Value) (m:Nat) (hl:cs.length=m * k) (h0 : 0<m):Reads (w.alloc (.cells cs.toArray T)) (w.alloc (.cells cs.toArray T)).heap.size k (some ⟨w.heap.size,0,none⟩) m cs :=
 ⟨hl,fun _=>⟨_,0,rfl,by simp,fun j u hj=>by
  rw [Nat.zero_add,(Blk.new w T cs.toArray).cell j]
  simpa using hj⟩⟩
end
end Go.Proofs.YtmomjpolkkbhnaaGreat.Rg
end
