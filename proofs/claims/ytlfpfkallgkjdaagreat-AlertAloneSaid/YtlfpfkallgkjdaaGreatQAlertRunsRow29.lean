/- event.CheckBatch, loggiaref10.CheckBatch: the walks. -/
import Derived.Outline
import Derived.Shelf.GgSortFunc.RowK
import Derived.Sort.OwnSorted
import Derived.Shelf.SlSortCmp.HeapSortK
import Derived.Laws.Rows
import Derived.Test.YtlfpfkallgkjdaaGreatQAlertRunsRow2
import Derived.Test.YtlfpfkallgkjdaaGreatQAlertRunsRow18
import Derived.Test.YtlfpfkallgkjdaaGreatQAlertRunsRow4
import Derived.Test.YtlfpfkallgkjdaaGreatQAlertRunsRow12
import Derived.Test.YtlfpfkallgkjdaaGreatQAlertRunsRow0
import Derived.Test.YtlfpfkallgkjdaaGreatQAlertRunsRow25
set_option linter.unusedSectionVars false
set_option linter.unusedSimpArgs false
set_option linter.unusedVariables false
set_option maxRecDepth 20000
section
namespace Go.Proofs.YtlfpfkallgkjdaaGreat.Ev
open Go.RowKit Ut Tk Qy
def EvV (w:World) (B:Nat) (e:Evn) (v:List Value):Prop:=∃ F fn fc,v=[.int .i64 e.1,.slice F fn fc]∧FlAt w B F fn fc e.2
theorem EvV.len {w:World} {B:Nat} {e:Evn} {v:List Value} (h:EvV w B e v):v.length=2:=by obtain ⟨F,fn,fc,rfl,_⟩:=h; rfl
structure EvsAt (w:World) (B:Nat) (A:Option Addr) (n c:Nat) (l:List Evn):Prop where
 ln:l.length=n
 few:n≤4398046511104
 cap:n≤c
 ex:∃ vss:List (List Value),vss.length=n∧Reads w B 2 A n vss.flatten∧∀ i (h:i<l.length) (h':i<vss.length),EvV w B l[i] vss[i]
theorem EvsAt.keep {w w':World} {B n c:Nat} {A:Option Addr} {l:List Evn} (h:EvsAt w B A n c l) (hk:∀ b o,b<B→w'.cell? ⟨b,o,none⟩=w.cell? ⟨b,o,none⟩):EvsAt w' B A n c l:=by
 obtain ⟨vss,h1,h2,h3⟩:=h.ex
 exact ⟨h.ln,h.few,h.cap,vss,h1,h2.keep hk,fun i a b=>by obtain ⟨F,fn,fc,e,g⟩:=h3 i a b; exact ⟨F,fn,fc,e,g.keep hk⟩⟩
theorem EvsAt.more {w:World} {B B' n c:Nat} {A:Option Addr} {l:List Evn} (h:EvsAt w B A n c l) (hB:B≤B'):EvsAt w B' A n c l:=by
 obtain ⟨vss,h1,h2,h3⟩:=h.ex
 exact ⟨h.ln,h.few,h.cap,vss,h1,h2.more hB,fun i a b=>by obtain ⟨F,fn,fc,e,g⟩:=h3 i a b; exact ⟨F,fn,fc,e,g.more hB⟩⟩
theorem EvsAt.grow {w w':World} {n c:Nat} {A:Option Addr} {l:List Evn} (h:EvsAt w w.heap.size A n c l) (hb:Below w.heap.size w w'):EvsAt w' w'.heap.size A n c l:=(h.keep fun _ _ hp=>hb.cell hp).more hb.size
theorem EvsAt.at_ {w:World} {B n c:Nat} {A:Option Addr} {l:List Evn} (h:EvsAt w B A n c l) {i:Nat} (hi:i<l.length) :
  ∃ b o F fn fc,A=some ⟨b,o,none⟩∧b<B∧w.cell? ⟨b,o+i * 2,none⟩=some (.int .i64 l[i].1)∧w.cell? ⟨b,o+i * 2+1,none⟩=some (.slice F fn fc)∧FlAt w B F fn fc l[i].2:=by
 obtain ⟨vss,h1,h2,h3⟩:=h.ex
 have hl:=h.ln
 have hi':i<vss.length:=by omega
 have h4:∀ v∈vss,v.length=2:=fun v hv=>by
  obtain ⟨j,hj,rfl⟩:=List.mem_iff_getElem.1 hv
  exact (h3 j (by omega) hj).len
 obtain ⟨F,fn,fc,e,g⟩:=h3 i hi hi'
 obtain ⟨b,o,eA,hb,hc⟩:=h2.2 (by omega)
 have f0:=flat_get h4 i 0 hi' (by omega)
 have f1:=flat_get h4 i 1 hi' (by omega)
 rw [e] at f0 f1
 have c0:=hc _ _ f0
 have c1:=hc _ _ f1
 rw [← Nat.add_assoc] at c1
 exact ⟨b,o,F,fn,fc,eA,hb,c0,c1,g⟩
end Go.Proofs.YtlfpfkallgkjdaaGreat.Ev
end

section
namespace Go.Proofs.YtlfpfkallgkjdaaGreat.Ev
open Go.RowKit Ut Tk Qy Qp
structure Chg (O:Nat→Prop) (w w':World):Prop where
 os:w'.os=w.os
 tape:w'.tape=w.tape
 output:w'.output=w.output
 size:w.heap.size≤w'.heap.size
 block:∀ k,k<w.heap.size→¬ O k→w'.heap[k]?=w.heap[k]?
theorem Chg.refl (O:Nat→Prop) (w:World):Chg O w w:=⟨rfl,rfl,rfl,zG _,fun _ _ _=>rfl⟩
theorem Chg.trans {O O':Nat→Prop} {a b c:World} (h:Chg O a b) (k:Chg O' b c) (hO:∀ x,O' x→O x∨a.heap.size≤x):Chg O a c :=
 ⟨k.os.trans h.os,k.tape.trans h.tape,k.output.trans h.output,Nat.le_trans h.size k.size,fun i hi hn=>(k.block i (Nat.lt_of_lt_of_le hi h.size) (fun hk=>by
  rcases hO i hk with g | g
  ·exact hn g
  ·omega)).trans (h.block i hi hn)⟩
theorem Chg.mono {O O':Nat→Prop} {a b:World} (h:Chg O a b) (hO:∀ x,x<a.heap.size→O x→O' x):Chg O' a b:=⟨h.os,h.tape,h.output,h.size,fun k hk hn=>h.block k hk (fun ho=>hn (hO k hk ho))⟩
theorem Chg.of_below {O:Nat→Prop} {B:Nat} {a b:World} (h:Below B a b) (hO:∀ k,B≤k→k<a.heap.size→O k):Chg O a b:=⟨h.os,h.tape,h.output,h.size,fun k hk hn=>h.block k (Nat.lt_of_not_le (fun hB=>hn (hO k hB hk)))⟩
theorem Chg.of_new {O:Nat→Prop} {a b:World} (h:Below a.heap.size a b):Chg O a b:=Chg.of_below h (fun k h1 h2=>by omega)
theorem Chg.of_grown {O:Nat→Prop} {a b:World} {row:Option Nat} (h:a.grownBy b row) (hO:∀ k,row=some k→O k):Chg O a b:=⟨h.os,h.tape,h.output,h.size,fun k hk hn=>h.block k hk (fun e=>hn (hO k e.symm))⟩
theorem Chg.below {O:Nat→Prop} {B:Nat} {a b:World} (h:Chg O a b) (hB:B≤a.heap.size) (hO:∀ k,O k→B≤k):Below B a b:=⟨h.os,h.tape,h.output,h.size,fun k hk=>h.block k (Nat.lt_of_lt_of_le hk hB) (fun ho=>by have:=hO k ho; omega)⟩
theorem Chg.then_new {O:Nat→Prop} {a b c:World} (h:Chg O a b) (k:Below b.heap.size b c):Chg O a c:=h.trans (O':=fun _=>False) (Chg.of_new k) (fun x hx=>hx.elim)
theorem Chg.alloc {O:Nat→Prop} {a b:World} (h:Chg O a b) (o:Obj):Chg O a (b.alloc o):=h.then_new ((Below.refl _ _).alloc (zG _) _)
theorem Chg.cell {O:Nat→Prop} {a b:World} (h:Chg O a b) {p:Addr} (hp:p.block<a.heap.size) (hn:¬ O p.block):b.cell? p=a.cell? p:=World.cell?_of_block (h.block _ hp hn)
def Tg (w:World) (T:TypeId) (b:Nat):Prop:=∃ cs fr,w.heap[b]?=some (.cells cs T fr)
theorem Tg.lt {w:World} {T:TypeId} {b:Nat} (h:Tg w T b):b<w.heap.size:=by
 obtain ⟨cs,fr,h⟩:=h
 exact (Array.getElem?_eq_some_iff.1 h).1
theorem Tg.one {w:World} {T T':TypeId} {b:Nat} (h:Tg w T b) (h':Tg w T' b):T=T':=by
 obtain ⟨cs,fr,h⟩:=h
 obtain ⟨cs',fr',h'⟩:=h'
 rw [h] at h'
 injection h' with h'
 injection h'
theorem Tg.same {w w':World} {T:TypeId} {b:Nat} (h:Tg w T b) (e:w'.heap[b]?=w.heap[b]?):Tg w' T b:=by
 obtain ⟨cs,fr,h⟩:=h
 exact ⟨cs,fr,e.trans h⟩
theorem Tg.new {w w':World} {T:TypeId} {b:Nat} (h:Tg w T b) (hb:Below w.heap.size w w'):Tg w' T b:=h.same (hb.block b h.lt)
theorem tg_own {w:World} {base k n g:Nat} {T:TypeId} {v:Value} {xs:List Value} (h:w.ownsRow base T k v n xs) (hv:v.ownBlock=some g):Tg w T g:=by
 rcases h.2 with ⟨rfl,_⟩ | ⟨g',cap,cur,rfl,_,h2,_⟩
 ·cases hv
 ·injection hv with hv
  subst hv
  exact ⟨cur,_,h2⟩
theorem cell_same {w w':World} {b:Nat} (e:w'.heap[b]?=w.heap[b]?) (o:Nat):w'.cell? ⟨b,o,none⟩=w.cell? ⟨b,o,none⟩:=World.cell?_of_block e
theorem _root_.Go.Proofs.YtlfpfkallgkjdaaGreat.Qp.ReadsS.same {w w':World} {S S':Nat→Prop} {k n:Nat} {A:Option Addr} {xs:List Value} (h:ReadsS w S k A n xs) (hS:∀ b,S b→S' b∧w'.heap[b]?=w.heap[b]?):ReadsS w' S' k A n xs :=
 (h.keep (fun b o hb=>cell_same (hS b hb).2 o)).mono (fun b hb=>(hS b hb).1)
theorem reads_s {w:World} {B k n:Nat} {A:Option Addr} {xs:List Value} (h:Reads w B k A n xs):ReadsS w (fun b=>b<B) k A n xs:=h
structure DcS (w:World) (S:Nat→Prop) (d:Dc) (v:List Value):Prop where
 ex:∃ F fn fc,v=[.int .i64 d.seq,.int .i64 d.at_,.slice F fn fc]∧ReadsS w S 2 F fn (fldC d.fs)∧d.fs.length=fn∧fn≤8796093021952∧fn≤fc∧(F=none→fc=0)
theorem DcS.len {w:World} {S:Nat→Prop} {d:Dc} {v:List Value} (h:DcS w S d v):v.length=3:=by obtain ⟨F,fn,fc,rfl,_⟩:=h.ex; rfl
theorem DcS.same {w w':World} {S S':Nat→Prop} {d:Dc} {v:List Value} (h:DcS w S d v) (hS:∀ b,S b→S' b∧w'.heap[b]?=w.heap[b]?):DcS w' S' d v:=by
 obtain ⟨F,fn,fc,e,h1,h2⟩:=h.ex
 exact ⟨F,fn,fc,e,h1.same hS,h2⟩
structure DocsS (w:World) (R S:Nat→Prop) (A:Option Addr) (n:Nat) (ds:List Dc):Prop where
 ln:ds.length=n
 ex:∃ vss:List (List Value),vss.length=n∧ReadsS w R 3 A n vss.flatten∧∀ i (h:i<ds.length) (h':i<vss.length),DcS w S ds[i] vss[i]
theorem DocsS.same {w w':World} {R R' S S':Nat→Prop} {A:Option Addr} {n:Nat} {ds:List Dc} (h:DocsS w R S A n ds) (hR:∀ b,R b→R' b∧w'.heap[b]?=w.heap[b]?) (hS:∀ b,S b→S' b∧w'.heap[b]?=w.heap[b]?):DocsS w' R' S' A n ds:=by
 obtain ⟨vss,h1,h2,h3⟩:=h.ex
 exact ⟨h.ln,vss,h1,h2.same hR,fun i a b=>(h3 i a b).same hS⟩
theorem DocsS.nil {w:World} {R S:Nat→Prop} {A:Option Addr}:DocsS w R S A 0 []:=⟨rfl,[],rfl,ReadsS.none_,fun i h=>absurd h (by simp)⟩
theorem DocsS.at_ {w:World} {R S:Nat→Prop} {A:Option Addr} {n:Nat} {ds:List Dc} (h:DocsS w R S A n ds) {i:Nat} (hi:i<ds.length) :
  ∃ b o F fn fc,A=some ⟨b,o,none⟩∧R b∧w.cell? ⟨b,o+i * 3,none⟩=some (.int .i64 ds[i].seq)∧w.cell? ⟨b,o+i * 3+1,none⟩=some (.int .i64 ds[i].at_)∧w.cell? ⟨b,o+i * 3+2,none⟩=some (.slice F fn fc) ∧
   ReadsS w S 2 F fn (fldC ds[i].fs)∧ds[i].fs.length=fn∧fn≤8796093021952∧fn≤fc∧(F=none→fc=0):=by
 obtain ⟨vss,h1,h2,h3⟩:=h.ex
 have hl:=h.ln
 have hi':i<vss.length:=by omega
 have h4:∀ v∈vss,v.length=3:=fun v hv=>by
  obtain ⟨j,hj,rfl⟩:=List.mem_iff_getElem.1 hv
  exact (h3 j (by omega) hj).len
 obtain ⟨F,fn,fc,e,g1,g2,g3,g4⟩:=(h3 i hi hi').ex
 obtain ⟨b,o,eA,hb,hc⟩:=h2.2 (by omega)
 have f0:=flat_get h4 i 0 hi' (by omega)
 have f1:=flat_get h4 i 1 hi' (by omega)
 have f2:=flat_get h4 i 2 hi' (by omega)
 rw [e] at f0 f1 f2
 have c0:=hc _ _ f0
 have c1:=hc _ _ f1
 have c2:=hc _ _ f2
 rw [← Nat.add_assoc] at c1 c2
 exact ⟨b,o,F,fn,fc,eA,hb,c0,c1,c2,g1,g2,g3,g4⟩
theorem own_succ {w:World} {base:Nat} {e:TypeId} {size n:Nat} {v:Value} {xs:List Value} (h:w.ownsRow base e size v (n+1) xs):∃ g q,v=.slice (some ⟨g,0,none⟩) (n+1) q:=by
 rcases h.2 with ⟨_,h0⟩ | ⟨g,cap,cur,hv,_⟩
 ·omega
 ·exact ⟨g,cap,hv⟩
theorem grownBy_setC (w:World) (h o:Nat) (u:Value):w.grownBy (w.setCell ⟨h,o,none⟩ u) (some h) :=
 ⟨rfl,rfl,rfl,by simp [World.setCell],fun k _ hne=>Below.heap_setCell _ _ _ _ (fun e=>hne (by rw [e]))⟩
theorem own_shape2 {w:World} {base:Nat} {e:TypeId} {size n:Nat} {v:Value} {xs:List Value} (h:w.ownsRow base e size v n xs) :
  ∃ A c,v=.slice A n c∧Reads w w.heap.size size A n xs∧n≤c∧(A=none→c=0)∧(0<n→∃ g,A=some ⟨g,0,none⟩∧∃ cur,w.heap[g]?=some (.cells cur e (0,0))):=by
 obtain ⟨A,c,rfl,hR⟩:=own_shape h
 refine ⟨A,c,rfl,hR,?_⟩
 rcases h.2 with ⟨hv,h0⟩ | ⟨g,cap,cur,hv,_,hg,hnc,_⟩
 ·injection hv with _ _ hc
  exact ⟨by omega,fun _=>hc,fun h=>by omega⟩
 ·injection hv with hA _ hc
  exact ⟨by omega,fun e=>(by rw [hA] at e; cases e),fun _=>⟨g,hA,cur,hg⟩⟩
abbrev Fd (w:World) (base:Nat) (b:Nat):Prop:=base≤b∧Tg w 99 b
structure DOwn (w:World) (base:Nat) (v:Value) (ds:List Dc):Prop where
 ex:∃ vss:List (List Value),vss.length=ds.length∧w.ownsRow base 132 3 v ds.length vss.flatten∧∀ i (h:i<ds.length) (h':i<vss.length),DcS w (Fd w base) ds[i] vss[i]
theorem DOwn.start (w:World) (base:Nat):DOwn w base (.slice none 0 0) []:=⟨[],rfl,World.ownsRow_nil _ _ _ _,fun i h=>absurd h (by simp)⟩
theorem DOwn.below {w w':World} {base:Nat} {v:Value} {ds:List Dc} (h:DOwn w base v ds) (hb:Below w.heap.size w w'):DOwn w' base v ds:=by
 obtain ⟨vss,h1,h2,h3⟩:=h.ex
 refine ⟨vss,h1,h2.kept (grow_of_below hb none) (by cases hv:v.ownBlock <;> simp),fun i a b=>(h3 i a b).same (fun b hS=>⟨⟨hS.1,hS.2.new hb⟩,hb.block b hS.2.lt⟩)⟩
theorem DOwn.put {w w5:World} {base:Nat} {v v':Value} {ds:List Dc} {d:Dc} {u:List Value} {xs:List Value} (hx:∃ vss:List (List Value),vss.length=ds.length∧w.ownsRow base 132 3 v ds.length vss.flatten∧(∀ i (h:i<ds.length) (h':i<vss.length),DcS w (Fd w base) ds[i] vss[i])∧xs=vss.flatten)
  (hp:w5.ownsRow base 132 3 v' (ds.length+1) (xs ++ u)) (hg:w.grownBy w5 v.ownBlock) (hd:DcS w (Fd w base) d u):DOwn w5 base v' (ds ++ [d]):=by
 obtain ⟨vss,h1,h2,h3,rfl⟩:=hx
 have keep:∀ b,Fd w base b→Fd w5 base b∧w5.heap[b]?=w.heap[b]?:=fun b hS=>by
  have e:w5.heap[b]?=w.heap[b]?:=hg.block b hS.2.lt (fun e=>by
   have:=(tg_own h2 e.symm).one hS.2
   exact absurd this (by decide))
  exact ⟨⟨hS.1,hS.2.same e⟩,e⟩
 refine ⟨vss ++ [u],by simp [h1],?_,fun i a b=>?_⟩
 ·rw [List.flatten_append,List.length_append]
  simpa using hp
 ·by_cases hi:i<ds.length
  ·rw [List.getElem_append_left hi,List.getElem_append_left (by omega)]
   exact (h3 i hi (by omega)).same keep
  ·have hi':i=ds.length:=by simp at a; omega
   subst hi'
   rw [List.getElem_append_right (by omega),List.getElem_append_right (by omega)]
   simp only [Nat.sub_self,h1,List.getElem_cons_zero]
   exact hd.same keep
theorem own_mono {w:World} {base base' k n:Nat} {T:TypeId} {v:Value} {xs:List Value} (h:w.ownsRow base T k v n xs) (hb:base'≤base):w.ownsRow base' T k v n xs :=
 ⟨h.1,h.2.elim .inl (fun ⟨g,cap,cur,hv,hg,r⟩=>.inr ⟨g,cap,cur,hv,Nat.le_trans hb hg,r⟩)⟩
theorem DcS.mono {w:World} {S S':Nat→Prop} {d:Dc} {v:List Value} (h:DcS w S d v) (hS:∀ b,S b→S' b):DcS w S' d v:=h.same (fun b hb=>⟨hS b hb,rfl⟩)
theorem DOwn.mono {w:World} {base base':Nat} {v:Value} {ds:List Dc} (h:DOwn w base v ds) (hb:base'≤base):DOwn w base' v ds:=by
 obtain ⟨vss,h1,h2,h3⟩:=h.ex
 exact ⟨vss,h1,own_mono h2 hb,fun i a b=>(h3 i a b).mono (fun b hS=>⟨Nat.le_trans hb hS.1,hS.2⟩)⟩
end Go.Proofs.YtlfpfkallgkjdaaGreat.Ev
end

section
namespace Go.Proofs.YtlfpfkallgkjdaaGreat.Ss
open Go.RowKit Go.Sort Go.Shelf Go.Lib
variable {α:Type} [Inhabited α] {enc : α→List Value} {k:Nat}
theorem encs_len (hk:∀ x,(enc x).length=k) (l:List α):(l.flatMap enc).length=l.length * k:=by
 induction l with
 | nil=>simp
 | cons x l ih=>rw [List.flatMap_cons,List.length_append,hk,ih,List.length_cons,Nat.add_mul,Nat.one_mul,Nat.add_comm]
theorem encs_get (hk:∀ x,(enc x).length=k) (l:List α) (i j:Nat) (hi:i<l.length) (hj:j<k):(l.flatMap enc)[i * k+j]?=(enc l[i])[j]?:=by
 have:=Qy.flat_get (k:=k) (vss:=l.map enc) (fun v hv=>by obtain ⟨x,_,rfl⟩:=List.mem_map.1 hv; exact hk x) i j (by simpa using hi) hj
 rw [List.getElem_map] at this
 rw [List.flatMap_def]
 exact this
theorem flat_enc (hk:∀ x,(enc x).length=k) (h0 : 0<k) (l:List α):flatK enc k l.toArray=(l.flatMap enc).toArray:=by
 apply Array.ext
 ·simp only [size_flatK,List.size_toArray,encs_len hk]
 ·intro i h1 h2
  rw [size_flatK] at h1
  have hs:l.toArray.size=l.length:=by simp
  rw [hs] at h1
  have hi:i / k<l.length:=Nat.div_lt_of_lt_mul (by rw [Nat.mul_comm]; exact h1)
  have e1:(flatK enc k l.toArray)[i]! = (enc l.toArray[i / k]!)[i % k]!:=get_flatK enc k l.toArray i (by rw [hs]; exact h1)
  rw [getElem!_pos _ i (by rw [size_flatK,hs]; exact h1)] at e1
  have e2:l.toArray[i / k]! = l[i / k]:=by rw [getElem!_pos _ _ (by simpa using hi)]; simp
  have hm:i % k<k:=Nat.mod_lt _ h0
  have g:=encs_get hk l (i / k) (i % k) hi hm
  have ei:i / k * k+i % k=i:=by rw [Nat.mul_comm]; exact Nat.div_add_mod i k
  rw [ei] at g
  rw [e1,e2]
  have h3:i<(l.flatMap enc).length:=by rw [encs_len hk]; exact h1
  rw [List.getElem?_eq_getElem h3,List.getElem?_eq_getElem (by rw [hk]; exact hm)] at g
  injection g with g
  rw [getElem!_pos _ _ (by rw [hk]; exact hm),← g]
  simp
theorem holdsE (hk:∀ x,(enc x).length=k) (h0 : 0<k) {w:World} {g:Nat} {cur:Array Value} {e:TypeId} {l:List α} (hb:w.heap[g]?=some (.cells cur e (0,0))) (ht:cur.toList.take (l.length * k)=l.flatMap enc):HoldsK enc k w g 0 l.toArray:=by
 unfold HoldsK
 rw [flat_enc hk h0]
 intro j hj
 have hj':j<(l.flatMap enc).length:=by simpa using hj
 have hj2:j<l.length * k:=by rw [encs_len hk] at hj'; exact hj'
 refine ⟨?_,by simp [World.frozen?,hb]⟩
 have h1:(cur.toList.take (l.length * k))[j]?=(l.flatMap enc)[j]?:=by rw [ht]
 rw [List.getElem?_take_of_lt hj2] at h1
 simp only [World.cell?,hb,Nat.zero_add]
 simp only [Option.isSome_none,Bool.false_eq_true,if_false]
 rw [← Array.getElem?_toList,h1]
 simp [hj',List.getElem?_eq_getElem hj']
theorem heapE {w:World} {g n:Nat} {os:Array Obj} {cur:Array Value} {e:TypeId} {fr:Nat × Nat} (d:Array Value) (hb:w.heap[g]?=some (.cells cur e fr)) :
  (grow (putRow id (Sort.ahead w n) g 0 d) os).heap[g]?=some (.cells (putCells id 0 d cur) e fr):=by
 have hg:g<w.heap.size:=(Array.getElem?_eq_some_iff.1 hb).1
 rw [heap_grow_old _ _ (by simpa using hg)]
 simp [putRow,mapBlock,Sort.ahead,Array.getElem?_modify,hb,onCells]
theorem grownE {w:World} {g n:Nat} {os:Array Obj} (d:Array α):w.grownBy (sortWorldK enc k w g 0 n d os) (some g):=by
 unfold sortWorldK putRowK
 refine ⟨rfl,rfl,rfl,by simp,fun j hj hne=>?_⟩
 rw [heap_grow_old _ _ (by simpa using hj)]
 have:g≠j:=fun e=>hne (by rw [e])
 simp [putRow,mapBlock,Sort.ahead,Array.getElem?_modify,this]
theorem takeE (cur:Array Value) (F:List Value) (h:F.length≤cur.size):(putCells id 0 F.toArray cur).toList.take F.length=F:=by
 apply List.ext_getElem?
 intro j
 by_cases hj:j<F.length
 ·rw [List.getElem?_take_of_lt hj,Array.getElem?_toList]
  simp [putCells,hj,show j<cur.size by omega]
 ·rw [List.getElem?_take_eq_none (by omega),List.getElem?_eq_none (by omega)]
theorem ownE (hk:∀ x,(enc x).length=k) (h0 : 0<k) {w:World} {base g cap n:Nat} {e:TypeId} {os:Array Obj} {cur:Array Value} {l m:List α} (hl:m.length=l.length) (hbase:base≤g) (hb:w.heap[g]?=some (.cells cur e (0,0)))
  (h1:l.length≤cap) (h2:cap≤maxLen) (h3:cur.size=cap * k) :
  (sortWorldK enc k w g 0 n m.toArray os).ownsRow base e k (.slice (some ⟨g,0,none⟩) m.length cap) m.length (m.flatMap enc):=by
 unfold sortWorldK putRowK
 rw [flat_enc hk h0]
 refine ⟨encs_len hk m,.inr ⟨g,cap,_,rfl,hbase,heapE _ hb,by omega,h2,by simp [putCells,h3],?_⟩⟩
 rw [← encs_len hk m]
 exact takeE cur (m.flatMap enc) (by rw [encs_len hk,h3]; exact Nat.mul_le_mul_right k (by omega))
end Go.Proofs.YtlfpfkallgkjdaaGreat.Ss
end

section
namespace Go.Proofs.YtlfpfkallgkjdaaGreat.Ev
open Go.RowKit Ut Tk Ss Go.Sort Go.Shelf Go.Lib
theorem cmp_lt:∀ a b:List UInt8,Lib.compareBytes a b<0↔Op.bytesLess a b=true
 | [],[]=>by simp [Lib.compareBytes,Op.bytesLess]
 | [],_ :: _=>by simp [Lib.compareBytes,Op.bytesLess]
 | _ :: _,[]=>by simp [Lib.compareBytes,Op.bytesLess]
 | a :: xs,b :: ys=>by
  have ih:=cmp_lt xs ys
  simp only [Lib.compareBytes,Op.bytesLess,Bool.or_eq_true,Bool.and_eq_true,decide_eq_true_eq,beq_iff_eq]
  by_cases c1:a<b
  ·simp [c1]
  ·by_cases c2:b<a
   ·have hne:a≠b:=fun e=>by subst e; exact c1 c2
    simp [c1,c2,hne]
   ·have e:a=b:=UInt8.le_antisymm (UInt8.not_lt.1 c2) (UInt8.not_lt.1 c1)
    subst e
    simp [c1,ih]
structure El where
 s:ByteArray
 p:Nat
 b:Nat
instance:Inhabited El:=⟨⟨ByteArray.empty,0,0⟩⟩
def encE (x:El):List Value:=[.string x.s,.slice (some ⟨x.b,0,none⟩) 1 1]
def cfE (x y:El):Int:=Lib.compareBytes x.s.data.toList y.s.data.toList
def t1 (x:El):T1:=(x.s,x.p)
theorem ltOf_E (x y:El):ltOf cfE x y=ltB x.s y.s:=by
 unfold ltOf cfE ltB
 rw [ByteArray.toList_eq,ByteArray.toList_eq]
 have:=cmp_lt x.s.data.toList y.s.data.toList
 cases h:Op.bytesLess x.s.data.toList y.s.data.toList
 ·rw [h] at this; simp only [Bool.false_eq_true,iff_false] at this; exact decide_eq_false this
 ·rw [h] at this; exact decide_eq_true (this.2 rfl)
theorem swoE:SWO (ltOf cfE) where
 irrefl x:=by rw [ltOf_E]; exact ltB_irrefl _
 trans x y z h1 h2:=by rw [ltOf_E] at *; exact ltB_trans h1 h2
 ntrans x y z h1 h2:=by
  rw [ltOf_E] at *
  cases h:ltB x.s z.s
  ·rfl
  ·rcases ltB_total h1 with e | e
   ·rw [e] at h; rw [h] at h2; cases h2
   ·have:=ltB_trans e h
    rw [h2] at this; cases this
theorem perm_whole {l:List El} {d':Array El} (h:PermIn 0 l.length l.toArray d'):d'.toList.Perm l:=by
 obtain ⟨h1,_,h3⟩:=h
 have hs:d'.size=l.length:=by simpa using h1
 have e1:d'.extract 0 l.length=d':=by rw [← hs]; simp
 have e2:l.toArray.extract 0 l.length=l.toArray:=by
  have:l.length=l.toArray.size:=by simp
  rw [this,Array.extract_size]
 rw [e1,e2] at h3
 exact h3
theorem sorted_els {l:List El} {d':Array El} (hP:PermIn 0 l.length l.toArray d') (hs:Srt cfE El.p d' 0 l.length) (ht:l.Pairwise (fun x y=>x.p<y.p)) :
  d'.toList.Perm l∧(d'.toList.map t1).foldl mrg []=addAll (l.map t1):=by
 have hp:=perm_whole hP
 refine ⟨hp,?_⟩
 have hz:d'.size=l.length:=by have:=hP.1; simpa using this
 have hpw:d'.toList.Pairwise (bef cfE El.p):=by
  rw [List.pairwise_iff_getElem]
  intro i j hi hj hij
  have h1:i<d'.size:=by simpa using hi
  have h2:j<d'.size:=by simpa using hj
  have:=hs i j (Nat.zero_le _) hij (by omega)
  rw [getElem!_pos d' i h1,getElem!_pos d' j h2] at this
  simpa using this
 refine sorted_terms ?_ (fun s=>?_)
 ·rw [List.pairwise_map]
  refine hpw.imp (fun {x y} h=>?_)
  show ltB y.s x.s=false
  rcases h with h | ⟨h,_⟩
  ·exact ltB_asymm ((ltOf_E x y).symm.trans (decide_eq_true h))
  ·exact (ltOf_E y x).symm.trans (decide_eq_false h)
 ·rw [List.filter_map,List.filter_map]
  congr 1
  refine mem_one (r:=fun x y:El=>x.p<y.p) (fun x=>Nat.lt_irrefl _) (fun x y z=>Nat.lt_trans) (fun x=>?_) (ht.filter _) ?_
  ·simp only [List.mem_filter,hp.mem_iff]
  ·have h1:=hpw.filter (fun x:El=>decide ((t1 x).1=s))
   have h2:(d'.toList.filter (fun x:El=>decide ((t1 x).1=s))).Pairwise (fun x y=>bef cfE El.p x y∧x.s=s∧y.s=s):=by
    refine List.Pairwise.imp_of_mem (fun {x y} hx hy h=>⟨h,?_,?_⟩) h1
    ·exact of_decide_eq_true (List.mem_filter.1 hx).2
    ·exact of_decide_eq_true (List.mem_filter.1 hy).2
   refine h2.imp (fun {x y} h=>?_)
   obtain ⟨h,e1,e2⟩:=h
   rcases h with h | ⟨_,h⟩
   ·have:ltB x.s y.s=true:=(ltOf_E x y).symm.trans (decide_eq_true h)
    rw [e1,e2,ltB_irrefl] at this; cases this
   ·exact h
set_option maxHeartbeats 400000 in
theorem less_terms (x y:El) (w:World):Calls Tryz.prog 75 (#[.agg (encE x).toArray,.agg (encE y).toArray] ++ #[]) w fun e w'=>e=.returned (.int .i64 (cfE x y))∧∃ q os,w'=grow (w.drewN q) os:=by
 have h:=fun w=>Tryz.strings_Compare x.s y.s w
 have Fin:Hid (cfE x y=Lib.compareBytes x.s.data.toList y.s.data.toList):=rfl
 generalize cfE x y=r at *
 simp only [encE,Array.append_empty]
 generalize x.s=xs at *
 generalize y.s=ys at *
 go_enter Tryz.func75,Tryz.ntmps75
 go_wp2_with fail
 refine (h _).mono ?_
 rintro e w' ⟨rfl,rfl⟩
 have F:=zh Fin.out
 rw [← F.out]
 clear h Fin
 go_wp2
 go_ret
 exact ⟨rfl,0,#[.cells #[.string xs,.slice (some ⟨x.b,0,none⟩) 1 1] 105,.cells #[.string ys,.slice (some ⟨y.b,0,none⟩) 1 1] 105],by rw [alloc_eq_grow,alloc_eq_grow,grow_grow]; rfl⟩
theorem cmpLaysE (blk off size:Nat) (w:World):CmpLays Tryz.prog 75 #[] encE 2 cfE blk off size w:=fun m os dk hs x y=>less_terms x y _
theorem sortE_any (base g cap:Nat) (l:List El) (cur:Array Value) (w:World) (hb:w.heap[g]?=some (.cells cur 105 (0,0))) (ht:cur.toList.take (l.length * 2)=l.flatMap encE) (hl:l.length≤1048576)
  (hg:base≤g) (h1:l.length≤cap) (h2:cap≤maxLen) (h3:cur.size=cap * 2) (hp:l.Pairwise (fun x y=>x.p<y.p)) :
  Calls Tryz.prog 74 #[.slice (some ⟨g,0,none⟩) l.length cap,.func (.func 75) #[] #[]] w fun e w' =>
   e=.returned (.tuple #[])∧∃ m:List El,m.Perm l∧(m.map t1).foldl mrg []=addAll (l.map t1)∧w'.ownsRow base 105 2 (.slice (some ⟨g,0,none⟩) l.length cap) l.length (m.flatMap encE)∧w.grownBy w' (some g):=by
 have hH:=holdsE (enc:=encE) (k:=2) (fun _=>rfl) (by decide) hb ht
 have hsz:l.toArray.size=l.length:=by simp
 have hgl:g<w.heap.size:=(Array.getElem?_eq_some_iff.1 hb).1
 have c:=sortStable_any (enc:=encE) (cf:=cfE) (tag:=El.p) swoE 2 rfl 75 #[] g 0 cap l.toArray w (enters_of Tryz.func75 (by kernel_rfl) rfl) (cmpLaysE g 0 _ w)
  ⟨fun _=>rfl,fun x v hv=>by simp [encE] at hv; rcases hv with rfl | rfl <;> rfl,hH,hgl⟩ (SWK.start hH) (by rw [hsz]; omega) (fun x y hxy hy=>by
   rw [hsz] at hy
   rw [getElem!_pos _ x (by simp; omega),getElem!_pos _ y (by simp; omega)]
   simpa using List.pairwise_iff_getElem.1 hp x y (by omega) hy hxy)
 rw [hsz] at c
 refine c.mono ?_
 rintro e w' ⟨rfl,d',⟨n,os,rfl⟩,hd,hP,hS⟩
 obtain ⟨q1,q2⟩:=sorted_els hP hS hp
 have hm:d'.toList.length=l.length:=q1.length_eq
 have ho:=ownE (enc:=encE) (k:=2) (fun _=>rfl) (by decide) (base:=base) (n:=n) (os:=os) (l:=l) (m:=d'.toList) hm hg hb h1 h2 h3
 rw [hm] at ho
 exact ⟨rfl,d'.toList,q1,q2,by simpa using ho,grownE _⟩
set_option maxHeartbeats 400000 in
theorem insertion_nil (w:World) (fv:Value):Calls Tryz.prog 150 #[.slice none 0 0,.int .i64 0,.int .i64 0,fv] w fun e w'=>e=.returned (.tuple #[])∧w=w':=by
 go_enter Tryz.func150,Tryz.ntmps150
 go_wp2
 go_loop [8] (fun i=>i=.int .i64 1) (fun _=>0)
 case atStart=>rfl
 case round =>
  subst hrel
  go_wp2
  go_end0
  exact ⟨rfl,rfl⟩
set_option maxHeartbeats 400000 in
theorem stable_nil (w:World) (fv:Value):Calls Tryz.prog 111 #[.slice none 0 0,.int .i64 0,fv] w fun e w'=>e=.returned (.tuple #[])∧w=w':=by
 go_enter Tryz.func111,Tryz.ntmps111
 go_wp2
 go_loop [7,8] (fun a b=>a=.int .i64 0∧b=.int .i64 20) (fun _ _=>0)
 case atStart=>exact ⟨rfl,rfl⟩
 case round =>
  obtain ⟨rfl,rfl⟩:=hrel
  go_wp2_with fail
  refine (insertion_nil _ _).mono ?_
  rintro e w' ⟨rfl,rfl⟩
  go_wp2
  go_loop [6] (fun b=>b=.int .i64 20) (fun _=>0)
  case atStart=>rfl
  case round =>
   subst hrel
   go_wp2
   go_end0
   exact ⟨rfl,rfl⟩
set_option maxHeartbeats 400000 in
theorem sortE_nil (w:World) (fv:Value):Calls Tryz.prog 74 #[.slice none 0 0,fv] w fun e w'=>e=.returned (.tuple #[])∧w=w':=by
 go_enter Tryz.func74,Tryz.ntmps74
 go_wp2_with fail
 refine (stable_nil _ _).mono ?_
 rintro e w' ⟨rfl,rfl⟩
 go_wp2
 go_end0
 exact ⟨rfl,rfl⟩
end Go.Proofs.YtlfpfkallgkjdaaGreat.Ev
end

section
namespace Go.Proofs.YtlfpfkallgkjdaaGreat.Ev
open Go.RowKit Go.Shelf Ut Tk Qy Qp
def NT (n0:Nat) (W W':World):Prop:=Below n0 W W'∧∀ (b:Nat) (o:Obj),W.heap[b]?=some o→(∀ cs T fr,o=.cells cs T fr→T≠102∧T≠105)→W'.heap[b]?=some o
theorem NT.refl (n0:Nat) (W:World):NT n0 W W:=⟨Below.refl _ _,fun _ _ h _=>h⟩
theorem NT.trans {n0:Nat} {A B C:World} (h:NT n0 A B) (k:NT n0 B C):NT n0 A C:=⟨h.1.trans k.1,fun b o hb ho=>k.2 b o (h.2 b o hb ho) ho⟩
theorem NT.below {n0:Nat} {A B:World} (h:Below A.heap.size A B) (hn:n0≤A.heap.size):NT n0 A B:=⟨h.mono hn,fun b o hb _=>(h.block b (Array.getElem?_eq_some_iff.1 hb).1).trans hb⟩
theorem NT.ke {n0:Nat} {A B:World} (h:NT n0 A B):KE n0 A B:=⟨h.1,fun b cs T fr hT hb=>h.2 b _ hb (fun cs' T' fr' e=>by
 injection e with _ e
 subst e
 rcases hT with rfl | rfl <;> exact ⟨by decide,by decide⟩)⟩
theorem NT.others {n0:Nat} {A B:World} (h:NT n0 A B):KeepsOthers A B:=⟨h.1.size,fun b o hb ho=>h.2 b o hb (fun cs T fr e=>by subst e; cases ho)⟩
theorem NT.cells {n0:Nat} {A B:World} (h:NT n0 A B) {b:Nat} {cs:Array Value} {T:TypeId} {fr:Nat × Nat} (hb:A.heap[b]?=some (.cells cs T fr)) (h1:T≠102) (h2:T≠105):B.heap[b]?=some (.cells cs T fr) :=
 h.2 b _ hb (fun cs' T' fr' e=>by injection e with _ e; subst e; exact ⟨h1,h2⟩)
def CK (W W':World):Prop:=∀ (b:Nat) (cs:Array Value) (T:TypeId) (fr:Nat × Nat),W.heap[b]?=some (.cells cs T fr)→W'.heap[b]?=some (.cells cs T fr)
theorem CK.grown {W W':World} {row:Option Nat} (hg:W.grownBy W' row) (hr:∀ r,row=some r→∃ o:Obj,W.heap[r]?=some o∧o.isCells=false):CK W W':=fun b cs T fr hb=>by
 refine (hg.block b (Array.getElem?_eq_some_iff.1 hb).1 (fun e=>?_)).trans hb
 obtain ⟨o,h1,h2⟩:=hr b e.symm
 rw [hb] at h1
 injection h1 with h1
 subst h1
 cases h2
theorem own_ck {W W':World} {base k n:Nat} {T:TypeId} {v:Value} {xs:List Value} (h:W.ownsRow base T k v n xs) (hk:CK W W'):W'.ownsRow base T k v n xs :=
 ⟨h.1,h.2.elim .inl (fun ⟨g,cap,cur,hv,hg,hh,r⟩=>.inr ⟨g,cap,cur,hv,hg,hk _ _ _ _ hh,r⟩)⟩
structure Col (w W:World) (n0 lb:Nat) (v:Value) (L:List El) (R:List T1):Prop where
 bx:Boxed W lb 102 v
 own:W.ownsRow n0 105 2 v L.length (L.flatMap encE)
 pos:∀ x∈L,n0≤x.b∧W.heap[x.b]?=some (.cells #[.int .i64 (x.p:Nat)] 3 (0,0))
 ne:L.Pairwise (fun x y=>x.b≠y.b)
 is:L.map t1=R
 bel:Below n0 w W
 nl:L=[]→v=.slice none 0 0
def ColE (w W:World) (n0 lb:Nat) (R:List T1):Prop:=∃ v L,Col w W n0 lb v L R
theorem Col.ck {w W W':World} {n0 lb:Nat} {v:Value} {L:List El} {R:List T1} (h:Col w W n0 lb v L R) (hk:CK W W') (hb:Below n0 W W'):Col w W' n0 lb v L R :=
 ⟨hk _ _ _ _ h.bx,own_ck h.own hk,fun x hx=>⟨(h.pos x hx).1,hk _ _ _ _ (h.pos x hx).2⟩,h.ne,h.is,h.bel.trans hb,h.nl⟩
theorem Col.below {w W W':World} {n0 lb:Nat} {v:Value} {L:List El} {R:List T1} (h:Col w W n0 lb v L R) (hb:Below W.heap.size W W') (hn:n0≤W.heap.size):Col w W' n0 lb v L R :=
 h.ck (fun b cs T fr hc=>(hb.block b (Array.getElem?_eq_some_iff.1 hc).1).trans hc) (hb.mono hn)
theorem ColE.below {w W W':World} {n0 lb:Nat} {R:List T1} (h:ColE w W n0 lb R) (hb:Below W.heap.size W W') (hn:n0≤W.heap.size):ColE w W' n0 lb R:=by
 obtain ⟨v,L,h⟩:=h
 exact ⟨v,L,h.below hb hn⟩
theorem col_put {w W W2 w3:World} {n0 lb:Nat} {v v':Value} {L:List El} {R:List T1} {s:ByteArray} {p:Nat} {o2:Obj} (h:Col w W n0 lb v L R) (hlb:n0≤lb) (hn:n0≤W.heap.size)
  (hW2:W2=(W.alloc (.cells #[.int .i64 (p:Nat)] 3)).alloc o2)
  (hg:W2.grownBy w3 v.ownBlock) (hown:w3.ownsRow n0 105 2 v' (L.length+1) (L.flatMap encE ++ [.string s,.slice (some ⟨W.heap.size,0,none⟩) 1 1])) :
  Col w (w3.setCell ⟨lb,0,none⟩ v') n0 lb v' (L ++ [⟨s,p,W.heap.size⟩]) (R ++ [(s,p)])∧NT n0 W (w3.setCell ⟨lb,0,none⟩ v')∧Boxed w3 lb 102 v:=by
 have hb2:Below W.heap.size W W2:=by rw [hW2]; exact ((Below.refl _ _).alloc (zG _) _).alloc (by simp) _
 have hlbW:lb<W.heap.size:=h.bx.lt
 have hbx2:Boxed W2 lb 102 v:=(hb2.block lb hlbW).trans h.bx
 have hown2:=h.own.kept (grow_of_below hb2 none) (by cases hv:v.ownBlock <;> simp)
 have hvb:∀ g,v.ownBlock=some g→Tg W2 105 g∧n0≤g:=fun g e=>⟨tg_own hown2 e,(hown2.lt g e).1⟩
 have hlb3:Boxed w3 lb 102 v:=(hg.block lb hbx2.lt (fun e=>by
  have h1:=(hvb lb e.symm).1.one ⟨_,_,hbx2⟩
  exact absurd h1 (by decide))).trans hbx2
 have hbF:Boxed (w3.setCell ⟨lb,0,none⟩ v') lb 102 v':=hlb3.set v'
 have hgs:w3.grownBy (w3.setCell ⟨lb,0,none⟩ v') (some lb):=grownBy_setC w3 lb 0 v'
 have hneB:∀ g,v'.ownBlock=some g→g≠lb:=fun g e e2=>by
  subst e2
  have h1:=(tg_own hown e).one ⟨_,_,hlb3⟩
  exact absurd h1 (by decide)
 have hnt:NT n0 W (w3.setCell ⟨lb,0,none⟩ v'):=by
  refine ⟨?_,fun b o hb ho=>?_⟩
  ·have h1:Below n0 W W2:=hb2.mono hn
   have h2:Below n0 W2 w3:=(Below.refl n0 W2).grown hg (by have:=hb2.size; omega) (fun g e=>(hvb g e).2)
   exact (h1.trans h2).trans ((Below.refl n0 w3).setCell (p:=⟨lb,0,none⟩) hlb v')
  ·have hbl:=(Array.getElem?_eq_some_iff.1 hb).1
   have e2:W2.heap[b]?=some o:=(hb2.block b hbl).trans hb
   have e3:w3.heap[b]?=some o:=(hg.block b (by have:=hb2.size; omega) (fun e=>by
    obtain ⟨cs,fr,h1⟩:=(hvb b e.symm).1
    rw [e2] at h1
    injection h1 with h1
    exact (ho _ _ _ h1).2 rfl)).trans e2
   refine (hgs.block b (by have:=hg.size; have:=hb2.size; omega) (fun e=>?_)).trans e3
   injection e with e
   subst e
   rw [hlb3] at e3
   injection e3 with e3
   exact (ho _ _ _ e3.symm).1 rfl
 have hnew:(w3.setCell ⟨lb,0,none⟩ v').heap[W.heap.size]?=some (.cells #[.int .i64 (p:Nat)] 3 (0,0)):=by
  have e1:W2.heap[W.heap.size]?=some (.cells #[.int .i64 (p:Nat)] 3 (0,0)):=by
   rw [hW2]
   exact (Below.heap_alloc _ _ _ (by simp)).trans (World.alloc_heap_new W _)
  have hs2:W.heap.size<W2.heap.size:=(Array.getElem?_eq_some_iff.1 e1).1
  have e2:w3.heap[W.heap.size]?=some (.cells #[.int .i64 (p:Nat)] 3 (0,0)):=(hg.block _ hs2 (fun e=>by
   have h1:=(hvb _ e.symm).1.one ⟨_,_,e1⟩
   exact absurd h1 (by decide))).trans e1
  exact (hgs.block _ (by have:=hg.size; omega) (fun e=>by injection e with e; omega)).trans e2
 refine ⟨⟨hbF,?_,fun x hx=>?_,?_,by rw [List.map_append,h.is]; rfl,h.bel.trans hnt.1,fun e=>by simp at e⟩,hnt,hlb3⟩
 ·rw [List.flatMap_append,List.length_append]
  have h5:=hown.kept hgs (by
   cases hv:v'.ownBlock with
   | none=>exact .inl rfl
   | some g=>exact .inr (fun e=>hneB g hv (by injection e)))
  simpa [encE] using h5
 ·rcases List.mem_append.1 hx with hx | hx
  ·exact ⟨(h.pos x hx).1,hnt.cells (h.pos x hx).2 (by decide) (by decide)⟩
  ·rw [List.mem_singleton] at hx
   subst hx
   exact ⟨hn,hnew⟩
 ·refine List.pairwise_append.2 ⟨h.ne,List.pairwise_singleton _ _,fun x hx y hy=>?_⟩
  rw [List.mem_singleton] at hy
  subst hy
  have:=(Array.getElem?_eq_some_iff.1 (h.pos x hx).2).1
  show x.b≠W.heap.size
  omega
theorem ColE.own {w W W':World} {n0 lb:Nat} {R:List T1} (h:ColE w W n0 lb R) (hk:CK W W') (hb:Below n0 W W'):ColE w W' n0 lb R:=by
 obtain ⟨v,L,h⟩:=h
 exact ⟨v,L,h.ck hk hb⟩
theorem rawO_len (x:Nat × Fl):(rawO x).length=(words x.2.2.data.toList).length:=by simp [rawO]
theorem rawO_take (x:Nat × Fl) (k:Nat) (h:k<(words x.2.2.data.toList).length):(rawO x).take (k+1)=(rawO x).take k ++ [(termT x.2.1 (words x.2.2.data.toList)[k],x.1+k)]:=by
 rw [List.take_succ_eq_append_getElem (by rw [rawO_len]; exact h)]
 congr 2
 simp [rawO]
theorem pre_len (pre:List Xf):(pre.flatMap (fun y:Xf=>rawO y.1)).length≤pre.length * 4096:=by
 induction pre with
 | nil=>simp
 | cons x pre ih =>
  have h1:=words_len x.1.2.2
  have h2:=x.2.2.2
  rw [List.flatMap_cons,List.length_append,rawO_len,List.length_cons]
  omega
theorem rawO_up (x:Nat × Fl):(rawO x).Pairwise (fun a b=>a.2<b.2)∧∀ a∈rawO x,x.1≤a.2∧a.2<x.1+(words x.2.2.data.toList).length:=by
 refine ⟨?_,fun a ha=>?_⟩
 ·rw [List.pairwise_iff_getElem]
  intro i j hi hj hij
  simp [rawO]
  exact hij
 ·obtain ⟨i,hi,rfl⟩:=List.mem_iff_getElem.1 ha
  simp [rawO] at hi ⊢
  exact hi
theorem raw_up:∀ (fs:List Fl) (b:Nat),((basedL b fs).flatMap rawO).Pairwise (fun x y=>x.2<y.2)∧∀ x∈(basedL b fs).flatMap rawO,b≤x.2
 | [],b=>⟨List.Pairwise.nil,fun x hx=>(nomatch hx)⟩
 | f :: fs,b=>by
  obtain ⟨h1,h2⟩:=raw_up fs (b+(64+(words f.2.data.toList).length))
  obtain ⟨g1,g2⟩:=rawO_up (b,f)
  simp only [basedL,List.flatMap_cons]
  refine ⟨List.pairwise_append.2 ⟨g1,h1,fun x hx y hy=>?_⟩,fun x hx=>?_⟩
  ·have a1:=(g2 x hx).2
   have a2:=h2 y hy
   simp only at a1
   omega
  ·rcases List.mem_append.1 hx with hx | hx
   ·exact (g2 x hx).1
   ·have:=h2 x hx; omega
end Go.Proofs.YtlfpfkallgkjdaaGreat.Ev
end

section
namespace Go.Proofs.YtlfpfkallgkjdaaGreat.Ev
open Go.RowKit Go.Shelf Ut Tk Qy Qp
theorem own_set {w:World} {base k n g c:Nat} {T:TypeId} {xs:List Value} (h:w.ownsRow base T k (.slice (some ⟨g,0,none⟩) n c) n xs) (j:Nat) (hj:j<xs.length) (u:Value):(w.setCell ⟨g,j,none⟩ u).ownsRow base T k (.slice (some ⟨g,0,none⟩) n c) n (xs.set j u):=by
 obtain ⟨h1,h2⟩:=h
 refine ⟨by rw [List.length_set]; exact h1,?_⟩
 rcases h2 with ⟨e,_⟩ | ⟨g',cap,cur,e,hb,hh,hn,hc,hs,ht⟩
 ·cases e
 ·injection e with e1 e2 e3
  injection e1 with e1
  injection e1 with e1
  subst e1 e3
  refine .inr ⟨g,c,cur.setIfInBounds j u,rfl,hb,Go.heap_setCell_same w g j cur T u hh,hn,hc,by simpa using hs,?_⟩
  rw [← ht,Array.toList_setIfInBounds,List.take_set]
theorem own_below {w w':World} {base k n:Nat} {T:TypeId} {v:Value} {xs:List Value} (h:w.ownsRow base T k v n xs) (hb:Below w.heap.size w w'):w'.ownsRow base T k v n xs :=
 h.kept (grow_of_below hb none) (by cases hv:v.ownBlock <;> simp)
def nC (l:List Nat):List Value:=l.map fun n=>.int .i64 (n:Nat)
theorem nC_snoc (l:List Nat) (n:Nat):nC (l ++ [n])=nC l ++ [.int .i64 (n:Nat)]:=by simp [nC]
abbrev Tr:=ByteArray × Value × List Nat
def encO (x:Tr):List Value:=[.string x.1,x.2.1]
theorem encO_len (l:List Tr):(l.flatMap encO).length=l.length * 2:=by
 induction l with
 | nil=>rfl
 | cons x l ih=>rw [List.flatMap_cons,List.length_append,ih,List.length_cons]; simp [encO]; omega
structure MS (w W:World) (n0 n2 g cg:Nat) (m:List El) (i:Nat) (v8:Value) (O:List Tr):Prop where
 bel:Below n0 w W
 n2W:n2≤W.heap.size
 n0n2:n0≤n2
 row:W.ownsRow n0 105 2 (.slice (some ⟨g,0,none⟩) m.length cg) m.length (m.flatMap encE)
 gl:g<n2
 out:W.ownsRow n2 105 2 v8 O.length (O.flatMap encO)
 own:∀ x∈O,W.ownsRow n0 3 1 x.2.1 x.2.2.length (nC x.2.2)∧x.2.2≠[]
 rest:∀ y∈m.drop i,n0≤y.b∧W.heap[y.b]?=some (.cells #[.int .i64 (y.p:Nat)] 3 (0,0))
 apart:O.Pairwise (fun x y=>x.2.1.ownBlock≠y.2.1.ownBlock)
 far:∀ x∈O,∀ y∈m.drop i,x.2.1.ownBlock≠some y.b
 ndb:(m.drop i).Pairwise (fun x y=>x.b≠y.b)
 is:O.map (fun x=>(x.1,x.2.2))=((m.take i).map t1).foldl mrg []
section
variable {w W:World} {n0 n2 g cg:Nat} {m:List El} {i:Nat} {v8:Value} {O:List Tr}
theorem MS.n0W (h:MS w W n0 n2 g cg m i v8 O):n0≤W.heap.size:=Nat.le_trans h.n0n2 h.n2W
theorem MS.below {W':World} (h:MS w W n0 n2 g cg m i v8 O) (hb:Below W.heap.size W W'):MS w W' n0 n2 g cg m i v8 O :=
 ⟨h.bel.trans (hb.mono h.n0W),Nat.le_trans h.n2W hb.size,h.n0n2,own_below h.row hb,h.gl,own_below h.out hb,
  fun x hx=>⟨own_below (h.own x hx).1 hb,(h.own x hx).2⟩,fun y hy=>⟨(h.rest y hy).1,(hb.block _ (Array.getElem?_eq_some_iff.1 (h.rest y hy).2).1).trans (h.rest y hy).2⟩,h.apart,h.far,h.ndb,h.is⟩
theorem own_some {W:World} {base k n:Nat} {T:TypeId} {v:Value} {xs:List Value} (h:W.ownsRow base T k v n xs) (hn : 0<n):∃ b c,v=.slice (some ⟨b,0,none⟩) n c∧v.ownBlock=some b∧base≤b∧Tg W T b:=by
 rcases h.2 with ⟨_,h0⟩ | ⟨b,cap,cur,rfl,hb,hh,_⟩
 ·omega
 ·exact ⟨b,cap,rfl,rfl,hb,cur,_,hh⟩
theorem drop_at2 {α:Type} {l:List α} {i:Nat} (hi:i<l.length):l.drop i=l[i] :: l.drop (i+1):=List.drop_eq_getElem_cons hi
theorem fold_at (m:List El) (i:Nat) (hi:i<m.length):((m.take (i+1)).map t1).foldl mrg []=mrg (((m.take i).map t1).foldl mrg []) (t1 m[i]):=by
 have e:(m.take (i+1)).map t1=(m.take i).map t1 ++ [t1 m[i]]:=by rw [List.take_succ_eq_append_getElem hi,List.map_append]; rfl
 rw [e,List.foldl_append]
 rfl
theorem mrg_len1 (l:List Tm) (x:T1):(mrg l x).length≤l.length+1:=by
 unfold mrg
 cases e:l.getLast? with
 | none=>simp
 | some y =>
  simp only
  split
  ·simp
  ·simp
theorem mrg_len (L:List T1):(L.foldl mrg []).length≤L.length:=by
 have go:∀ (L:List T1) (l:List Tm),(L.foldl mrg l).length≤l.length+L.length:=by
  intro L
  induction L with
  | nil=>intro l; simp
  | cons x L ih =>
   intro l
   have h1:=ih (mrg l x)
   have h2:=mrg_len1 l x
   rw [List.foldl_cons,List.length_cons]
   omega
 have:=go L []
 simpa using this
theorem mrg_pos1 {l:List Tm} {x:T1} {N:Nat} (h:∀ y∈l,y.2.length≤N):∀ y∈mrg l x,y.2.length≤N+1:=by
 intro y hy
 unfold mrg at hy
 cases e:l.getLast? with
 | none =>
  rw [e] at hy
  simp only [List.mem_append,List.mem_singleton] at hy
  rcases hy with hy | rfl
  ·have:=h y hy; omega
  ·simp
 | some z =>
  rw [e] at hy
  have hz:=h z (List.mem_of_getLast? e)
  simp only at hy
  split at hy
  ·rcases List.mem_append.1 hy with hy | hy
   ·have:=h y ((List.dropLast_sublist l).mem hy); omega
   ·rw [List.mem_singleton] at hy
    subst hy
    simp only [List.length_append,List.length_cons,List.length_nil]
    omega
  ·rcases List.mem_append.1 hy with hy | hy
   ·have:=h y hy; omega
   ·rw [List.mem_singleton] at hy
    subst hy
    simp
theorem mrg_pos (L:List T1):∀ y∈L.foldl mrg [],y.2.length≤L.length:=by
 have go:∀ (L:List T1) (l:List Tm) (N:Nat),(∀ y∈l,y.2.length≤N)→∀ y∈L.foldl mrg l,y.2.length≤N+L.length:=by
  intro L
  induction L with
  | nil=>intro l N h y hy; simpa using h y hy
  | cons x L ih =>
   intro l N h y hy
   have:=ih (mrg l x) (N+1) (mrg_pos1 h) y hy
   rw [List.length_cons]
   omega
 intro y hy
 have:=go L [] 0 (fun y hy=>(nomatch hy)) y hy
 omega
theorem MS.more {W3:World} {v8':Value} (h:MS w W n0 n2 g cg m i v8 O) (hi:i<m.length) (hne:∀ y,O.getLast?=some y→y.1≠m[i].s)
  (hg:W.grownBy W3 v8.ownBlock) (hown:W3.ownsRow n2 105 2 v8' (O.length+1) (O.flatMap encO ++ [.string m[i].s,.slice (some ⟨m[i].b,0,none⟩) 1 1])) :
  MS w W3 n0 n2 g cg m (i+1) v8' (O ++ [(m[i].s,.slice (some ⟨m[i].b,0,none⟩) 1 1,[m[i].p])]):=by
 have hv8:∀ b,v8.ownBlock=some b→n2≤b∧Tg W 105 b:=fun b e=>⟨(h.out.lt b e).1,tg_own h.out e⟩
 have hd:=drop_at2 hi
 have hr:=h.rest
 have hf:=h.far
 have hn:=h.ndb
 rw [hd] at hr hf hn
 have keep:∀ b,Tg W 3 b→W3.heap[b]?=W.heap[b]?:=fun b hb=>hg.block b hb.lt (fun e=>by
  have:=(hv8 b e.symm).2.one hb
  exact absurd this (by decide))
 have kint:∀ {base n:Nat} {v:Value} {xs:List Value},W.ownsRow base 3 1 v n xs→W3.ownsRow base 3 1 v n xs:=fun {base n v xs} ho=>ho.kept hg (by
  cases hv:v.ownBlock with
  | none=>exact .inl rfl
  | some b=>exact .inr (fun e=>by
    have:=(hv8 b e.symm).2.one (tg_own ho hv)
    exact absurd this (by decide)))
 have hrest:∀ y∈m.drop i,n0≤y.b∧W3.heap[y.b]?=some (.cells #[.int .i64 (y.p:Nat)] 3 (0,0)):=fun y hy=>⟨(h.rest y hy).1,(keep y.b ⟨_,_,(h.rest y hy).2⟩).trans (h.rest y hy).2⟩
 have h0:=hr m[i] (List.mem_cons_self ..)
 obtain ⟨hn1,hn2⟩:=List.pairwise_cons.1 hn
 refine ⟨h.bel.trans ((Below.refl n0 W).grown hg h.n0W (fun b e=>Nat.le_trans h.n0n2 (hv8 b e).1)),Nat.le_trans h.n2W hg.size,h.n0n2,?_,h.gl,?_,fun x hx=>?_,fun y hy=>?_,?_,fun x hx y hy=>?_,hn2,?_⟩
 ·refine h.row.kept hg (.inr (fun e=>?_))
  have:=(hv8 g e.symm).1
  have:=h.gl
  omega
 ·rw [List.flatMap_append,List.length_append]
  simpa [encO] using hown
 ·rcases List.mem_append.1 hx with hx | hx
  ·exact ⟨kint (h.own x hx).1,(h.own x hx).2⟩
  ·rw [List.mem_singleton] at hx
   subst hx
   refine ⟨⟨rfl,.inr ⟨m[i].b,1,_,rfl,h0.1,(hrest m[i] (by rw [hd]; exact List.mem_cons_self ..)).2,zG _,by unfold maxLen; omega,rfl,rfl⟩⟩,by simp⟩
 ·exact hrest y (by rw [hd]; exact List.mem_cons_of_mem _ hy)
 ·refine List.pairwise_append.2 ⟨h.apart,List.pairwise_singleton _ _,fun x hx y hy=>?_⟩
  rw [List.mem_singleton] at hy
  subst hy
  exact hf x hx m[i] (List.mem_cons_self ..)
 ·rcases List.mem_append.1 hx with hx | hx
  ·exact hf x hx y (List.mem_cons_of_mem _ hy)
  ·rw [List.mem_singleton] at hx
   subst hx
   intro e
   have e2:m[i].b=y.b:=by simpa [Value.ownBlock] using e
   exact hn1 y hy e2
 ·rw [fold_at m i hi,← h.is,List.map_append]
  unfold mrg
  cases e:(List.map (fun x:Tr=>(x.1,x.2.2)) O).getLast? with
  | none=>rfl
  | some y =>
   rw [List.getLast?_map] at e
   obtain ⟨z,hz,rfl⟩:=Option.map_eq_some_iff.1 e
   have:=hne z hz
   have h2:¬ (z.1=(t1 m[i]).1):=this
   simp only [h2,if_false]
   rfl
theorem MS.again {W3:World} {v':Value} {O':List Tr} {x:Tr} {gv cv:Nat} (h:MS w W n0 n2 g cg m i (.slice (some ⟨gv,0,none⟩) (O' ++ [x]).length cv) (O' ++ [x])) (hi:i<m.length) (he:x.1=m[i].s)
  (hg:W.grownBy W3 x.2.1.ownBlock) (hown:W3.ownsRow n0 3 1 v' (x.2.2.length+1) (nC x.2.2 ++ [.int .i64 (m[i].p:Nat)])) (hat:v'.ownBlock=x.2.1.ownBlock∨v'.ownBlock=some W.heap.size) :
  MS w (W3.setCell ⟨gv,O'.length * 2+1,none⟩ v') n0 n2 g cg m (i+1) (.slice (some ⟨gv,0,none⟩) (O' ++ [(x.1,v',x.2.2 ++ [m[i].p])]).length cv) (O' ++ [(x.1,v',x.2.2 ++ [m[i].p])]):=by
 have hx:=h.own x (by simp)
 obtain ⟨xb,xc,hxv,hxo,hxb,hxt⟩:=own_some hx.1 (List.length_pos_iff.2 hx.2)
 rw [hxo] at hg hat
 have hd:=drop_at2 hi
 have hr:=h.rest
 have hf:=h.far
 have hn:=h.ndb
 rw [hd] at hr hf hn
 obtain ⟨hn1,hn2⟩:=List.pairwise_cons.1 hn
 have hap:=List.pairwise_append.1 h.apart
 have hgv:Tg W 105 gv:=tg_own h.out rfl
 have hgv2:n2≤gv:=(h.out.lt gv rfl).1
 have kterm:∀ {base k n:Nat} {v:Value} {xs:List Value},W.ownsRow base 105 k v n xs→W3.ownsRow base 105 k v n xs:=fun {base k n v xs} ho=>ho.kept hg (by
  cases hv:v.ownBlock with
  | none=>exact .inl rfl
  | some b=>exact .inr (fun e=>by
    injection e with e
    subst e
    have:=(tg_own ho hv).one hxt
    exact absurd this (by decide)))
 have gs:=grownBy_setC W3 gv (O'.length * 2+1) v'
 have hout3:=kterm h.out
 have hgv3:Tg W3 105 gv:=tg_own hout3 rfl
 have kint:∀ {base k n:Nat} {v:Value} {xs:List Value},W3.ownsRow base 3 k v n xs→(W3.setCell ⟨gv,O'.length * 2+1,none⟩ v').ownsRow base 3 k v n xs:=fun {base k n v xs} ho=>ho.kept gs (by
  cases hv:v.ownBlock with
  | none=>exact .inl rfl
  | some b=>exact .inr (fun e=>by
    injection e with e
    subst e
    have:=(tg_own ho hv).one hgv3
    exact absurd this (by decide)))
 have keep:∀ b,b<W.heap.size→b≠xb→Tg W 3 b→(W3.setCell ⟨gv,O'.length * 2+1,none⟩ v').heap[b]?=W.heap[b]?:=fun b hb hne ht=>by
  have e1:W3.heap[b]?=W.heap[b]?:=hg.block b hb (fun e=>hne (by injection e))
  refine (gs.block b (by have:=hg.size; omega) (fun e=>?_)).trans e1
  injection e with e
  subst e
  exact absurd (ht.one hgv) (by decide)
 have hset:=own_set hout3 (O'.length * 2+1) (by rw [encO_len,List.length_append]; simp; omega) v'
 have hcells:((O' ++ [x]).flatMap encO).set (O'.length * 2+1) v'=(O' ++ [(x.1,v',x.2.2 ++ [m[i].p])]).flatMap encO:=by
  rw [List.flatMap_append,List.flatMap_append,List.set_append_right _ _ (by rw [encO_len]; omega),encO_len]
  have:O'.length * 2+1 - O'.length * 2=1:=by omega
  rw [this]
  rfl
 rw [hcells] at hset
 have hlen:(O' ++ [x]).length=(O' ++ [(x.1,v',x.2.2 ++ [m[i].p])]).length:=by simp
 rw [hlen] at hset
 have hnew:∀ b,v'.ownBlock=some b→b=xb∨b=W.heap.size:=fun b e=>by
  rcases hat with a | a <;> rw [e] at a <;> injection a with a
  ·exact .inl a
  ·exact .inr a
 obtain ⟨nb,nc,hnv,hno,hnb,hnt⟩:=own_some hown (Nat.succ_pos _)
 refine ⟨?_,?_,h.n0n2,?_,h.gl,hset,fun z hz=>?_,fun y hy=>?_,?_,fun z hz y hy=>?_,hn2,?_⟩
 ·refine (h.bel.trans ((Below.refl n0 W).grown hg h.n0W (fun b e=>?_))).setCell (p:=⟨gv,O'.length * 2+1,none⟩) (Nat.le_trans h.n0n2 hgv2) v'
  injection e with e
  omega
 ·have:=hg.size; have:=gs.size; have:=h.n2W; omega
 ·refine (kterm h.row).kept gs (.inr (fun e=>?_))
  have e2:g=gv:=by simpa [Value.ownBlock] using e
  have:=h.gl
  omega
 ·rcases List.mem_append.1 hz with hz | hz
  ·have ho:=h.own z (List.mem_append.2 (.inl hz))
   refine ⟨kint (ho.1.kept hg ?_),ho.2⟩
   refine .inr (fun e=>?_)
   have:=hap.2.2 z hz x (by simp)
   rw [hxo] at this
   exact this e
  ·rw [List.mem_singleton] at hz
   subst hz
   refine ⟨kint ?_,by simp⟩
   rw [nC_snoc,List.length_append]
   exact hown
 ·have hy2:=hr y (List.mem_cons_of_mem _ hy)
  refine ⟨hy2.1,(keep y.b (Array.getElem?_eq_some_iff.1 hy2.2).1 (fun e=>?_) ⟨_,_,hy2.2⟩).trans hy2.2⟩
  have:=hf x (by simp) y (List.mem_cons_of_mem _ hy)
  rw [hxo] at this
  exact this (by rw [e])
 ·refine List.pairwise_append.2 ⟨hap.1,List.pairwise_singleton _ _,fun z hz y hy=>?_⟩
  rw [List.mem_singleton] at hy
  subst hy
  show z.2.1.ownBlock≠v'.ownBlock
  intro e
  rcases hnew nb hno with e2 | e2
  ·have:=hap.2.2 z hz x (by simp)
   rw [hxo,← e2,← hno] at this
   exact this e
  ·have:=((h.own z (List.mem_append.2 (.inl hz))).1.lt nb (e.trans hno)).2
   omega
 ·rcases List.mem_append.1 hz with hz | hz
  ·exact hf z (List.mem_append.2 (.inl hz)) y (List.mem_cons_of_mem _ hy)
  ·rw [List.mem_singleton] at hz
   subst hz
   show v'.ownBlock≠some y.b
   intro e
   have hy2:=hr y (List.mem_cons_of_mem _ hy)
   rcases hnew y.b e with e2 | e2
   ·have:=hf x (by simp) y (List.mem_cons_of_mem _ hy)
    rw [hxo] at this
    exact this (by rw [e2])
   ·have:=(Array.getElem?_eq_some_iff.1 hy2.2).1
    omega
 ·rw [fold_at m i hi,← h.is]
  unfold mrg
  rw [List.map_append,List.map_append]
  simp only [List.map_cons,List.map_nil,List.getLast?_append,List.getLast?_singleton,Option.some_or,List.dropLast_concat]
  have h2:x.1=(t1 m[i]).1:=he
  simp only [h2,if_true]
  rfl
end
end Go.Proofs.YtlfpfkallgkjdaaGreat.Ev
end
