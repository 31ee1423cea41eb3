/- Words for memory: what a call may touch, kinds of blocks, docs. -/
import Derived.Outline
import Derived.Shelf.GgSortFunc.RowK
import Derived.Sort.OwnSorted
import Derived.Shelf.SlSortCmp.HeapSortK
import Derived.Deep.RegionHeld3
import Derived.Deep.RegionLaw
import Derived.Test.YtlfpfkallgkjdaaGreatQAlertBatchesRow11
import Derived.Test.YtlfpfkallgkjdaaGreatQAlertBatchesRow21
import Derived.Test.YtlfpfkallgkjdaaGreatQAlertBatchesRow1
import Derived.Test.YtlfpfkallgkjdaaGreatQAlertBatchesRow2
import Derived.Test.YtlfpfkallgkjdaaGreatQAlertBatchesRow10
import Derived.Test.YtlfpfkallgkjdaaGreatQAlertBatchesRow0
set_option linter.unusedSectionVars false
set_option linter.unusedSimpArgs false
set_option linter.unusedVariables false
set_option maxRecDepth 20000
section
namespace Go.Proofs.YtlfpfkallgkjdaaGreat.Ev
open Go.RowKit Ut Tk Qy Qp
structure Chg (O:Nat→Prop) (w w':World):Prop where
 os:w'.os=w.os
 tape:w'.tape=w.tape
 output:w'.output=w.output
 size:w.heap.size≤w'.heap.size
 block:∀ k,k<w.heap.size→¬ O k→w'.heap[k]?=w.heap[k]?
theorem Chg.refl (O:Nat→Prop) (w:World):Chg O w w:=⟨rfl,rfl,rfl,zG _,fun _ _ _=>rfl⟩
theorem Chg.trans {O O':Nat→Prop} {a b c:World} (h:Chg O a b) (k:Chg O' b c) (hO:∀ x,O' x→O x∨a.heap.size≤x):Chg O a c :=
 ⟨k.os.trans h.os,k.tape.trans h.tape,k.output.trans h.output,Nat.le_trans h.size k.size,fun i hi hn=>(k.block i (Nat.lt_of_lt_of_le hi h.size) (fun hk=>by
  rcases hO i hk with g | g
  ·exact hn g
  ·omega)).trans (h.block i hi hn)⟩
theorem Chg.mono {O O':Nat→Prop} {a b:World} (h:Chg O a b) (hO:∀ x,x<a.heap.size→O x→O' x):Chg O' a b:=⟨h.os,h.tape,h.output,h.size,fun k hk hn=>h.block k hk (fun ho=>hn (hO k hk ho))⟩
theorem Chg.of_below {O:Nat→Prop} {B:Nat} {a b:World} (h:Below B a b) (hO:∀ k,B≤k→k<a.heap.size→O k):Chg O a b:=⟨h.os,h.tape,h.output,h.size,fun k hk hn=>h.block k (Nat.lt_of_not_le (fun hB=>hn (hO k hB hk)))⟩
theorem Chg.of_new {O:Nat→Prop} {a b:World} (h:Below a.heap.size a b):Chg O a b:=Chg.of_below h (fun k h1 h2=>by omega)
theorem Chg.of_grown {O:Nat→Prop} {a b:World} {row:Option Nat} (h:a.grownBy b row) (hO:∀ k,row=some k→O k):Chg O a b:=⟨h.os,h.tape,h.output,h.size,fun k hk hn=>h.block k hk (fun e=>hn (hO k e.symm))⟩
theorem Chg.below {O:Nat→Prop} {B:Nat} {a b:World} (h:Chg O a b) (hB:B≤a.heap.size) (hO:∀ k,O k→B≤k):Below B a b:=⟨h.os,h.tape,h.output,h.size,fun k hk=>h.block k (Nat.lt_of_lt_of_le hk hB) (fun ho=>by have:=hO k ho; omega)⟩
theorem Chg.then_new {O:Nat→Prop} {a b c:World} (h:Chg O a b) (k:Below b.heap.size b c):Chg O a c:=h.trans (O':=fun _=>False) (Chg.of_new k) (fun x hx=>hx.elim)
theorem Chg.alloc {O:Nat→Prop} {a b:World} (h:Chg O a b) (o:Obj):Chg O a (b.alloc o):=h.then_new ((Below.refl _ _).alloc (zG _) _)
theorem Chg.cell {O:Nat→Prop} {a b:World} (h:Chg O a b) {p:Addr} (hp:p.block<a.heap.size) (hn:¬ O p.block):b.cell? p=a.cell? p:=World.cell?_of_block (h.block _ hp hn)
def Tg (w:World) (T:TypeId) (b:Nat):Prop:=∃ cs fr,w.heap[b]?=some (.cells cs T fr)
theorem Tg.lt {w:World} {T:TypeId} {b:Nat} (h:Tg w T b):b<w.heap.size:=by
 obtain ⟨cs,fr,h⟩:=h
 exact (Array.getElem?_eq_some_iff.1 h).1
theorem Tg.one {w:World} {T T':TypeId} {b:Nat} (h:Tg w T b) (h':Tg w T' b):T=T':=by
 obtain ⟨cs,fr,h⟩:=h
 obtain ⟨cs',fr',h'⟩:=h'
 rw [h] at h'
 injection h' with h'
 injection h'
theorem Tg.same {w w':World} {T:TypeId} {b:Nat} (h:Tg w T b) (e:w'.heap[b]?=w.heap[b]?):Tg w' T b:=by
 obtain ⟨cs,fr,h⟩:=h
 exact ⟨cs,fr,e.trans h⟩
theorem Tg.new {w w':World} {T:TypeId} {b:Nat} (h:Tg w T b) (hb:Below w.heap.size w w'):Tg w' T b:=h.same (hb.block b h.lt)
theorem tg_own {w:World} {base k n g:Nat} {T:TypeId} {v:Value} {xs:List Value} (h:w.ownsRow base T k v n xs) (hv:v.ownBlock=some g):Tg w T g:=by
 rcases h.2 with ⟨rfl,_⟩ | ⟨g',cap,cur,rfl,_,h2,_⟩
 ·cases hv
 ·injection hv with hv
  subst hv
  exact ⟨cur,_,h2⟩
theorem cell_same {w w':World} {b:Nat} (e:w'.heap[b]?=w.heap[b]?) (o:Nat):w'.cell? ⟨b,o,none⟩=w.cell? ⟨b,o,none⟩:=World.cell?_of_block e
theorem _root_.Go.Proofs.YtlfpfkallgkjdaaGreat.Qp.ReadsS.same {w w':World} {S S':Nat→Prop} {k n:Nat} {A:Option Addr} {xs:List Value} (h:ReadsS w S k A n xs) (hS:∀ b,S b→S' b∧w'.heap[b]?=w.heap[b]?):ReadsS w' S' k A n xs :=
 (h.keep (fun b o hb=>cell_same (hS b hb).2 o)).mono (fun b hb=>(hS b hb).1)
theorem reads_s {w:World} {B k n:Nat} {A:Option Addr} {xs:List Value} (h:Reads w B k A n xs):ReadsS w (fun b=>b<B) k A n xs:=h
structure DcS (w:World) (S:Nat→Prop) (d:Dc) (v:List Value):Prop where
 ex:∃ F fn fc,v=[.int .i64 d.seq,.int .i64 d.at_,.slice F fn fc]∧ReadsS w S 2 F fn (fldC d.fs)∧d.fs.length=fn∧fn≤8796093021952∧fn≤fc∧(F=none→fc=0)
theorem DcS.len {w:World} {S:Nat→Prop} {d:Dc} {v:List Value} (h:DcS w S d v):v.length=3:=by obtain ⟨F,fn,fc,rfl,_⟩:=h.ex; rfl
theorem DcS.same {w w':World} {S S':Nat→Prop} {d:Dc} {v:List Value} (h:DcS w S d v) (hS:∀ b,S b→S' b∧w'.heap[b]?=w.heap[b]?):DcS w' S' d v:=by
 obtain ⟨F,fn,fc,e,h1,h2⟩:=h.ex
 exact ⟨F,fn,fc,e,h1.same hS,h2⟩
structure DocsS (w:World) (R S:Nat→Prop) (A:Option Addr) (n:Nat) (ds:List Dc):Prop where
 ln:ds.length=n
 ex:∃ vss:List (List Value),vss.length=n∧ReadsS w R 3 A n vss.flatten∧∀ i (h:i<ds.length) (h':i<vss.length),DcS w S ds[i] vss[i]
theorem DocsS.same {w w':World} {R R' S S':Nat→Prop} {A:Option Addr} {n:Nat} {ds:List Dc} (h:DocsS w R S A n ds) (hR:∀ b,R b→R' b∧w'.heap[b]?=w.heap[b]?) (hS:∀ b,S b→S' b∧w'.heap[b]?=w.heap[b]?):DocsS w' R' S' A n ds:=by
 obtain ⟨vss,h1,h2,h3⟩:=h.ex
 exact ⟨h.ln,vss,h1,h2.same hR,fun i a b=>(h3 i a b).same hS⟩
theorem DocsS.nil {w:World} {R S:Nat→Prop} {A:Option Addr}:DocsS w R S A 0 []:=⟨rfl,[],rfl,ReadsS.none_,fun i h=>absurd h (by simp)⟩
theorem DocsS.at_ {w:World} {R S:Nat→Prop} {A:Option Addr} {n:Nat} {ds:List Dc} (h:DocsS w R S A n ds) {i:Nat} (hi:i<ds.length) :
  ∃ b o F fn fc,A=some ⟨b,o,none⟩∧R b∧w.cell? ⟨b,o+i * 3,none⟩=some (.int .i64 ds[i].seq)∧w.cell? ⟨b,o+i * 3+1,none⟩=some (.int .i64 ds[i].at_)∧w.cell? ⟨b,o+i * 3+2,none⟩=some (.slice F fn fc) ∧
   ReadsS w S 2 F fn (fldC ds[i].fs)∧ds[i].fs.length=fn∧fn≤8796093021952∧fn≤fc∧(F=none→fc=0):=by
 obtain ⟨vss,h1,h2,h3⟩:=h.ex
 have hl:=h.ln
 have hi':i<vss.length:=by omega
 have h4:∀ v∈vss,v.length=3:=fun v hv=>by
  obtain ⟨j,hj,rfl⟩:=List.mem_iff_getElem.1 hv
  exact (h3 j (by omega) hj).len
 obtain ⟨F,fn,fc,e,g1,g2,g3,g4⟩:=(h3 i hi hi').ex
 obtain ⟨b,o,eA,hb,hc⟩:=h2.2 (by omega)
 have f0:=flat_get h4 i 0 hi' (by omega)
 have f1:=flat_get h4 i 1 hi' (by omega)
 have f2:=flat_get h4 i 2 hi' (by omega)
 rw [e] at f0 f1 f2
 have c0:=hc _ _ f0
 have c1:=hc _ _ f1
 have c2:=hc _ _ f2
 rw [← Nat.add_assoc] at c1 c2
 exact ⟨b,o,F,fn,fc,eA,hb,c0,c1,c2,g1,g2,g3,g4⟩
theorem doc_info:(Tryz.prog.info? 132).map (fun i=>(i.zero,i.size,i.bytes))=some (some (.agg #[.int .i64 0,.int .i64 0,.slice none 0 0]),3,40):=by kernel_rfl
theorem fld_info:(Tryz.prog.info? 99).map (fun i=>(i.zero,i.size,i.bytes))=some (some (.agg #[.string ByteArray.empty,.string ByteArray.empty]),2,32):=by kernel_rfl
theorem own_succ {w:World} {base:Nat} {e:TypeId} {size n:Nat} {v:Value} {xs:List Value} (h:w.ownsRow base e size v (n+1) xs):∃ g q,v=.slice (some ⟨g,0,none⟩) (n+1) q:=by
 rcases h.2 with ⟨_,h0⟩ | ⟨g,cap,cur,hv,_⟩
 ·omega
 ·exact ⟨g,cap,hv⟩
theorem grownBy_setC (w:World) (h o:Nat) (u:Value):w.grownBy (w.setCell ⟨h,o,none⟩ u) (some h) :=
 ⟨rfl,rfl,rfl,by simp [World.setCell],fun k _ hne=>Below.heap_setCell _ _ _ _ (fun e=>hne (by rw [e]))⟩
theorem own_shape2 {w:World} {base:Nat} {e:TypeId} {size n:Nat} {v:Value} {xs:List Value} (h:w.ownsRow base e size v n xs) :
  ∃ A c,v=.slice A n c∧Reads w w.heap.size size A n xs∧n≤c∧(A=none→c=0)∧(0<n→∃ g,A=some ⟨g,0,none⟩∧∃ cur,w.heap[g]?=some (.cells cur e (0,0))):=by
 obtain ⟨A,c,rfl,hR⟩:=own_shape h
 refine ⟨A,c,rfl,hR,?_⟩
 rcases h.2 with ⟨hv,h0⟩ | ⟨g,cap,cur,hv,_,hg,hnc,_⟩
 ·injection hv with _ _ hc
  exact ⟨by omega,fun _=>hc,fun h=>by omega⟩
 ·injection hv with hA _ hc
  exact ⟨by omega,fun e=>(by rw [hA] at e; cases e),fun _=>⟨g,hA,cur,hg⟩⟩
theorem fldC_one (fs:List (ByteArray × ByteArray)):∀ u∈fldC fs,u.oneCell'=true:=by
 intro u hu
 unfold fldC at hu
 obtain ⟨f,_,hf⟩:=List.mem_flatMap.1 hu
 simp at hf
 rcases hf with rfl | rfl <;> rfl
def FldPost (w:World) (fs:List (ByteArray × ByteArray)) (e:Ending) (w':World):Prop:=∃ v,e=.returned v∧w'.ownsRow w.heap.size 99 2 v fs.length (fldC fs)∧Below w.heap.size w w'
set_option maxHeartbeats 800000 in
theorem cloneF_any (F:Option Addr) (fn fc:Nat) (fs:List (ByteArray × ByteArray)) (w:World) (hF:Reads w w.heap.size 2 F fn (fldC fs)) (hl:fs.length=fn) (hn:fn≤1048576) (hnil:F=none→fc=0) :
  Calls Tryz.prog 96 #[.slice F fn fc] w (FldPost w fs):=by
 obtain ⟨i0,hi0,hz0,hz1,hz2⟩:=info_parts fld_info
 by_cases h0:F=none
 ·subst h0
  obtain rfl:fc=0:=hnil rfl
  have hfn:fn=0:=by
   by_cases h : 0<fn
   ·obtain ⟨b,o,e,_⟩:=hF.2 h
    cases e
   ·omega
  subst hfn
  have hfs:fs=[]:=List.length_eq_zero_iff.1 hl
  subst hfs
  have hnl:=fun W:World=>Lib.run_eql_slice_nil (P:=Tryz.prog) W _ _ none 0 0 0 0 Tryz.underlying31
  clear hF hl hn hnil
  go_enter Tryz.func96,Tryz.ntmps96
  go_wp2
  go_ret
  exact ⟨_,rfl,World.ownsRow_nil _ _ _ _,Below.refl _ _⟩
 ·obtain ⟨a,rfl⟩:=Option.ne_none_iff_exists'.1 h0
  have hnl:=fun W:World=>Lib.run_eql_slice_nil (P:=Tryz.prog) W _ _ (some a) fn fc 0 0 Tryz.underlying31
  have HF:=zh hF
  have Hl:=zh hl
  clear hF hl h0 hnil
  go_enter Tryz.func96,Tryz.ntmps96
  go_wp2_with (at_builtin; refine wpList_append_own _ rfl _ _ 31 rfl w.heap.size 99 i0 _ 2 32 Tryz.underlying31 hi0 hz0 hz1 hz2 rfl (by decide) (.slice (some ⟨w.heap.size,0,none⟩) 0 0) 0 [] rfl ?hown a fn fc (fldC fs) rfl ?hl ?c1 ?c2 ?c3 ?c4 ?c5 ?_)
  case hown =>
   have h:=World.ownsRow_made (base:=w.heap.size) (e:=99) (size:=2) w #[] 0 (by simp) (by unfold maxLen; omega) rfl
   simpa using h
  case hl=>rw [fldC_len,Hl.out]
  case c1 =>
   intro j u hj
   have hjl:j<fn * 2:=by
    have:=(List.getElem?_eq_some_iff.1 hj).1
    rw [fldC_len,Hl.out] at this
    exact this
   obtain ⟨b,o,e,hb,hc⟩:=HF.out.2 (by omega)
   injection e with e
   subst e
   have hadd:(⟨b,o,none⟩:Addr).add j=⟨b,o+j,none⟩:=by unfold Addr.add; split <;> simp_all
   rw [hadd]
   have hp:=hc j u hj
   first
    | exact hp
    | exact (((Below.refl _ _).alloc (zG _) _:Below w.heap.size w _).cell (p:=⟨b,o+j,none⟩) hb).trans hp
  case c2=>exact fldC_one fs
  case c3=>unfold maxLen; omega
  case c4=>omega
  case c5=>simp
  intro v' w2 hown hgrow _
  have hbx:Below w.heap.size w w2:=((Below.refl _ _).alloc (zG _) _:Below w.heap.size w _).grown hgrow (by simp) (fun j hj=>by
   injection hj with hj
   have hj':w.heap.size=j:=hj
   omega)
  obtain ⟨A',c',rfl,_⟩:=own_shape hown
  have Hown:=zh hown
  have Hbx:=zh hbx
  clear hown hgrow hbx
  go_wp2
  go_ret
  exact ⟨_,rfl,by rw [Hl.out]; simpa using Hown.out,Hbx.out⟩
abbrev Fd (w:World) (base:Nat) (b:Nat):Prop:=base≤b∧Tg w 99 b
structure DOwn (w:World) (base:Nat) (v:Value) (ds:List Dc):Prop where
 ex:∃ vss:List (List Value),vss.length=ds.length∧w.ownsRow base 132 3 v ds.length vss.flatten∧∀ i (h:i<ds.length) (h':i<vss.length),DcS w (Fd w base) ds[i] vss[i]
theorem DOwn.start (w:World) (base:Nat):DOwn w base (.slice none 0 0) []:=⟨[],rfl,World.ownsRow_nil _ _ _ _,fun i h=>absurd h (by simp)⟩
theorem DOwn.below {w w':World} {base:Nat} {v:Value} {ds:List Dc} (h:DOwn w base v ds) (hb:Below w.heap.size w w'):DOwn w' base v ds:=by
 obtain ⟨vss,h1,h2,h3⟩:=h.ex
 refine ⟨vss,h1,h2.kept (grow_of_below hb none) (by cases hv:v.ownBlock <;> simp),fun i a b=>(h3 i a b).same (fun b hS=>⟨⟨hS.1,hS.2.new hb⟩,hb.block b hS.2.lt⟩)⟩
theorem DOwn.put {w w5:World} {base:Nat} {v v':Value} {ds:List Dc} {d:Dc} {u:List Value} {xs:List Value} (hx:∃ vss:List (List Value),vss.length=ds.length∧w.ownsRow base 132 3 v ds.length vss.flatten∧(∀ i (h:i<ds.length) (h':i<vss.length),DcS w (Fd w base) ds[i] vss[i])∧xs=vss.flatten)
  (hp:w5.ownsRow base 132 3 v' (ds.length+1) (xs ++ u)) (hg:w.grownBy w5 v.ownBlock) (hd:DcS w (Fd w base) d u):DOwn w5 base v' (ds ++ [d]):=by
 obtain ⟨vss,h1,h2,h3,rfl⟩:=hx
 have keep:∀ b,Fd w base b→Fd w5 base b∧w5.heap[b]?=w.heap[b]?:=fun b hS=>by
  have e:w5.heap[b]?=w.heap[b]?:=hg.block b hS.2.lt (fun e=>by
   have:=(tg_own h2 e.symm).one hS.2
   exact absurd this (by decide))
  exact ⟨⟨hS.1,hS.2.same e⟩,e⟩
 refine ⟨vss ++ [u],by simp [h1],?_,fun i a b=>?_⟩
 ·rw [List.flatten_append,List.length_append]
  simpa using hp
 ·by_cases hi:i<ds.length
  ·rw [List.getElem_append_left hi,List.getElem_append_left (by omega)]
   exact (h3 i hi (by omega)).same keep
  ·have hi':i=ds.length:=by simp at a; omega
   subst hi'
   rw [List.getElem_append_right (by omega),List.getElem_append_right (by omega)]
   simp only [Nat.sub_self,h1,List.getElem_cons_zero]
   exact hd.same keep
theorem own_mono {w:World} {base base' k n:Nat} {T:TypeId} {v:Value} {xs:List Value} (h:w.ownsRow base T k v n xs) (hb:base'≤base):w.ownsRow base' T k v n xs :=
 ⟨h.1,h.2.elim .inl (fun ⟨g,cap,cur,hv,hg,r⟩=>.inr ⟨g,cap,cur,hv,Nat.le_trans hb hg,r⟩)⟩
theorem DcS.mono {w:World} {S S':Nat→Prop} {d:Dc} {v:List Value} (h:DcS w S d v) (hS:∀ b,S b→S' b):DcS w S' d v:=h.same (fun b hb=>⟨hS b hb,rfl⟩)
theorem DOwn.mono {w:World} {base base':Nat} {v:Value} {ds:List Dc} (h:DOwn w base v ds) (hb:base'≤base):DOwn w base' v ds:=by
 obtain ⟨vss,h1,h2,h3⟩:=h.ex
 exact ⟨vss,h1,own_mono h2 hb,fun i a b=>(h3 i a b).mono (fun b hS=>⟨Nat.le_trans hb hS.1,hS.2⟩)⟩
theorem DOwn.read {w:World} {base:Nat} {v:Value} {ds:List Dc} (h:DOwn w base v ds):∃ A c,v=.slice A ds.length c∧DocsS w (fun b=>base≤b∧b<w.heap.size) (Fd w base) A ds.length ds∧ds.length≤c∧(A=none→c=0):=by
 obtain ⟨vss,h1,h2,h3⟩:=h.ex
 obtain ⟨A,c,rfl,_,hc,hn,_⟩:=own_shape2 h2
 exact ⟨A,c,rfl,⟨rfl,vss,h1,(ReadsS.of_own h2).mono (fun b hb=>⟨hb.1,hb.2.1⟩),fun i a b=>h3 i a b⟩,hc,hn⟩
def mkD (seq:Int) (l:List Evn):List Dc:=l.mapIdx fun i e=>⟨seq+i,e.1,e.2⟩
theorem mkD_len (seq:Int) (l:List Evn):(mkD seq l).length=l.length:=by simp [mkD]
theorem mkD_snoc (seq:Int) (l:List Evn) (e:Evn):mkD seq (l ++ [e])=mkD seq l ++ [⟨seq+l.length,e.1,e.2⟩]:=by simp [mkD,List.mapIdx_append]
theorem mkD_take (seq:Int) (l:List Evn) (k:Nat) (h:k<l.length):mkD seq (l.take (k+1))=mkD seq (l.take k) ++ [⟨seq+(k:Nat),l[k].1,l[k].2⟩]:=by
 rw [List.take_succ_eq_append_getElem h,mkD_snoc]
 congr 4
 rw [List.length_take]; omega
end Go.Proofs.YtlfpfkallgkjdaaGreat.Ev
end

section
namespace Go.Proofs.YtlfpfkallgkjdaaGreat.Ss
open Go.RowKit Go.Sort Go.Shelf Go.Lib
variable {α:Type} [Inhabited α] {enc : α→List Value} {k:Nat}
theorem encs_len (hk:∀ x,(enc x).length=k) (l:List α):(l.flatMap enc).length=l.length * k:=by
 induction l with
 | nil=>simp
 | cons x l ih=>rw [List.flatMap_cons,List.length_append,hk,ih,List.length_cons,Nat.add_mul,Nat.one_mul,Nat.add_comm]
theorem encs_get (hk:∀ x,(enc x).length=k) (l:List α) (i j:Nat) (hi:i<l.length) (hj:j<k):(l.flatMap enc)[i * k+j]?=(enc l[i])[j]?:=by
 have:=Qy.flat_get (k:=k) (vss:=l.map enc) (fun v hv=>by obtain ⟨x,_,rfl⟩:=List.mem_map.1 hv; exact hk x) i j (by simpa using hi) hj
 rw [List.getElem_map] at this
 rw [List.flatMap_def]
 exact this
theorem flat_enc (hk:∀ x,(enc x).length=k) (h0 : 0<k) (l:List α):flatK enc k l.toArray=(l.flatMap enc).toArray:=by
 apply Array.ext
 ·simp only [size_flatK,List.size_toArray,encs_len hk]
 ·intro i h1 h2
  rw [size_flatK] at h1
  have hs:l.toArray.size=l.length:=by simp
  rw [hs] at h1
  have hi:i / k<l.length:=Nat.div_lt_of_lt_mul (by rw [Nat.mul_comm]; exact h1)
  have e1:(flatK enc k l.toArray)[i]! = (enc l.toArray[i / k]!)[i % k]!:=get_flatK enc k l.toArray i (by rw [hs]; exact h1)
  rw [getElem!_pos _ i (by rw [size_flatK,hs]; exact h1)] at e1
  have e2:l.toArray[i / k]! = l[i / k]:=by rw [getElem!_pos _ _ (by simpa using hi)]; simp
  have hm:i % k<k:=Nat.mod_lt _ h0
  have g:=encs_get hk l (i / k) (i % k) hi hm
  have ei:i / k * k+i % k=i:=by rw [Nat.mul_comm]; exact Nat.div_add_mod i k
  rw [ei] at g
  rw [e1,e2]
  have h3:i<(l.flatMap enc).length:=by rw [encs_len hk]; exact h1
  rw [List.getElem?_eq_getElem h3,List.getElem?_eq_getElem (by rw [hk]; exact hm)] at g
  injection g with g
  rw [getElem!_pos _ _ (by rw [hk]; exact hm),← g]
  simp
theorem holdsE (hk:∀ x,(enc x).length=k) (h0 : 0<k) {w:World} {g:Nat} {cur:Array Value} {e:TypeId} {l:List α} (hb:w.heap[g]?=some (.cells cur e (0,0))) (ht:cur.toList.take (l.length * k)=l.flatMap enc):HoldsK enc k w g 0 l.toArray:=by
 unfold HoldsK
 rw [flat_enc hk h0]
 intro j hj
 have hj':j<(l.flatMap enc).length:=by simpa using hj
 have hj2:j<l.length * k:=by rw [encs_len hk] at hj'; exact hj'
 refine ⟨?_,by simp [World.frozen?,hb]⟩
 have h1:(cur.toList.take (l.length * k))[j]?=(l.flatMap enc)[j]?:=by rw [ht]
 rw [List.getElem?_take_of_lt hj2] at h1
 simp only [World.cell?,hb,Nat.zero_add]
 simp only [Option.isSome_none,Bool.false_eq_true,if_false]
 rw [← Array.getElem?_toList,h1]
 simp [hj',List.getElem?_eq_getElem hj']
theorem heapE {w:World} {g n:Nat} {os:Array Obj} {cur:Array Value} {e:TypeId} {fr:Nat × Nat} (d:Array Value) (hb:w.heap[g]?=some (.cells cur e fr)) :
  (grow (putRow id (Sort.ahead w n) g 0 d) os).heap[g]?=some (.cells (putCells id 0 d cur) e fr):=by
 have hg:g<w.heap.size:=(Array.getElem?_eq_some_iff.1 hb).1
 rw [heap_grow_old _ _ (by simpa using hg)]
 simp [putRow,mapBlock,Sort.ahead,Array.getElem?_modify,hb,onCells]
theorem grownE {w:World} {g n:Nat} {os:Array Obj} (d:Array α):w.grownBy (sortWorldK enc k w g 0 n d os) (some g):=by
 unfold sortWorldK putRowK
 refine ⟨rfl,rfl,rfl,by simp,fun j hj hne=>?_⟩
 rw [heap_grow_old _ _ (by simpa using hj)]
 have:g≠j:=fun e=>hne (by rw [e])
 simp [putRow,mapBlock,Sort.ahead,Array.getElem?_modify,this]
theorem takeE (cur:Array Value) (F:List Value) (h:F.length≤cur.size):(putCells id 0 F.toArray cur).toList.take F.length=F:=by
 apply List.ext_getElem?
 intro j
 by_cases hj:j<F.length
 ·rw [List.getElem?_take_of_lt hj,Array.getElem?_toList]
  simp [putCells,hj,show j<cur.size by omega]
 ·rw [List.getElem?_take_eq_none (by omega),List.getElem?_eq_none (by omega)]
theorem ownE (hk:∀ x,(enc x).length=k) (h0 : 0<k) {w:World} {base g cap n:Nat} {e:TypeId} {os:Array Obj} {cur:Array Value} {l m:List α} (hl:m.length=l.length) (hbase:base≤g) (hb:w.heap[g]?=some (.cells cur e (0,0)))
  (h1:l.length≤cap) (h2:cap≤maxLen) (h3:cur.size=cap * k) :
  (sortWorldK enc k w g 0 n m.toArray os).ownsRow base e k (.slice (some ⟨g,0,none⟩) m.length cap) m.length (m.flatMap enc):=by
 unfold sortWorldK putRowK
 rw [flat_enc hk h0]
 refine ⟨encs_len hk m,.inr ⟨g,cap,_,rfl,hbase,heapE _ hb,by omega,h2,by simp [putCells,h3],?_⟩⟩
 rw [← encs_len hk m]
 exact takeE cur (m.flatMap enc) (by rw [encs_len hk,h3]; exact Nat.mul_le_mul_right k (by omega))
end Go.Proofs.YtlfpfkallgkjdaaGreat.Ss
end

section
namespace Go.Proofs.YtlfpfkallgkjdaaGreat.Ev
open Go.RowKit Ut Tk Ss Go.Sort Go.Shelf Go.Lib
theorem cmp_lt:∀ a b:List UInt8,Lib.compareBytes a b<0↔Op.bytesLess a b=true
 | [],[]=>by simp [Lib.compareBytes,Op.bytesLess]
 | [],_ :: _=>by simp [Lib.compareBytes,Op.bytesLess]
 | _ :: _,[]=>by simp [Lib.compareBytes,Op.bytesLess]
 | a :: xs,b :: ys=>by
  have ih:=cmp_lt xs ys
  simp only [Lib.compareBytes,Op.bytesLess,Bool.or_eq_true,Bool.and_eq_true,decide_eq_true_eq,beq_iff_eq]
  by_cases c1:a<b
  ·simp [c1]
  ·by_cases c2:b<a
   ·have hne:a≠b:=fun e=>by subst e; exact c1 c2
    simp [c1,c2,hne]
   ·have e:a=b:=UInt8.le_antisymm (UInt8.not_lt.1 c2) (UInt8.not_lt.1 c1)
    subst e
    simp [c1,ih]
structure El where
 s:ByteArray
 p:Nat
 b:Nat
instance:Inhabited El:=⟨⟨ByteArray.empty,0,0⟩⟩
def encE (x:El):List Value:=[.string x.s,.slice (some ⟨x.b,0,none⟩) 1 1]
def cfE (x y:El):Int:=Lib.compareBytes x.s.data.toList y.s.data.toList
def t1 (x:El):T1:=(x.s,x.p)
theorem ltOf_E (x y:El):ltOf cfE x y=ltB x.s y.s:=by
 unfold ltOf cfE ltB
 rw [ByteArray.toList_eq,ByteArray.toList_eq]
 have:=cmp_lt x.s.data.toList y.s.data.toList
 cases h:Op.bytesLess x.s.data.toList y.s.data.toList
 ·rw [h] at this; simp only [Bool.false_eq_true,iff_false] at this; exact decide_eq_false this
 ·rw [h] at this; exact decide_eq_true (this.2 rfl)
theorem swoE:SWO (ltOf cfE) where
 irrefl x:=by rw [ltOf_E]; exact ltB_irrefl _
 trans x y z h1 h2:=by rw [ltOf_E] at *; exact ltB_trans h1 h2
 ntrans x y z h1 h2:=by
  rw [ltOf_E] at *
  cases h:ltB x.s z.s
  ·rfl
  ·rcases ltB_total h1 with e | e
   ·rw [e] at h; rw [h] at h2; cases h2
   ·have:=ltB_trans e h
    rw [h2] at this; cases this
theorem perm_whole {l:List El} {d':Array El} (h:PermIn 0 l.length l.toArray d'):d'.toList.Perm l:=by
 obtain ⟨h1,_,h3⟩:=h
 have hs:d'.size=l.length:=by simpa using h1
 have e1:d'.extract 0 l.length=d':=by rw [← hs]; simp
 have e2:l.toArray.extract 0 l.length=l.toArray:=by
  have:l.length=l.toArray.size:=by simp
  rw [this,Array.extract_size]
 rw [e1,e2] at h3
 exact h3
theorem sorted_els {l:List El} {d':Array El} (hP:PermIn 0 l.length l.toArray d') (hs:Srt cfE El.p d' 0 l.length) (ht:l.Pairwise (fun x y=>x.p<y.p)) :
  d'.toList.Perm l∧(d'.toList.map t1).foldl mrg []=addAll (l.map t1):=by
 have hp:=perm_whole hP
 refine ⟨hp,?_⟩
 have hz:d'.size=l.length:=by have:=hP.1; simpa using this
 have hpw:d'.toList.Pairwise (bef cfE El.p):=by
  rw [List.pairwise_iff_getElem]
  intro i j hi hj hij
  have h1:i<d'.size:=by simpa using hi
  have h2:j<d'.size:=by simpa using hj
  have:=hs i j (Nat.zero_le _) hij (by omega)
  rw [getElem!_pos d' i h1,getElem!_pos d' j h2] at this
  simpa using this
 refine sorted_terms ?_ (fun s=>?_)
 ·rw [List.pairwise_map]
  refine hpw.imp (fun {x y} h=>?_)
  show ltB y.s x.s=false
  rcases h with h | ⟨h,_⟩
  ·exact ltB_asymm ((ltOf_E x y).symm.trans (decide_eq_true h))
  ·exact (ltOf_E y x).symm.trans (decide_eq_false h)
 ·rw [List.filter_map,List.filter_map]
  congr 1
  refine mem_one (r:=fun x y:El=>x.p<y.p) (fun x=>Nat.lt_irrefl _) (fun x y z=>Nat.lt_trans) (fun x=>?_) (ht.filter _) ?_
  ·simp only [List.mem_filter,hp.mem_iff]
  ·have h1:=hpw.filter (fun x:El=>decide ((t1 x).1=s))
   have h2:(d'.toList.filter (fun x:El=>decide ((t1 x).1=s))).Pairwise (fun x y=>bef cfE El.p x y∧x.s=s∧y.s=s):=by
    refine List.Pairwise.imp_of_mem (fun {x y} hx hy h=>⟨h,?_,?_⟩) h1
    ·exact of_decide_eq_true (List.mem_filter.1 hx).2
    ·exact of_decide_eq_true (List.mem_filter.1 hy).2
   refine h2.imp (fun {x y} h=>?_)
   obtain ⟨h,e1,e2⟩:=h
   rcases h with h | ⟨_,h⟩
   ·have:ltB x.s y.s=true:=(ltOf_E x y).symm.trans (decide_eq_true h)
    rw [e1,e2,ltB_irrefl] at this; cases this
   ·exact h
set_option maxHeartbeats 400000 in
theorem less_terms (x y:El) (w:World):Calls Tryz.prog 75 (#[.agg (encE x).toArray,.agg (encE y).toArray] ++ #[]) w fun e w'=>e=.returned (.int .i64 (cfE x y))∧∃ q os,w'=grow (w.drewN q) os:=by
 have h:=fun w=>Tryz.strings_Compare x.s y.s w
 have Fin:Hid (cfE x y=Lib.compareBytes x.s.data.toList y.s.data.toList):=rfl
 generalize cfE x y=r at *
 simp only [encE,Array.append_empty]
 generalize x.s=xs at *
 generalize y.s=ys at *
 go_enter Tryz.func75,Tryz.ntmps75
 go_wp2_with fail
 refine (h _).mono ?_
 rintro e w' ⟨rfl,rfl⟩
 have F:=zh Fin.out
 rw [← F.out]
 clear h Fin
 go_wp2
 go_ret
 exact ⟨rfl,0,#[.cells #[.string xs,.slice (some ⟨x.b,0,none⟩) 1 1] 105,.cells #[.string ys,.slice (some ⟨y.b,0,none⟩) 1 1] 105],by rw [alloc_eq_grow,alloc_eq_grow,grow_grow]; rfl⟩
theorem cmpLaysE (blk off size:Nat) (w:World):CmpLays Tryz.prog 75 #[] encE 2 cfE blk off size w:=fun m os dk hs x y=>less_terms x y _
theorem sortE_any (base g cap:Nat) (l:List El) (cur:Array Value) (w:World) (hb:w.heap[g]?=some (.cells cur 105 (0,0))) (ht:cur.toList.take (l.length * 2)=l.flatMap encE) (hl:l.length≤1048576)
  (hg:base≤g) (h1:l.length≤cap) (h2:cap≤maxLen) (h3:cur.size=cap * 2) (hp:l.Pairwise (fun x y=>x.p<y.p)) :
  Calls Tryz.prog 74 #[.slice (some ⟨g,0,none⟩) l.length cap,.func (.func 75) #[] #[]] w fun e w' =>
   e=.returned (.tuple #[])∧∃ m:List El,m.Perm l∧(m.map t1).foldl mrg []=addAll (l.map t1)∧w'.ownsRow base 105 2 (.slice (some ⟨g,0,none⟩) l.length cap) l.length (m.flatMap encE)∧w.grownBy w' (some g):=by
 have hH:=holdsE (enc:=encE) (k:=2) (fun _=>rfl) (by decide) hb ht
 have hsz:l.toArray.size=l.length:=by simp
 have hgl:g<w.heap.size:=(Array.getElem?_eq_some_iff.1 hb).1
 have c:=sortStable_any (enc:=encE) (cf:=cfE) (tag:=El.p) swoE 2 rfl 75 #[] g 0 cap l.toArray w (enters_of Tryz.func75 (by kernel_rfl) rfl) (cmpLaysE g 0 _ w)
  ⟨fun _=>rfl,fun x v hv=>by simp [encE] at hv; rcases hv with rfl | rfl <;> rfl,hH,hgl⟩ (SWK.start hH) (by rw [hsz]; omega) (fun x y hxy hy=>by
   rw [hsz] at hy
   rw [getElem!_pos _ x (by simp; omega),getElem!_pos _ y (by simp; omega)]
   simpa using List.pairwise_iff_getElem.1 hp x y (by omega) hy hxy)
 rw [hsz] at c
 refine c.mono ?_
 rintro e w' ⟨rfl,d',⟨n,os,rfl⟩,hd,hP,hS⟩
 obtain ⟨q1,q2⟩:=sorted_els hP hS hp
 have hm:d'.toList.length=l.length:=q1.length_eq
 have ho:=ownE (enc:=encE) (k:=2) (fun _=>rfl) (by decide) (base:=base) (n:=n) (os:=os) (l:=l) (m:=d'.toList) hm hg hb h1 h2 h3
 rw [hm] at ho
 exact ⟨rfl,d'.toList,q1,q2,by simpa using ho,grownE _⟩
set_option maxHeartbeats 400000 in
theorem insertion_nil (w:World) (fv:Value):Calls Tryz.prog 150 #[.slice none 0 0,.int .i64 0,.int .i64 0,fv] w fun e w'=>e=.returned (.tuple #[])∧w=w':=by
 go_enter Tryz.func150,Tryz.ntmps150
 go_wp2
 go_loop [8] (fun i=>i=.int .i64 1) (fun _=>0)
 case atStart=>rfl
 case round =>
  subst hrel
  go_wp2
  go_end0
  exact ⟨rfl,rfl⟩
set_option maxHeartbeats 400000 in
theorem stable_nil (w:World) (fv:Value):Calls Tryz.prog 111 #[.slice none 0 0,.int .i64 0,fv] w fun e w'=>e=.returned (.tuple #[])∧w=w':=by
 go_enter Tryz.func111,Tryz.ntmps111
 go_wp2
 go_loop [7,8] (fun a b=>a=.int .i64 0∧b=.int .i64 20) (fun _ _=>0)
 case atStart=>exact ⟨rfl,rfl⟩
 case round =>
  obtain ⟨rfl,rfl⟩:=hrel
  go_wp2_with fail
  refine (insertion_nil _ _).mono ?_
  rintro e w' ⟨rfl,rfl⟩
  go_wp2
  go_loop [6] (fun b=>b=.int .i64 20) (fun _=>0)
  case atStart=>rfl
  case round =>
   subst hrel
   go_wp2
   go_end0
   exact ⟨rfl,rfl⟩
set_option maxHeartbeats 400000 in
theorem sortE_nil (w:World) (fv:Value):Calls Tryz.prog 74 #[.slice none 0 0,fv] w fun e w'=>e=.returned (.tuple #[])∧w=w':=by
 go_enter Tryz.func74,Tryz.ntmps74
 go_wp2_with fail
 refine (stable_nil _ _).mono ?_
 rintro e w' ⟨rfl,rfl⟩
 go_wp2
 go_end0
 exact ⟨rfl,rfl⟩
end Go.Proofs.YtlfpfkallgkjdaaGreat.Ev
end

section
namespace Go.Proofs.YtlfpfkallgkjdaaGreat.Ev
open Go.RowKit Ut Tk Qy Qp
def DocsPost (w:World) (ds:List Dc) (e:Ending) (w':World):Prop:=∃ v,e=.returned v∧DOwn w' w.heap.size v ds∧Below w.heap.size w w'
set_option maxHeartbeats 6400000 in
theorem docs_any (seq:Int) (A:Option Addr) (n c:Nat) (l:List Evn) (w:World) (h:EvsAt w w.heap.size A n c l) (hok:chkB seq l=0) :
  Calls Tryz.prog 58 #[.agg #[.int .i64 seq,.slice A n c]] w (DocsPost w (mkD seq l)):=by
 obtain ⟨i0,hi0,hz0,hz1,hz2⟩:=info_parts doc_info
 have hl:=h.ln
 have hl1:l.length≤n:=by omega
 have hl2:n≤l.length:=by omega
 have hcap:=h.cap
 have hok':=chkB_ok hok
 have hn64:n≤64:=by have:=hok'.2.1; omega
 have hs1 : 1≤seq:=hok'.2.2.2.2.1
 have hs2:seq≤1099511627777:=by have:=hok'.2.2.2.2.2; omega
 have hB1:Below w.heap.size w (w.alloc (.cells #[.int .i64 seq,.slice A n c] 69)):=(Below.refl _ _).alloc (zG _) _
 have hF1:=h.grow hB1
 have hX:=(Blk.new w 69 #[.int .i64 seq,.slice A n c])
 have c1:=checkBatch_any seq A n c l _ hF1
 rw [hok] at c1
 have C1:=zh c1
 have OK:=zh hok'.2.2.1
 have H:=zh (And.intro hF1 (And.intro hX hB1))
 clear hl h hF1 hX hB1 c1 hok hok'
 go_enter Tryz.func58,Tryz.ntmps58
 go_wp2_with fail
 refine C1.out.mono ?_
 rintro e W0 ⟨rfl,hb0⟩
 have H0:Hid (EvsAt W0 W0.heap.size A n c l∧Blk W0 w.heap.size 69 #[.int .i64 seq,.slice A n c]∧Below w.heap.size w W0):=zh ⟨H.out.1.grow hb0,H.out.2.1.below hb0 H.out.2.1.lt,H.out.2.2.trans (hb0.mono H.out.2.2.size)⟩
 have e1:=H0.out.2.1.cell 1
 simp only [zA,zB,zC] at e1
 clear hb0 H C1
 go_wp2_with fail
 clear e1
 go_loopw [3,12] (fun v i wr=>∃ k:Nat,k≤l.length∧i=.int .i64 (k:Nat)∧Hid (DOwn wr W0.heap.size v (mkD seq (l.take k)))∧Hid (Below W0.heap.size W0 wr)) (fun _ i _=>l.length - (intOf i).toNat)
 case atStart=>exact ⟨0,Nat.zero_le _,rfl,zh (DOwn.start _ _),zh (Below.refl _ _)⟩
 case round =>
  obtain ⟨k,hk,rfl,hO,hB⟩:=hrel
  have hBlk:=H0.out.2.1.below hB.out H0.out.2.1.lt
  have d0:=hBlk.cell 0
  have d1:=hBlk.cell 1
  simp only [zA,zB,zC] at d0 d1
  have HBK:=zh hBlk
  clear hBlk
  have hBw:Hid (Below w.heap.size w wr):=zh (H0.out.2.2.trans (hB.out.mono H0.out.2.2.size))
  by_cases hlt:k<l.length
  ·have hkz:(k:Int)<(n:Int):=by omega
   have hk0:(0:Int)≤(k:Int):=by omega
   have hG:=H0.out.1.grow hB.out
   obtain ⟨b,o,F,fn,fc,rfl,hbb,ca,cf,hFl⟩:=hG.at_ hlt
   have hmk:=mkD_take seq l k hlt
   have hfew:=(chkE_ok (OK.out _ (List.getElem_mem hlt))).1
   have hlnk:(mkD seq (l.take k)).length=k:=by rw [mkD_len,List.length_take]; omega
   have hBx:Below wr.heap.size wr (wr.alloc (.cells #[.int .i64 l[k].1,.slice F fn fc] 33)):=(Below.refl _ wr).alloc (zG _) _
   have hx:=Blk.new wr 33 #[.int .i64 l[k].1,.slice F fn fc]
   have c2:=cloneF_any F fn fc l[k].2 _ (hFl.grow hBx).rd hFl.len (by have:=hFl.len; omega) hFl.nl
   have hfl:Hid (l[k].2.length=fn):=zh hFl.len
   have hf16:fn≤16:=by have:=hFl.len; omega
   generalize hev:l[k]=ev at *
   clear hev hG hFl
   obtain ⟨ta,fs⟩:=ev
   simp only at ca c2 hmk hfl hx hBx
   have HX:=zh (And.intro hx hBx)
   have HMK:=zh hmk
   have HLK:=zh hlnk
   have C2:=zh c2
   clear hx hBx hmk c2 hfew hlnk
   go_wp2_with fail
   generalize hw1:wr.alloc (.cells #[.int .i64 ta,.slice F fn fc] 33)=w1 at *
   clear hw1 ca cf
   refine C2.out.mono ?_
   rintro e w3 ⟨v3,rfl,hown3,hb3⟩
   obtain ⟨A3,q3,rfl,hR3,hnq3,hnl3,hg3⟩:=own_shape2 hown3
   have h7:=HX.out.1.below hb3 HX.out.1.lt
   have h7s:=h7.set_ 1 (.slice A3 fs.length q3)
   have h7c:=h7.cell 1
   have h7f:=h7.frozen 1
   have h7s0:=h7s.cell 0
   have h7s1:=h7s.cell 1
   simp at h7c h7s0 h7s1
   have hbt:=HBK.out.below (HX.out.2) HBK.out.lt |>.below hb3 (by have:=HBK.out.lt; have:=HX.out.2.size; omega)
   have t0:(w3.setCell ⟨wr.heap.size,1,none⟩ (.slice A3 fs.length q3)).cell? ⟨w.heap.size,0,none⟩=some (.int .i64 seq):=by
    have e:=hbt.cell 0
    simp only [zA,zB] at e
    have hlt:=HBK.out.lt
    exact (World.cell?_of_block (Below.heap_setCell _ _ _ _ (by show w.heap.size≠wr.heap.size; omega))).trans e
   have hlw:wr.heap.size<w3.heap.size:=by have:=h7.lt; exact this
   have hown6:(((w3.setCell ⟨wr.heap.size,1,none⟩ (.slice A3 fs.length q3)).alloc (.cells #[.int .i64 (seq+(k:Int)),.int .i64 ta,.slice A3 fs.length q3] 132))).ownsRow w1.heap.size 99 2 (.slice A3 fs.length q3) fs.length (fldC fs) :=
    (hown3.kept (grownBy_setC w3 wr.heap.size 1 _) (.inr (fun e=>by have:=(hown3.lt _ e).1; have:=HX.out.1.lt; omega))).alloc _
   have hbS:Below wr.heap.size wr ((w3.setCell ⟨wr.heap.size,1,none⟩ (.slice A3 fs.length q3)).alloc (.cells #[.int .i64 (seq+(k:Int)),.int .i64 ta,.slice A3 fs.length q3] 132)):=((HX.out.2.trans (hb3.mono HX.out.2.size)).setCell (p:=⟨wr.heap.size,1,none⟩) (zG _) _).alloc (by have:=HX.out.2.size; have:=hb3.size; simp; omega) _
   have hO6:=hO.out.below hbS
   obtain ⟨vss,g1,g2,g3⟩:=hO6.ex
   have hd6:DcS ((w3.setCell ⟨wr.heap.size,1,none⟩ (.slice A3 fs.length q3)).alloc (.cells #[.int .i64 (seq+(k:Int)),.int .i64 ta,.slice A3 fs.length q3] 132)) (Fd _ W0.heap.size) ⟨seq+(k:Int),ta,fs⟩ [.int .i64 (seq+(k:Int)),.int .i64 ta,.slice A3 fs.length q3] :=
    ⟨A3,_,q3,rfl,(ReadsS.of_own hown6).mono (fun b hb=>⟨by have:=hb.1; have:=hB.out.size; have:=HX.out.2.size; omega,tg_own hown6 hb.2.2⟩),rfl,by have:=hfl.out; omega,hnq3,hnl3⟩
   have Put:Hid (∀ v' w5,w5.ownsRow W0.heap.size 132 3 v' (k+1) (vss.flatten ++ [.int .i64 (seq+(k:Int)),.int .i64 ta,.slice A3 fs.length q3])→_→DOwn w5 W0.heap.size v' (mkD seq (l.take (k+1)))):=zh (fun v' w5 p1 p2=>by
    rw [HMK.out]
    exact DOwn.put ⟨vss,g1,g2,g3,rfl⟩ (by rw [HLK.out]; exact p1) p2 hd6)
   rw [HLK.out] at g2
   have G2:=zh g2
   have hzs:=hbS.size
   have hBS:=zh hbS
   have hw5:W0.heap.size≤wr.heap.size:=hB.out.size
   have hsq : 0≤seq+(k:Int):=by omega
   clear hown6 hbS hO6 g1 g2 g3 hd6 hown3 hR3 hnq3 hnl3 hg3 h7 h7s hbt C2 d0 d1
   go_wp2_with (at_builtin; refine wpList_append_own _ rfl _ _ 129 rfl W0.heap.size 132 i0 _ 3 40 Tryz.underlying129 hi0 hz0 hz1 hz2 rfl (by decide) _ _ _ rfl G2.out ⟨w3.heap.size,0,none⟩ 1 1 [.int .i64 (seq+(k:Int)),.int .i64 ta,.slice A3 fs.length q3] rfl rfl ?d1 ?d2 ?d3 ?d4 ?d5 ?_)
   case d1=>exact World.news_of_block (cs:=#[.int .i64 (seq+(k:Int)),.int .i64 ta,.slice A3 fs.length q3]) (t:=132) (fr:=(0,0)) (by have:=heap_alloc_new (w3.setCell ⟨wr.heap.size,1,none⟩ (.slice A3 fs.length q3)) (.cells #[.int .i64 (seq+(k:Int)),.int .i64 ta,.slice A3 fs.length q3] 132); simpa using this)
   case d2=>simp [Value.oneCell']
   case d3=>unfold maxLen; omega
   case d4=>omega
   case d5=>first | omega | (simp; omega)
   intro v' w5 hown5 hg5 _
   have Fin:=zh (Put.out v' w5 hown5 hg5)
   have hbF:Hid (Below W0.heap.size W0 w5):=zh ((hB.out.trans (hBS.out.mono hB.out.size)).grown hg5 (by omega) (fun j hj=>(G2.out.lt j hj).1))
   clear hown5 hg5
   go_wp2
   go_roundw
   case rel=>exact ⟨k+1,by omega,by go_num,Fin,hbF⟩
   case measure=>simp [intOf]; omega
  ·obtain rfl:k=l.length:=by omega
   have hkz:¬ (l.length:Int)<(n:Int):=by omega
   rw [List.take_length] at hO
   go_wp2
   go_ret
   exact ⟨_,rfl,hO.out.mono H0.out.2.2.size,hBw.out⟩
end Go.Proofs.YtlfpfkallgkjdaaGreat.Ev
end

section
namespace Go.Proofs.YtlfpfkallgkjdaaGreat.Ev
open Go.RowKit Ut Tk Qy Qp
structure DOwnB (w:World) (base B:Nat) (v:Value) (ds:List Dc):Prop where
 ex:∃ vss:List (List Value),vss.length=ds.length∧w.ownsRow base 132 3 v ds.length vss.flatten∧∀ i (h:i<ds.length) (h':i<vss.length),DcS w (·<B) ds[i] vss[i]
theorem DOwnB.start (w:World) (base B:Nat):DOwnB w base B (.slice none 0 0) []:=⟨[],rfl,World.ownsRow_nil _ _ _ _,fun i h=>absurd h (by simp)⟩
theorem DOwnB.below {w w':World} {base B:Nat} {v:Value} {ds:List Dc} (h:DOwnB w base B v ds) (hb:Below w.heap.size w w') (hB:B≤w.heap.size):DOwnB w' base B v ds:=by
 obtain ⟨vss,h1,h2,h3⟩:=h.ex
 exact ⟨vss,h1,h2.kept (grow_of_below hb none) (by cases hv:v.ownBlock <;> simp),fun i a b=>(h3 i a b).same (fun b hS=>⟨hS,hb.block b (Nat.lt_of_lt_of_le hS hB)⟩)⟩
theorem DOwnB.put {w w5:World} {base B:Nat} {v v':Value} {ds:List Dc} {d:Dc} {u:List Value} {xs:List Value} (hx:∃ vss:List (List Value),vss.length=ds.length∧w.ownsRow base 132 3 v ds.length vss.flatten∧(∀ i (h:i<ds.length) (h':i<vss.length),DcS w (·<B) ds[i] vss[i])∧xs=vss.flatten)
  (hp:w5.ownsRow base 132 3 v' (ds.length+1) (xs ++ u)) (hg:w.grownBy w5 v.ownBlock) (hd:DcS w (·<B) d u) (hB:B≤base) (hw:base≤w.heap.size):DOwnB w5 base B v' (ds ++ [d]):=by
 obtain ⟨vss,h1,h2,h3,rfl⟩:=hx
 have keep:∀ b,b<B→b<B∧w5.heap[b]?=w.heap[b]?:=fun b hS=>⟨hS,hg.block b (by omega) (fun e=>by
  have:=(h2.lt b e.symm).1
  omega)⟩
 refine ⟨vss ++ [u],by simp [h1],?_,fun i a b=>?_⟩
 ·rw [List.flatten_append,List.length_append]
  simpa using hp
 ·by_cases hi:i<ds.length
  ·rw [List.getElem_append_left hi,List.getElem_append_left (by omega)]
   exact (h3 i hi (by omega)).same keep
  ·have hi':i=ds.length:=by simp at a; omega
   subst hi'
   rw [List.getElem_append_right (by omega),List.getElem_append_right (by omega)]
   simp only [Nat.sub_self,h1,List.getElem_cons_zero]
   exact hd.same keep
theorem DOwnB.mono {w:World} {base base' B:Nat} {v:Value} {ds:List Dc} (h:DOwnB w base B v ds) (hb:base'≤base):DOwnB w base' B v ds:=by
 obtain ⟨vss,h1,h2,h3⟩:=h.ex
 exact ⟨vss,h1,own_mono h2 hb,h3⟩
theorem DOwnB.read {w:World} {base B:Nat} {v:Value} {ds:List Dc} (h:DOwnB w base B v ds):∃ A c,v=.slice A ds.length c∧DocsS w (fun b=>base≤b∧b<w.heap.size) (·<B) A ds.length ds∧ds.length≤c∧(A=none→c=0):=by
 obtain ⟨vss,h1,h2,h3⟩:=h.ex
 obtain ⟨A,c,rfl,_,hc,hn,_⟩:=own_shape2 h2
 exact ⟨A,c,rfl,⟨rfl,vss,h1,(ReadsS.of_own h2).mono (fun b hb=>⟨hb.1,hb.2.1⟩),fun i a b=>h3 i a b⟩,hc,hn⟩
end Go.Proofs.YtlfpfkallgkjdaaGreat.Ev
end
