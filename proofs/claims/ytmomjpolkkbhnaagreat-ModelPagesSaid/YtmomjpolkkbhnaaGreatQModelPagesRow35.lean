/- The document's Follow: the walk (printed by gen_cut.py). -/
import Derived.IntWalk
import Derived.Laws.BytesArg
import Derived.BigRegion
import Derived.RegionTactic
import Derived.ChangeAlike
import Derived.Maps.AppendAt
import Derived.Test.YtmomjpolkkbhnaaGreatProg
import Derived.Lib.Hide
import Derived.Deep.Slices
import Derived.Deep.Strs
import Derived.Lib.SmallJoins
import Derived.Test.YtmomjpolkkbhnaaGreatQModelPagesRow33
import Derived.Test.YtmomjpolkkbhnaaGreatQModelPagesRow12
import Derived.Test.YtmomjpolkkbhnaaGreatQModelPagesRow21
import Derived.Test.YtmomjpolkkbhnaaGreatQModelPagesRow14
import Derived.Test.YtmomjpolkkbhnaaGreatQModelPagesRow9
import Derived.Test.YtmomjpolkkbhnaaGreatQModelPagesRow1
import Derived.Test.YtmomjpolkkbhnaaGreatQModelPagesRow2
import Derived.Test.YtmomjpolkkbhnaaGreatQModelPagesRow19
import Derived.Test.YtmomjpolkkbhnaaGreatQModelPagesRow0
set_option linter.unusedSimpArgs false
set_option linter.unusedVariables false
set_option maxRecDepth 100000
section
namespace Go.Proofs.YtmomjpolkkbhnaaGreat.Cu
open Go.RowKit Qy Ph
end Go.Proofs.YtmomjpolkkbhnaaGreat.Cu
end

section
namespace Go.Proofs.YtmomjpolkkbhnaaGreat.Cu
open Go.RowKit Cr Qp Qy
def DecR (L:List UInt8) (a:Int) (q:ByteArray) (E:Int):Prop :=
 (∃ n:Nat,a=n∧IsC a q∧L=enc n q.data.toList∧E=0)∨((∀ (n:Nat) (q':ByteArray),IsC n q'→L≠enc n q'.data.toList)∧a=0∧q=⟨#[]⟩∧E=250)
theorem arr_eq {q q':ByteArray} (h:q.data.toList=q'.data.toList):q=q':=by
 cases q; cases q'
 congr 1
 exact Array.toList_inj.1 h
theorem IsC.enc_inj {n n':Nat} {q q':ByteArray} (h:IsC n q) (h':IsC n' q') (e:enc n q.data.toList=enc n' q'.data.toList):n=n'∧q=q':=by
 have h1:=h.short
 have h1':=h'.short
 obtain ⟨e1,e2⟩:=Cu.enc_inj (by have:=h.2.1; omega) (by have:=h'.2.1; omega) (by rw [bsize]; omega) (by rw [bsize]; omega) e
 exact ⟨e1,arr_eq e2⟩
theorem DecR.det {L:List UInt8} {a a':Int} {q q':ByteArray} {E E':Int} (h:DecR L a q E) (h':DecR L a' q' E'):a=a'∧q=q'∧E=E':=by
 rcases h with ⟨n,rfl,h1,h2,h3⟩ | ⟨h0,h1,h2,h3⟩ <;> rcases h' with ⟨n',rfl,g1,g2,g3⟩ | ⟨g0,g1,g2,g3⟩
 ·obtain ⟨e1,e2⟩:=h1.enc_inj g1 (h2.symm.trans g2)
  exact ⟨by rw [e1],e2,h3.trans g3.symm⟩
 ·exact absurd h2 (g0 n q h1)
 ·exact absurd g2 (h0 n' q' g1)
 ·exact ⟨h1.trans g1.symm,h2.trans g2.symm,h3.trans g3.symm⟩
def DecTo (w:World) (L:List UInt8) (e:Ending) (w':World):Prop:=∃ (a:Int) (q:ByteArray) (E:Int),DecR L a q E∧e=.returned (.tuple #[.agg #[.int .i64 a,.string q],.int .i64 E])∧Below w.heap.size w w'
theorem decR_of {L:List UInt8} {z:Int} {q:ByteArray} (hz:aOf L<9223372036854775808→z=aOf L) (hq:q.data.toList=qOf L∨q.data.toList=qRef L):(∃ n:Nat,z=n∧IsC z q∧enc n q.data.toList=L)∨∀ (n:Nat) (q':ByteArray),IsC n q'→L≠enc n q'.data.toList:=by
 by_cases h:∃ (n:Nat) (q':ByteArray),IsC n q'∧L=enc n q'.data.toList
 ·obtain ⟨n,q',h1,rfl⟩:=h
  left
  have hs:=h1.short
  have hn:n≤1099511627776:=by have:=h1.2.1; omega
  have ha:=aOf_enc n q'.data.toList (by omega)
  rw [ha] at hz
  have e1:=hz (by omega)
  have e2:q=q':=by
   rcases hq with hq | hq
   ·rw [qOf_enc n q'.data.toList (by rw [bsize]; omega)] at hq
    exact arr_eq hq
   ·rw [qRef_enc n q'.data.toList] at hq
    exact arr_eq hq
  subst e1 e2
  exact ⟨n,rfl,h1,rfl⟩
 ·right
  intro n q' h1 h2
  exact h ⟨n,q',h1,h2⟩
theorem nums_bytes (L:List UInt8):strOfNums (L.map fun x=>(x.toNat:Int))=⟨L.toArray⟩:=by
 have h:(L.map fun x=>(x.toNat:Int)).map (fun n=>UInt8.ofNat n.toNat)=L:=by
  rw [List.map_map]
  conv=>rhs; rw [← List.map_id L]
  apply List.map_congr_left
  intro x _
  simp
 unfold strOfNums
 rw [h]
theorem conv_str {w:World} {A:Option Addr} {n:Nat} (c:Nat) {L:List UInt8} {B:Nat} (hR:Reads w B 1 A n (bv L)):(convert 30 9 (.slice A n c)).run Tryz.prog w=.ok (.string ⟨L.toArray⟩) w:=by
 have hln:L.length=n:=by have:=hR.1; rw [bv_len] at this; omega
 by_cases h0:n=0
 ·subst h0
  obtain rfl:=List.eq_nil_of_length_eq_zero hln
  cases A with
  | none=>exact run_convert_bytes_nil w 30 5 Tryz.underlying30 Tryz.underlying5 0 c 9 Tryz.underlying9
  | some a =>
   rw [run_convert_bytes_string w 30 9 5 _ 0 c Tryz.underlying30 Tryz.underlying5 Tryz.underlying9,
    run_bytesToString w a 0 c [] (by simp [loadCells,loadCellsFrom])]
   rfl
 ·obtain ⟨b,o,rfl,_,hc⟩:=hR.2 (by omega)
  have:=run_convert_bytes_arg w 30 5 Tryz.underlying30 Tryz.underlying5 b o n c (L.map fun x=>(x.toNat:Int)) (by rw [List.length_map,hln]) (fun i hi=>by
   rw [hc i (.int .u8 ((L[i]'(by omega)).toNat:Int)) (by unfold bv; rw [List.getElem?_map,List.getElem?_eq_getElem (by omega)]; rfl)]
   simp [List.getD,List.getElem?_map,List.getElem?_eq_getElem (show i<L.length by omega)]) 9 Tryz.underlying9
  rw [this,nums_bytes]
end Go.Proofs.YtmomjpolkkbhnaaGreat.Cu
end

section
namespace Go.Proofs.YtmomjpolkkbhnaaGreat.Hi
open Go.RowKit
end Go.Proofs.YtmomjpolkkbhnaaGreat.Hi
end

section
namespace Go.Proofs.YtmomjpolkkbhnaaGreat.Cu
open Go.RowKit Qy Ph
section
variable {w wr w2:World} {v v':Value} {ds es:List Dc}
end
section
variable {P:Program} {o:Oper} {a:Act} {w:World} {R:Value→World→Prop}
end
structure Onc (w wr:World) (c:Int) (q:ByteArray) (v:Value) (told:List Dc):Prop where
 box:Blk wr w.heap.size 122 #[.int .i64 c,.string q]
 own:DocsOwn w wr v told
section
variable {w wr w2:World} {c b:Int} {q:ByteArray} {v v':Value} {told:List Dc}
theorem Onc.below (h:Onc w wr c q v told) (hb:Below wr.heap.size wr w2):Onc w w2 c q v told:=⟨h.box.below hb h.box.lt,h.own.below hb⟩
theorem Onc.drew (h:Onc w wr c q v told):Onc w wr.drew c q v told:=h.below (Below.refl _ _).drew
theorem Onc.next (h:Onc w wr c q v told) (b:Int) (q':ByteArray):Onc w ((wr.setCell ⟨w.heap.size,0,none⟩ (.int .i64 b)).setCell ⟨w.heap.size,1,none⟩ (.string q')) b q' v told:=by
 have h1:=h.box.set_ 0 (.int .i64 b)
 have h2:=h1.set_ 1 (.string q')
 exact ⟨by simpa using h2,docs_box (docs_box h.own h.box (zG _) 0 _) h1 (zG _) 1 _⟩
end
def stC (l:List (UInt8 × UInt8)):List Value:=l.flatMap fun s=>[.int .u8 (s.1.toNat:Int),.int .u8 (s.2.toNat:Int)]
theorem stC_get:∀ (l:List (UInt8 × UInt8)) (k:Nat) (h:k<l.length),(stC l)[k * 2]?=some (.int .u8 (l[k].1.toNat:Int))∧(stC l)[k * 2+1]?=some (.int .u8 (l[k].2.toNat:Int))
 | s :: t,0,_=>⟨rfl,rfl⟩
 | s :: t,k+1,h=>by
  have ih:=stC_get t k (by simpa using h)
  have e:stC (s :: t)=[.int .u8 (s.1.toNat:Int),.int .u8 (s.2.toNat:Int)] ++ stC t:=rfl
  rw [e,List.getElem_cons_succ]
  constructor
  ·rw [show (k+1) * 2=k * 2+2 by omega,List.getElem?_append_right (by simp)]
   exact ih.1
  ·rw [show (k+1) * 2+1=k * 2+1+2 by omega,List.getElem?_append_right (by simp)]
   exact ih.2
theorem stC_len (l:List (UInt8 × UInt8)):(stC l).length=l.length * 2:=by
 induction l with
 | nil=>rfl
 | cons s t ih =>
  have e:stC (s :: t)=[.int .u8 (s.1.toNat:Int),.int .u8 (s.2.toNat:Int)] ++ stC t:=rfl
  rw [e,List.length_append,ih,List.length_cons]
  simp
  omega
theorem step_at {w:World} {B n:Nat} {A:Option Addr} {l:List (UInt8 × UInt8)} (h:Reads w B 2 A n (stC l)) {k:Nat} (hk:k<l.length) :
  ∃ b o,A=some ⟨b,o,none⟩∧b<B∧w.cell? ⟨b,o+k * 2,none⟩=some (.int .u8 (l[k].1.toNat:Int))∧w.cell? ⟨b,o+k * 2+1,none⟩=some (.int .u8 (l[k].2.toNat:Int)):=by
 have hl:=h.1
 rw [stC_len] at hl
 obtain ⟨b,o,e,hb,hc⟩:=h.2 (by omega)
 obtain ⟨g1,g2⟩:=stC_get l k hk
 exact ⟨b,o,e,hb,hc _ _ g1,by rw [Nat.add_assoc]; exact hc _ _ g2⟩
end Go.Proofs.YtmomjpolkkbhnaaGreat.Cu
end

section
namespace Go.Proofs.YtmomjpolkkbhnaaGreat.Qy
open Go.RowKit Go.ChangeShapes Go.WideShapes Go.ChangeAt Go.Deep Go.Joins
section
variable {H:Type} {enc:TypeId × Value→H} {P:Program} {W:World} {t e:TypeId}
theorem flat_len {k:Nat}:∀ {vss:List (List Value)} (_:∀ v∈vss,v.length=k),vss.flatten.length=vss.length * k
 | [],_=>by simp
 | v :: vss,h=>by
  rw [List.flatten_cons,List.length_append,h v (by simp),flat_len (fun x hx=>h x (List.mem_cons_of_mem _ hx)),List.length_cons,Nat.add_mul,Nat.one_mul,Nat.add_comm]
theorem slice_at {k fuel:Nat} {v:Value} {x:DataW H × List MemPlace} (ht:P.underlying t=some (.slice e)) (hc:P.cellsOf e=k) (hk : 0<k) (h:DataW.trod enc P W 0 (fun _=>true) true fuel t [v]=some x) :
  ∃ (A:Option Addr) (len cap:Nat) (vss:List (List Value)) (ds spare:List (DataW H)),v=.slice A len cap∧len≤cap∧vss.length=len∧(∀ u∈vss,u.length=k)∧Reads W W.heap.size k A len vss.flatten∧ds.length=len ∧
   (x.1=.slice ds spare∨(len=0∧ds=[]))∧∀ i (h1:i<vss.length) (h2:i<ds.length),∃ n y,DataW.trod enc P W 0 (fun _=>true) true n e vss[i]=some y∧y.1=ds[i]:=by
 rcases open_slice ht h with ⟨hcs,_⟩ | ⟨a,len,cap,m,n,D,Pl,hcs,_,hl,hm,hmm,rfl,hx⟩
 ·simp only [List.cons.injEq,and_true] at hcs
  exact ⟨none,0,0,[],[],[],hcs,zG _,rfl,by simp,Reads.none_,rfl,.inr ⟨rfl,rfl⟩,fun i h1=>absurd h1 (by simp)⟩
 ·simp only [List.cons.injEq,and_true] at hcs
  have hlm:len≤m:=by rw [hmm]; split <;> omega
  have each:∀ i:Nat,∃ cs':List Value,i<len→W.cells? 0 (a.add (i * P.cellsOf e)) (P.cellsOf e)=some cs'∧DataW.trod enc P W 0 (fun _=>true) true n e cs'=some (D i,Pl i):=fun i=>by
   by_cases hi:i<len
   ·obtain ⟨cs',h1,h2⟩:=hx i (by omega)
    exact ⟨cs',fun _=>⟨h1,h2⟩⟩
   ·exact ⟨[],fun h=>absurd h hi⟩
  obtain ⟨f,hf⟩:=Classical.skolem.1 each
  rw [hc] at hf
  have hlen:((List.range len).map f).length=len:=by simp
  have h4:∀ u∈(List.range len).map f,u.length=k:=fun u hu=>by
   obtain ⟨i,hi,rfl⟩:=List.mem_map.1 hu
   exact (World.cells?_some (hf i (by simpa using hi)).1).2.1
  refine ⟨some a,len,cap,(List.range len).map f,(List.range len).map D,_,hcs,hl,hlen,h4,?_,by simp,.inl rfl,fun i h1 h2=>?_⟩
  ·have hfl:((List.range len).map f).flatten.length=len * k:=by rw [flat_len h4,hlen]
   refine ⟨hfl,fun hn=>?_⟩
   obtain ⟨b,o,sp⟩:=a
   have hc0:=(World.cells?_some (hf 0 hn).1).2.2 0 hk
   have hl0:=(World.cells?_some (hf 0 hn).1).2.1
   rw [List.getElem?_eq_getElem (by omega)] at hc0
   have hsp:sp=none:=by simpa [Addr.add] using World.cell?_spot hc0
   subst hsp
   have hadd:∀ o' j,(⟨b,o',none⟩:Addr).add j=⟨b,o'+j,none⟩:=fun o' j=>by unfold Addr.add; split <;> simp_all
   have hbl:b<W.heap.size:=by
    have:=World.block_lt_of_cell? W _ hc0
    simpa [block_of_add] using this
   refine ⟨b,o,rfl,hbl,fun j u hu=>?_⟩
   have hj:j<len * k:=by
    have:=(List.getElem?_eq_some_iff.1 hu).1
    rw [hfl] at this
    exact this
   have hi:j / k<len:=(Nat.div_lt_iff_lt_mul hk).2 hj
   have hr:j % k<k:=Nat.mod_lt _ hk
   have ej:j=j / k * k+j % k:=by rw [Nat.mul_comm]; exact (Nat.div_add_mod j k).symm
   have hg:=flat_get h4 (j / k) (j % k) (by rw [hlen]; exact hi) hr
   rw [← ej] at hg
   rw [hg] at hu
   have hc:=(World.cells?_some (hf (j / k) hi).1).2.2 (j % k) hr
   rw [hadd,hadd,Nat.add_assoc,← ej] at hc
   rw [hc,← hu]
   simp
  ·have hi:i<len:=by rw [hlen] at h1; exact h1
   refine ⟨n,(D i,Pl i),?_,by simp⟩
   have:=(hf i hi).2
   simpa using this
theorem weights_part {fs:Array Field} {parts:List (DataW H)} {j:Nat} {u:TypeId} {d:DataW H} (ht:P.underlying t=some (.struct fs)) (hw:∀ n∈(DataW.agg parts).weights P t,n≤140737488351232)
  (h1:(fs.toList.map (·.type))[j]?=some u) (h2:parts[j]?=some d):∀ n∈d.weights P u,n≤140737488351232:=by
 intro n hn
 apply hw
 simp only [DataW.weights,ht]
 exact DataW.weights_mem_each h1 h2 n hn
theorem weights_elem {ds spare:List (DataW H)} {d:DataW H} (ht:P.underlying t=some (.slice e)) (hw:∀ n∈(DataW.slice ds spare).weights P t,n≤140737488351232) (hd:d∈ds):∀ n∈d.weights P e,n≤140737488351232:=by
 intro n hn
 apply hw
 simp only [DataW.weights,ht]
 exact List.mem_cons_of_mem _ (List.mem_append_left _ (weightsAll_mem hd n hn))
theorem weights_len {ds spare:List (DataW H)} (ht:P.underlying t=some (.slice e)) (hw:∀ n∈(DataW.slice ds spare).weights P t,n≤140737488351232):ds.length * P.bytesOf e≤140737488351232:=by
 have:=hw ((ds.length+spare.length) * P.bytesOf e) (by
  simp only [DataW.weights,ht]
  exact List.mem_cons_self)
 rw [Nat.add_mul] at this
 omega
end
end Go.Proofs.YtmomjpolkkbhnaaGreat.Qy
end

section
namespace Go.Proofs.YtmomjpolkkbhnaaGreat.Mx
open Go.RowKit Go.ChangeShapes Go.WideShapes Go.ChangeAt Go.Deep Go.Joins Ut Tk Qy Ev Qp
section
variable {H:Type} {enc:TypeId × Value→H} {W:World} {base:Nat}
theorem field_cells:Tryz.prog.cellsOf 85=2:=by kernel_rfl
theorem field_bytes:Tryz.prog.bytesOf 85=32:=by kernel_rfl
theorem event_cells:Tryz.prog.cellsOf 46=2:=by kernel_rfl
theorem event_bytes:Tryz.prog.bytesOf 46=32:=by kernel_rfl
theorem string_cells2:Tryz.prog.cellsOf 9=1:=by kernel_rfl
theorem int_cells:Tryz.prog.cellsOf 3=1:=by kernel_rfl
theorem fields_cells:Tryz.prog.cellsOf 44=1:=by kernel_rfl
theorem events_cells:Tryz.prog.cellsOf 35=1:=by kernel_rfl
theorem len_two {α:Type} {l:List α} (h:l.length=2):∃ a b,l=[a,b]:=by
 match l,h with
 | [a,b],_=>exact ⟨a,b,rfl⟩
theorem nil_addr {t e:TypeId} {fuel:Nat} {P:Program} {A:Option Addr} {len cap:Nat} {x:DataW H × List MemPlace} (ht:P.underlying t=some (.slice e)) (h:DataW.trod enc P W 0 (fun _=>true) true fuel t [.slice A len cap]=some x):A=none→cap=0:=by
 rcases open_slice ht h with ⟨hcs,_⟩ | ⟨a,len,cap,m,n,D,Pl,hcs,_⟩
 ·simp only [List.cons.injEq,and_true,Value.slice.injEq] at hcs
  exact fun _=>hcs.2.2
 ·simp only [List.cons.injEq,and_true,Value.slice.injEq] at hcs
  intro h
  rw [h] at hcs
  cases hcs.1
theorem fields_in {fuel:Nat} {v:Value} {x:DataW H × List MemPlace} (h:DataW.trod enc Tryz.prog W 0 (fun _=>true) true fuel 44 [v]=some x) (hw:∀ n∈x.1.weights Tryz.prog 44,n≤140737488351232) :
  ∃ (F:Option Addr) (n c:Nat) (fs:List (ByteArray × ByteArray)),v=.slice F n c∧FlAt W W.heap.size F n c fs:=by
 obtain ⟨A,len,cap,vss,ds,spare,rfl,hl,hv,h2,hR,hd,hx,hall⟩:=slice_at Tryz.underlying44 field_cells (by omega) h
 have hnil:=nil_addr Tryz.underlying44 h
 have each:∀ i:Nat,∃ f:ByteArray × ByteArray,∀ (h1:i<vss.length) (h2:i<ds.length),vss[i]=[.string f.1,.string f.2]∧ds[i]=.agg [.lit (.string f.1.data.toList),.lit (.string f.2.data.toList)]:=fun i=>by
  by_cases hi:i<vss.length∧i<ds.length
  ·obtain ⟨n,y,g1,g2⟩:=hall i hi.1 hi.2
   obtain ⟨y0,y1,n',rfl,hlen,t0,t1⟩:=trod_struct2 Tryz.underlying85 g1
   have hvl:=h2 _ (List.getElem_mem hi.1)
   obtain ⟨u0,u1,hu⟩:=len_two hvl
   rw [hu] at t0 t1
   simp only [string_cells2,List.drop_zero,List.drop_succ_cons,List.take_succ_cons,List.take_zero] at t0 t1
   obtain ⟨s0,e0,rfl,_⟩:=DataW.trod_string Tryz.underlying9 t0
   obtain ⟨s1,e1,rfl,_⟩:=DataW.trod_string Tryz.underlying9 t1
   simp only [List.cons.injEq,and_true] at e0 e1
   subst e0 e1
   exact ⟨(s0,s1),fun _ _=>⟨hu,g2.symm⟩⟩
  ·exact ⟨(ByteArray.empty,ByteArray.empty),fun h1 h2=>absurd ⟨h1,h2⟩ hi⟩
 obtain ⟨f,hf⟩:=Classical.skolem.1 each
 have hlen:((List.range len).map f).length=len:=by simp
 have e:vss.flatten=fldC ((List.range len).map f):=by
  apply List.ext_getElem?
  intro j
  by_cases hj:j<len * 2
  ·have hi:j / 2<vss.length:=by omega
   have hg:=fldC_get ((List.range len).map f) (j / 2) (by rw [hlen]; omega)
   have hfi:=(hf (j / 2) hi (by omega)).1
   have hget:((List.range len).map f)[j / 2]'(by rw [hlen]; omega)=f (j / 2):=by simp
   rw [hget] at hg
   rcases Nat.mod_two_eq_zero_or_one j with e0 | e1
   ·have h0:=flat_get h2 (j / 2) 0 hi (by omega)
    have e:j=j / 2 * 2:=by omega
    rw [hfi,Nat.add_zero] at h0
    rw [e,h0,hg.1]
    rfl
   ·have h0:=flat_get h2 (j / 2) 1 hi (by omega)
    have e:j=j / 2 * 2+1:=by omega
    rw [hfi] at h0
    rw [e,h0,hg.2]
    rfl
  ·rw [List.getElem?_eq_none (by rw [flat_len h2]; omega),List.getElem?_eq_none (by rw [fldC_len,hlen]; omega)]
 rw [e] at hR
 have hbd:len≤8796093021952∧∀ i,i<len→(f i).1.size≤140737488351232∧(f i).2.size≤140737488351232:=by
  rcases hx with hx | ⟨h0,_⟩
  ·rw [hx] at hw
   have h3:=weights_len Tryz.underlying44 hw
   rw [field_bytes] at h3
   refine ⟨by omega,fun i hi=>?_⟩
   have hm:ds[i]'(by omega)∈ds:=List.getElem_mem _
   have h4:=weights_elem Tryz.underlying44 hw hm
   rw [(hf i (by omega) (by omega)).2] at h4
   have g0:=weights_part (j:=0) Tryz.underlying85 h4 rfl rfl (f i).1.data.toList.length (by simp [DataW.weights])
   have g1:=weights_part (j:=1) Tryz.underlying85 h4 rfl rfl (f i).2.data.toList.length (by simp [DataW.weights])
   rw [bsize] at g0 g1
   exact ⟨g0,g1⟩
  ·exact ⟨by omega,fun i hi=>by omega⟩
 exact ⟨A,len,cap,_,rfl,hR,hlen,hbd.1,hl,fun s hs=>by
  obtain ⟨i,hi,rfl⟩:=List.mem_map.1 hs
  exact hbd.2 i (by simpa using hi),hnil⟩
end
end Go.Proofs.YtmomjpolkkbhnaaGreat.Mx
end
