/- SLICED by slice.py -/
import Derived.Deep.CutRange
import Derived.Test.YtlfpfkallgkjdaaGreatQAlertRunsRow29
import Derived.Test.YtlfpfkallgkjdaaGreatQAlertRunsRow4
import Derived.Test.YtlfpfkallgkjdaaGreatQAlertRunsRow34
import Derived.Test.YtlfpfkallgkjdaaGreatQAlertRunsRow15
set_option linter.unusedSimpArgs false
set_option linter.unusedVariables false
set_option maxRecDepth 40000
section
namespace Go.Proofs.YtlfpfkallgkjdaaGreat.Ev
open Go.RowKit Ut Tk Qy Qp
structure DOwnB (w:World) (base B:Nat) (v:Value) (ds:List Dc):Prop where
 ex:∃ vss:List (List Value),vss.length=ds.length∧w.ownsRow base 132 3 v ds.length vss.flatten∧∀ i (h:i<ds.length) (h':i<vss.length),DcS w (·<B) ds[i] vss[i]
theorem DOwnB.start (w:World) (base B:Nat):DOwnB w base B (.slice none 0 0) []:=⟨[],rfl,World.ownsRow_nil _ _ _ _,fun i h=>absurd h (by simp)⟩
theorem DOwnB.below {w w':World} {base B:Nat} {v:Value} {ds:List Dc} (h:DOwnB w base B v ds) (hb:Below w.heap.size w w') (hB:B≤w.heap.size):DOwnB w' base B v ds:=by
 obtain ⟨vss,h1,h2,h3⟩:=h.ex
 exact ⟨vss,h1,h2.kept (grow_of_below hb none) (by cases hv:v.ownBlock <;> simp),fun i a b=>(h3 i a b).same (fun b hS=>⟨hS,hb.block b (Nat.lt_of_lt_of_le hS hB)⟩)⟩
theorem DOwnB.put {w w5:World} {base B:Nat} {v v':Value} {ds:List Dc} {d:Dc} {u:List Value} {xs:List Value} (hx:∃ vss:List (List Value),vss.length=ds.length∧w.ownsRow base 132 3 v ds.length vss.flatten∧(∀ i (h:i<ds.length) (h':i<vss.length),DcS w (·<B) ds[i] vss[i])∧xs=vss.flatten)
  (hp:w5.ownsRow base 132 3 v' (ds.length+1) (xs ++ u)) (hg:w.grownBy w5 v.ownBlock) (hd:DcS w (·<B) d u) (hB:B≤base) (hw:base≤w.heap.size):DOwnB w5 base B v' (ds ++ [d]):=by
 obtain ⟨vss,h1,h2,h3,rfl⟩:=hx
 have keep:∀ b,b<B→b<B∧w5.heap[b]?=w.heap[b]?:=fun b hS=>⟨hS,hg.block b (by omega) (fun e=>by
  have:=(h2.lt b e.symm).1
  omega)⟩
 refine ⟨vss ++ [u],by simp [h1],?_,fun i a b=>?_⟩
 ·rw [List.flatten_append,List.length_append]
  simpa using hp
 ·by_cases hi:i<ds.length
  ·rw [List.getElem_append_left hi,List.getElem_append_left (by omega)]
   exact (h3 i hi (by omega)).same keep
  ·have hi':i=ds.length:=by simp at a; omega
   subst hi'
   rw [List.getElem_append_right (by omega),List.getElem_append_right (by omega)]
   simp only [Nat.sub_self,h1,List.getElem_cons_zero]
   exact hd.same keep
theorem DOwnB.mono {w:World} {base base' B:Nat} {v:Value} {ds:List Dc} (h:DOwnB w base B v ds) (hb:base'≤base):DOwnB w base' B v ds:=by
 obtain ⟨vss,h1,h2,h3⟩:=h.ex
 exact ⟨vss,h1,own_mono h2 hb,h3⟩
end Go.Proofs.YtlfpfkallgkjdaaGreat.Ev
end

section
namespace Go.Proofs.YtlfpfkallgkjdaaGreat.Mx
open Go.RowKit Ut Tk Qy Ev Qp Mv
structure RIx (w:World) (Rr:Nat→Prop) (B:Nat) (A:Option Addr) (n c:Nat) (ds:List Dc):Prop where
 rd:DocsS w Rr (fun b=>Rr b∨b<B) A n ds
 cap:n≤c
 nl:A=none→c=0
 lt:∀ b,Rr b→b<w.heap.size
 bw:B≤w.heap.size
theorem RIx.below {w w':World} {Rr Rr':Nat→Prop} {B:Nat} {A:Option Addr} {n c:Nat} {ds:List Dc} (h:RIx w Rr B A n c ds) (hb:Below w.heap.size w w') (hR:∀ b,Rr b→Rr' b) (hL:∀ b,Rr' b→b<w'.heap.size):RIx w' Rr' B A n c ds :=
 ⟨h.rd.same (fun b hr=>⟨hR b hr,hb.block b (h.lt b hr)⟩) (fun b hr=>⟨hr.imp (hR b) id,hb.block b (hr.elim (h.lt b) (fun q=>Nat.lt_of_lt_of_le q h.bw))⟩),h.cap,h.nl,hL,Nat.le_trans h.bw hb.size⟩
end Go.Proofs.YtlfpfkallgkjdaaGreat.Mx
end
