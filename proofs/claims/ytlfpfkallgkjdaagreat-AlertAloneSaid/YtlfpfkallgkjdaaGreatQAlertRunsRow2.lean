/- Maps in memory, their values as they stand. (No walk.) -/
import Derived.Maps.OwnSet
import Derived.Maps.RangeWalk
import Derived.Test.YtlfpfkallgkjdaaGreatProg
import Derived.Lib.Hide
import Derived.Laws.StructEq
import Derived.RegionTactic
import Derived.ChangeAlike
import Derived.BigRegion
import Derived.Outline
import Derived.BigQuiet
import Derived.Deep.QuietTactic
import Derived.Test.YtlfpfkallgkjdaaGreatQAlertRunsRow0
import Derived.Test.YtlfpfkallgkjdaaGreatQAlertRunsRow4
import Derived.Test.YtlfpfkallgkjdaaGreatQAlertRunsRow24
import Derived.Test.YtlfpfkallgkjdaaGreatQAlertRunsRow25
import Derived.Test.YtlfpfkallgkjdaaGreatQAlertRunsRow12
set_option linter.unusedSimpArgs false
set_option linter.unusedVariables false
set_option maxRecDepth 20000
section
namespace Go.Proofs.YtlfpfkallgkjdaaGreat.Mv
open Go.RowKit Go.Maps
def rawR (v:Value):Option (DataW Value × List MemPlace):=some (.held v,[])
theorem rawR_mk (v:Value):rawR v=some (.held v,[]):=rfl
theorem rawR_inv {v:Value} {d:DataW Value} {ps:List MemPlace} (h:rawR v=some (d,ps)):d=.held v:=by
 unfold rawR at h
 injection h with h
 injection h with h _
 exact h.symm
structure KeyLit (κ:Type) where
 lit : κ→Lit
 val : κ→Value
 inj:∀ a b,lit a=lit b→a=b
 key:∀ a,WideAt.IsKeyLit (lit a)
def litS:KeyLit ByteArray where
 lit s:=.string s.data.toList
 val s:=.string s
 inj a b h:=by
  injection h with h
  have h3:a.data=b.data:=Array.toList_inj.1 h
  cases a; cases b; simp at h3; rw [h3]
 key a:=by simp [WideAt.IsKeyLit]
def litI:KeyLit Int where
 lit i:=.int .i64 i
 val i:=.int .i64 i
 inj a b h:=by injection h
 key a:=by simp [WideAt.IsKeyLit]
section
variable {κ:Type} (L:KeyLit κ)
theorem same_dec [DecidableEq κ] (a b : κ):(L.lit a).sameKey (L.lit b)=decide (a=b):=by
 by_cases h:a=b
 ·subst h
  rw [WideAt.sameKey_self (L.key a)]
  simp
 ·rw [Maps.sameKey_ne (fun e=>h (L.inj _ _ e)),decide_eq_false h]
structure TabV (D:DataW Value) (f : κ→Option Value):Prop where
 has:∀ s,Maps.has D (L.lit s)=(f s).isSome
 val:∀ s v,f s=some v→∀ z,D.atKey (L.lit s) z=.held v
 key:∀ kl,Maps.has D kl=true→∃ s,kl=L.lit s
variable {L}
def noV : κ→Option Value:=fun _=>none
def putV [DecidableEq κ] (f : κ→Option Value) (s : κ) (v:Value) : κ→Option Value:=fun t=>if t=s then some v else f t
def delV [DecidableEq κ] (f : κ→Option Value) (s : κ) : κ→Option Value:=fun t=>if t=s then none else f t
theorem TabV.none:TabV L (.map []) noV:=⟨fun s=>rfl,fun s n h=>(nomatch h),fun kl h=>(nomatch h)⟩
theorem TabV.put [DecidableEq κ] {D:DataW Value} {f : κ→Option Value} (h:TabV L D f) (hm:IsMap D) (s : κ) (n:Value):TabV L (D.put (L.lit s) (.held n)) (putV f s n):=by
 refine ⟨fun t=>?_,fun t m ht z=>?_,fun kl hk=>?_⟩
 ·unfold putV
  by_cases e:t=s
  ·subst e
   rw [has_put_same hm (L.key t),if_pos rfl]; rfl
  ·rw [has_put_other (fun e'=>e (L.inj _ _ e')),if_neg e]; exact h.has t
 ·unfold putV at ht
  by_cases e:t=s
  ·subst e
   rw [if_pos rfl] at ht
   injection ht with ht
   rw [atKey_put_same hm (L.key t),ht]
  ·rw [if_neg e] at ht
   rw [atKey_put_other (fun e'=>e (L.inj _ _ e'))]
   exact h.val t m ht z
 ·by_cases e:kl=L.lit s
  ·exact ⟨s,e⟩
  ·rw [has_put_other e] at hk
   exact h.key kl hk
theorem TabV.del [DecidableEq κ] {D:DataW Value} {f : κ→Option Value} (h:TabV L D f) (s : κ):TabV L (D.del (L.lit s)) (delV f s):=by
 refine ⟨fun t=>?_,fun t m ht z=>?_,fun kl hk=>?_⟩
 ·unfold delV
  by_cases e:t=s
  ·subst e
   rw [has_del_same,if_pos rfl]; rfl
  ·rw [has_del_other (fun e'=>e (L.inj _ _ e')),if_neg e]; exact h.has t
 ·unfold delV at ht
  by_cases e:t=s
  ·subst e
   rw [if_pos rfl] at ht
   cases ht
  ·rw [if_neg e] at ht
   rw [atKey_del_other (fun e'=>e (L.inj _ _ e'))]
   exact h.val t m ht z
 ·by_cases e:kl=L.lit s
  ·subst e
   rw [has_del_same] at hk
   cases hk
  ·rw [has_del_other e] at hk
   exact h.key kl hk
theorem TabV.at_ {D:DataW Value} {f : κ→Option Value} (h:TabV L D f) {s : κ} {z v:Value} (hv:D.atKey (L.lit s) (.held z)=.held v):v=(f s).getD z:=by
 cases e:f s with
 | none =>
  have:Maps.has D (L.lit s)=false:=by rw [h.has,e]; rfl
  rw [atKey_of_not_has this] at hv
  injection hv with hv
  exact hv.symm
 | some n =>
  rw [h.val s n e] at hv
  injection hv with hv
  exact hv.symm
theorem TabV.congr {D:DataW Value} {f g : κ→Option Value} (h:TabV L D f) (e:∀ s,f s=g s):TabV L D g:=⟨fun s=>by rw [h.has,e],fun s v hv=>h.val s v (by rw [e]; exact hv),h.key⟩
end
structure MapV {κ:Type} (P:Program) (k:TypeId) (L:KeyLit κ) (w:World) (b n:Nat) (f : κ→Option Value):Prop where
 ex:∃ D,w.ownsMap P k rawR b n D∧TabV L D f
section
variable {κ:Type} {P:Program} {k:TypeId} {L:KeyLit κ} {w w':World} {b n:Nat} {f g : κ→Option Value}
theorem MapV.made (P:Program) (k:TypeId) (L:KeyLit κ) (w:World):MapV P k L (w.alloc (.map #[] 0)) w.heap.size 0 noV:=⟨⟨_,World.ownsMap_made w P k rawR,TabV.none⟩⟩
theorem MapV.kept {row:Option Nat} (h:MapV P k L w b n f) (hg:w.grownBy w' row) (hne:some b≠row):MapV P k L w' b n f:=by
 obtain ⟨D,h1,h2⟩:=h.ex
 exact ⟨⟨D,h1.kept hg hne,h2⟩⟩
theorem MapV.below (h:MapV P k L w b n f) (hb:Below w.heap.size w w'):MapV P k L w' b n f:=h.kept (grow_of_below hb none) (by simp)
theorem MapV.lt (h:MapV P k L w b n f):b<w.heap.size:=by
 obtain ⟨D,h1,_⟩:=h.ex
 exact h1.lt
theorem MapV.same (h:MapV P k L w b n f) (e:w'.heap[b]?=w.heap[b]?):MapV P k L w' b n f:=by
 obtain ⟨D,⟨es,clock,hb,r⟩,h2⟩:=h.ex
 exact ⟨⟨D,⟨es,clock,e.trans hb,r⟩,h2⟩⟩
theorem MapV.congr (h:MapV P k L w b n f) (e:∀ s,f s=g s):MapV P k L w b n g:=by
 obtain ⟨D,h1,h2⟩:=h.ex
 exact ⟨⟨D,h1,h2.congr e⟩⟩
theorem MapV.more (h:MapV P k L w b n f) {n':Nat} (hn:n≤n'):MapV P k L w b n' f:=by
 obtain ⟨D,h1,h2⟩:=h.ex
 exact ⟨⟨D,h1.mono hn,h2⟩⟩
theorem MapV.obj (h:MapV P k L w b n f):∃ es clock,w.heap[b]?=some (.map es clock):=by
 obtain ⟨D,⟨es,clock,hb,_⟩,_⟩:=h.ex
 exact ⟨es,clock,hb⟩
theorem MapV.look {t e:TypeId} (h:MapV P k L w b n f) (K:Keyed P k) (ht:P.underlying t=some (.map k e)) {z:Value} (hz:(zeroValue e).run P w=.ok z w) (s : κ) (hkey:keyOf P k (L.val s)=some (L.lit s)) :
  (Instr.lookup t (.map (some b)) (L.val s) false).run P w=.ok ((f s).getD z) w:=by
 obtain ⟨D,h1,h2⟩:=h.ex
 obtain ⟨v,ps,hrun,hv⟩:=h1.lookup K ht hz (rawR_mk z) hkey
 rw [hrun,h2.at_ (rawR_inv hv)]
theorem MapV.look2 {t e:TypeId} (h:MapV P k L w b n f) (K:Keyed P k) (ht:P.underlying t=some (.map k e)) {z:Value} (hz:(zeroValue e).run P w=.ok z w) (s : κ) (hkey:keyOf P k (L.val s)=some (L.lit s)) :
  (Instr.lookup t (.map (some b)) (L.val s) true).run P w=.ok (.tuple #[(f s).getD z,.bool (f s).isSome]) w:=by
 obtain ⟨D,h1,h2⟩:=h.ex
 obtain ⟨v,ps,hrun,hv⟩:=h1.look_ok K ht hz (rawR_mk z) hkey
 rw [hrun,h2.at_ (rawR_inv hv),h2.has]
theorem MapV.set [DecidableEq κ] {t e:TypeId} (h:MapV P k L w b n f) (K:Keyed P k) (ht:P.underlying t=some (.map k e)) (hn:n<maxLen) (s : κ) (hkey:keyOf P k (L.val s)=some (L.lit s)) (v:Value) :
  ∃ w',(Instr.mapUpdate t (.map (some b)) (L.val s) v).run P w=.ok () w'∧MapV P k L w' b (n+1) (putV f s v)∧w.grownBy w' (some b):=by
 obtain ⟨D,h1,h2⟩:=h.ex
 obtain ⟨w',r1,r2,r3⟩:=h1.update K ht hn hkey (rawR_mk v)
 exact ⟨w',r1,⟨_,r2,h2.put h1.isMap s v⟩,r3⟩
end
theorem wpList_set_v {κ:Type} [DecidableEq κ] {P:Program} {k:TypeId} {L:KeyLit κ} {w:World} {ops:Array Oper} {rest:List Oper} {o:Oper} {a:Act} {Q:Exit→Act→World→Prop}
  (hg:o.guard=none) (m x v:Operand) (t e:TypeId) (hop:o.op=Op.mapUpdate t m x v) (K:Keyed P k) (ht:P.underlying t=some (.map k e)) (b n:Nat) (f : κ→Option Value)
  (hm:a.eval m=.map (some b)) (h:MapV P k L w b n f) (hn:n<maxLen) (s : κ) (val:Value) (hx:a.eval x=L.val s) (hv:a.eval v=val) (hkey:keyOf P k (L.val s)=some (L.lit s))
  (hK:∀ w',MapV P k L w' b (n+1) (putV f s val)→w.grownBy w' (some b)→wpList P ops Q rest (a.put o.dst undef) w'):wpList P ops Q (o :: rest) a w:=by
 refine wpList_plain hg fun K' hK'=>?_
 obtain ⟨w',hrun,r1,r2⟩:=h.set K ht hn s hkey val
 unfold Oper.wp
 simp [execOp,hop,hm,hx,hv,hrun,Result.andThen]
 exact hK' _ _ (hK w' r1 r2)
theorem wpList_look_v {κ:Type} {P:Program} {k:TypeId} {L:KeyLit κ} {w:World} {ops:Array Oper} {rest:List Oper} {o:Oper} {a:Act} {Q:Exit→Act→World→Prop}
  (hg:o.guard=none) (m x:Operand) (t e:TypeId) (hop:o.op=Op.lookup t m x false) (K:Keyed P k) (ht:P.underlying t=some (.map k e)) {z:Value} (hz:(zeroValue e).run P w=.ok z w) (b n:Nat) (f : κ→Option Value)
  (hm:a.eval m=.map (some b)) (h:MapV P k L w b n f) (s : κ) (hx:a.eval x=L.val s) (hkey:keyOf P k (L.val s)=some (L.lit s)) (v:Value) (hfv:(f s).getD z=v)
  (hK:wpList P ops Q rest (a.put o.dst v) w):wpList P ops Q (o :: rest) a w:=by
 refine wpList_plain hg fun K' hK'=>?_
 have hrun:=h.look K ht hz s hkey
 unfold Oper.wp
 simp [execOp,hop,hm,hx,hrun,Result.andThen]
 rw [hfv]
 exact hK' _ _ hK
theorem wpList_look2_v {κ:Type} {P:Program} {k:TypeId} {L:KeyLit κ} {w:World} {ops:Array Oper} {rest:List Oper} {o:Oper} {a:Act} {Q:Exit→Act→World→Prop}
  (hg:o.guard=none) (m x:Operand) (t e:TypeId) (hop:o.op=Op.lookup t m x true) (K:Keyed P k) (ht:P.underlying t=some (.map k e)) {z:Value} (hz:(zeroValue e).run P w=.ok z w) (b n:Nat) (f : κ→Option Value)
  (hm:a.eval m=.map (some b)) (h:MapV P k L w b n f) (s : κ) (hx:a.eval x=L.val s) (hkey:keyOf P k (L.val s)=some (L.lit s)) (v:Value) (ok:Bool) (hfv:(f s).getD z=v) (hfo:(f s).isSome=ok)
  (hK:wpList P ops Q rest (a.put o.dst (.tuple #[v,.bool ok])) w):wpList P ops Q (o :: rest) a w:=by
 refine wpList_plain hg fun K' hK'=>?_
 have hrun:=h.look2 K ht hz s hkey
 unfold Oper.wp
 simp [execOp,hop,hm,hx,hrun,Result.andThen]
 rw [hfv,hfo]
 exact hK' _ _ hK
end Go.Proofs.YtlfpfkallgkjdaaGreat.Mv
end

section
namespace Go.Proofs.YtlfpfkallgkjdaaGreat.Qy
open Go.RowKit
structure Dc where
 seq:Int
 at_:Int
 fs:List (ByteArray × ByteArray)
def DcV (w:World) (B:Nat) (d:Dc) (v:List Value):Prop:=∃ F fn fc,v=[.int .i64 d.seq,.int .i64 d.at_,.slice F fn fc]∧Reads w B 2 F fn (fldC d.fs)∧d.fs.length=fn∧fn≤8796093021952∧fn≤fc∧(F=none→fc=0)
theorem DcV.len {w:World} {B:Nat} {d:Dc} {v:List Value} (h:DcV w B d v):v.length=3:=by obtain ⟨F,fn,fc,rfl,_⟩:=h; rfl
theorem DcV.keep {w w':World} {B:Nat} {d:Dc} {v:List Value} (h:DcV w B d v) (hk:∀ b o,b<B→w'.cell? ⟨b,o,none⟩=w.cell? ⟨b,o,none⟩):DcV w' B d v:=by
 obtain ⟨F,fn,fc,e,h1,h2⟩:=h
 exact ⟨F,fn,fc,e,h1.keep hk,h2⟩
theorem DcV.more {w:World} {B B':Nat} {d:Dc} {v:List Value} (h:DcV w B d v) (hB:B≤B'):DcV w B' d v:=by
 obtain ⟨F,fn,fc,e,h1,h2⟩:=h
 exact ⟨F,fn,fc,e,h1.more hB,h2⟩
structure DocsAt (w:World) (B:Nat) (A:Option Addr) (n:Nat) (ds:List Dc):Prop where
 ln:ds.length=n
 ex:∃ vss:List (List Value),vss.length=n∧Reads w B 3 A n vss.flatten∧∀ i (h:i<ds.length) (h':i<vss.length),DcV w B ds[i] vss[i]
theorem DocsAt.keep {w w':World} {B n:Nat} {A:Option Addr} {ds:List Dc} (h:DocsAt w B A n ds) (hk:∀ b o,b<B→w'.cell? ⟨b,o,none⟩=w.cell? ⟨b,o,none⟩):DocsAt w' B A n ds:=by
 obtain ⟨vss,h1,h2,h3⟩:=h.ex
 exact ⟨h.ln,vss,h1,h2.keep hk,fun i a b=>(h3 i a b).keep hk⟩
theorem DocsAt.more {w:World} {B B' n:Nat} {A:Option Addr} {ds:List Dc} (h:DocsAt w B A n ds) (hB:B≤B'):DocsAt w B' A n ds:=by
 obtain ⟨vss,h1,h2,h3⟩:=h.ex
 exact ⟨h.ln,vss,h1,h2.more hB,fun i a b=>(h3 i a b).more hB⟩
theorem DocsAt.grow {w w':World} {n:Nat} {A:Option Addr} {ds:List Dc} (h:DocsAt w w.heap.size A n ds) (hb:Below w.heap.size w w'):DocsAt w' w'.heap.size A n ds:=(h.keep fun _ _ hp=>hb.cell hp).more hb.size
theorem DocsAt.nil {w:World} {B:Nat} {A:Option Addr}:DocsAt w B A 0 []:=⟨rfl,[],rfl,⟨by simp,fun h=>absurd h (by omega)⟩,fun i h=>absurd h (by simp)⟩
theorem DocsAt.at_ {w:World} {B n:Nat} {A:Option Addr} {ds:List Dc} (h:DocsAt w B A n ds) {i:Nat} (hi:i<ds.length) :
  ∃ b o F fn fc,A=some ⟨b,o,none⟩∧b<B∧w.cell? ⟨b,o+i * 3,none⟩=some (.int .i64 ds[i].seq)∧w.cell? ⟨b,o+i * 3+1,none⟩=some (.int .i64 ds[i].at_)∧w.cell? ⟨b,o+i * 3+2,none⟩=some (.slice F fn fc) ∧
   Reads w B 2 F fn (fldC ds[i].fs)∧ds[i].fs.length=fn∧fn≤8796093021952∧fn≤fc∧(F=none→fc=0):=by
 obtain ⟨vss,h1,h2,h3⟩:=h.ex
 have hl:=h.ln
 have hi':i<vss.length:=by omega
 have h4:∀ v∈vss,v.length=3:=fun v hv=>by
  obtain ⟨j,hj,rfl⟩:=List.mem_iff_getElem.1 hv
  exact (h3 j (by omega) hj).len
 obtain ⟨F,fn,fc,e,g1,g2,g3,g4⟩:=h3 i hi hi'
 obtain ⟨b,o,eA,hb,hc⟩:=h2.2 (by omega)
 have f0:=flat_get h4 i 0 hi' (by omega)
 have f1:=flat_get h4 i 1 hi' (by omega)
 have f2:=flat_get h4 i 2 hi' (by omega)
 rw [e] at f0 f1 f2
 have c0:=hc _ _ f0
 have c1:=hc _ _ f1
 have c2:=hc _ _ f2
 rw [← Nat.add_assoc] at c1 c2
 exact ⟨b,o,F,fn,fc,eA,hb,c0,c1,c2,g1,g2,g3,g4⟩
def Far (w:World) (base:Nat) (v:List Value):Prop:=∀ F fn fc,v[2]?=some (.slice F fn fc)→0<fn→∃ b o,F=some ⟨b,o,none⟩∧(b<base∨∃ cs fr,w.heap[b]?=some (.cells cs 99 fr))
structure DocsOwn (w wr:World) (v:Value) (ds:List Dc):Prop where
 ex:∃ vss:List (List Value),vss.length=ds.length∧wr.ownsRow w.heap.size 132 3 v ds.length vss.flatten∧∀ i (h:i<ds.length) (h':i<vss.length),DcV wr wr.heap.size ds[i] vss[i]∧Far wr w.heap.size vss[i]
 bel:Below w.heap.size w wr
theorem DocsOwn.start (w:World):DocsOwn w w (.slice none 0 0) []:=⟨⟨[],rfl,World.ownsRow_nil _ _ _ _,fun i h=>absurd h (by simp)⟩,Below.refl _ _⟩
theorem Far.grown {w w':World} {base:Nat} {v:List Value} {row:Option Nat} (h:Far w base v) (hg:w.grownBy w' row) (hr:∀ b,row=some b→base≤b∧∀ cs fr,w.heap[b]?≠some (.cells cs 99 fr)):Far w' base v:=by
 intro F fn fc hv hn
 obtain ⟨b,o,e,h1 | ⟨cs,fr,h1⟩⟩:=h F fn fc hv hn
 ·exact ⟨b,o,e,.inl h1⟩
 ·refine ⟨b,o,e,.inr ⟨cs,fr,?_⟩⟩
  have hlt:b<w.heap.size:=(Array.getElem?_eq_some_iff.1 h1).1
  rw [hg.block b hlt (fun er=>(hr b er.symm).2 cs fr h1)]
  exact h1
theorem Far.below {w w':World} {base:Nat} {v:List Value} (h:Far w base v) (hb:Below w.heap.size w w'):Far w' base v:=h.grown (grow_of_below hb none) (fun b e=>by cases e)
theorem DocsOwn.below {w wr w2:World} {v:Value} {ds:List Dc} (h:DocsOwn w wr v ds) (hb:Below wr.heap.size wr w2):DocsOwn w w2 v ds:=by
 obtain ⟨vss,h1,h2,h3⟩:=h.ex
 exact ⟨⟨vss,h1,h2.kept (grow_of_below hb none) (by cases hv:v.ownBlock <;> simp),fun i a b=>⟨((h3 i a b).1.keep fun _ _ hp=>hb.cell hp).more hb.size,(h3 i a b).2.below hb⟩⟩,h.bel.trans (hb.mono h.bel.size)⟩
theorem own_block {w:World} {base:Nat} {e:TypeId} {size n:Nat} {v:Value} {xs:List Value} (h:w.ownsRow base e size v n xs):∀ b,v.ownBlock=some b→base≤b∧∃ cur,w.heap[b]?=some (.cells cur e (0,0)):=by
 intro b hb
 rcases h.2 with ⟨rfl,_⟩ | ⟨g,cap,cur,rfl,h1,h2,_⟩
 ·cases hb
 ·injection hb with hb
  subst hb
  exact ⟨h1,cur,h2⟩
theorem DocsOwn.put {w wr w2:World} {v v':Value} {ds:List Dc} {d:Dc} {u:List Value} {xs:List Value} (h:DocsOwn w wr v ds) (hx:∃ vss:List (List Value),vss.length=ds.length∧wr.ownsRow w.heap.size 132 3 v ds.length vss.flatten∧(∀ i (h:i<ds.length) (h':i<vss.length),DcV wr wr.heap.size ds[i] vss[i]∧Far wr w.heap.size vss[i])∧xs=vss.flatten)
  (hp:w2.ownsRow w.heap.size 132 3 v' (ds.length+1) (xs ++ u)) (hg:wr.grownBy w2 v.ownBlock) (hd:DcV wr wr.heap.size d u) (hf:Far wr w.heap.size u):DocsOwn w w2 v' (ds ++ [d]):=by
 obtain ⟨vss,h1,h2,h3,rfl⟩:=hx
 have hown:=own_block h2
 have hr:∀ b,v.ownBlock=some b→w.heap.size≤b∧∀ cs fr,wr.heap[b]?≠some (.cells cs 99 fr):=fun b hb=>by
  obtain ⟨h4,cur,h5⟩:=hown b hb
  refine ⟨h4,fun cs fr e=>?_⟩
  rw [h5] at e
  injection e with e
  injection e with _ e
  exact absurd e (by decide)
 have keep:∀ (d:Dc) (u:List Value),DcV wr wr.heap.size d u→Far wr w.heap.size u→DcV w2 w2.heap.size d u:=fun d u hd hf=>by
  obtain ⟨F,fn,fc,rfl,g1,g2,g3,g4⟩:=hd
  refine ⟨F,fn,fc,rfl,(g1.grown hg (zG _) ?_).more hg.size,g2,g3,g4⟩
  intro b o e hn er
  obtain ⟨b',o',e',h4⟩:=hf F fn fc rfl hn
  rw [e] at e'
  injection e' with e'
  injection e' with e1 e2
  subst e1
  obtain ⟨h5,h6⟩:=hr b er.symm
  rcases h4 with h4 | ⟨cs,fr,h4⟩
  ·omega
  ·exact h6 cs fr h4
 refine ⟨⟨vss ++ [u],by simp [h1],?_,fun i a b=>?_⟩,h.bel.grown hg h.bel.size (fun k hk=>(hr k hk).1)⟩
 ·rw [List.flatten_append,List.length_append]
  simpa using hp
 ·by_cases hi:i<ds.length
  ·rw [List.getElem_append_left hi,List.getElem_append_left (by omega)]
   have:=h3 i hi (by omega)
   exact ⟨keep _ _ this.1 this.2,this.2.grown hg hr⟩
  ·have hi':i=ds.length:=by simp at a; omega
   subst hi'
   rw [List.getElem_append_right (by omega),List.getElem_append_right (by omega)]
   simp only [Nat.sub_self,h1,List.getElem_cons_zero]
   exact ⟨keep _ _ hd hf,hf.grown hg hr⟩
end Go.Proofs.YtlfpfkallgkjdaaGreat.Qy
end

section
namespace Go.Proofs.YtlfpfkallgkjdaaGreat.Tk
open Go.RowKit Ut
theorem sv_get (ws:List (List UInt8)) (k:Nat) (h:k<ws.length):(sv ws)[k]?=some (.string (str ws[k])):=by simp [sv,List.getElem?_eq_getElem h]
def ct (n:Nat) (s:ByteArray):ByteArray:=s.extract 0 (min s.size n)
end Go.Proofs.YtlfpfkallgkjdaaGreat.Tk
end

section
namespace Go.Proofs.YtlfpfkallgkjdaaGreat.Qy
open Go.RowKit Ut Tk
theorem own_succ {w:World} {base:Nat} {e:TypeId} {size n:Nat} {v:Value} {xs:List Value} (h:w.ownsRow base e size v (n+1) xs):∃ g q,v=.slice (some ⟨g,0,none⟩) (n+1) q:=by
 rcases h.2 with ⟨_,h0⟩ | ⟨g,cap,cur,hv,_⟩
 ·omega
 ·exact ⟨g,cap,hv⟩
theorem grownBy_setC (w:World) (h o:Nat) (u:Value):w.grownBy (w.setCell ⟨h,o,none⟩ u) (some h) :=
 ⟨rfl,rfl,rfl,by simp [World.setCell],fun k _ hne=>Below.heap_setCell _ _ _ _ (fun e=>hne (by rw [e]))⟩
theorem own_shape2 {w:World} {base:Nat} {e:TypeId} {size n:Nat} {v:Value} {xs:List Value} (h:w.ownsRow base e size v n xs) :
  ∃ A c,v=.slice A n c∧Reads w w.heap.size size A n xs∧n≤c∧(A=none→c=0)∧(0<n→∃ g,A=some ⟨g,0,none⟩∧∃ cur,w.heap[g]?=some (.cells cur e (0,0))):=by
 obtain ⟨A,c,rfl,hR⟩:=own_shape h
 refine ⟨A,c,rfl,hR,?_⟩
 rcases h.2 with ⟨hv,h0⟩ | ⟨g,cap,cur,hv,_,hg,hnc,_⟩
 ·injection hv with _ _ hc
  exact ⟨by omega,fun _=>hc,fun h=>by omega⟩
 ·injection hv with hA _ hc
  exact ⟨by omega,fun e=>(by rw [hA] at e; cases e),fun _=>⟨g,hA,cur,hg⟩⟩
structure Flds (wo wq:World) (pd:Nat) (s a:Int) (fs:List (ByteArray × ByteArray)):Prop where
 ex:∃ v,Blk wq pd 132 #[.int .i64 s,.int .i64 a,v]∧wq.ownsRow (wo.heap.size+1) 99 2 v fs.length (fldC fs)
 bel:Below wo.heap.size wo wq
 ge:pd=wo.heap.size
end Go.Proofs.YtlfpfkallgkjdaaGreat.Qy
end

section
namespace Go.Proofs.YtlfpfkallgkjdaaGreat.Ev
open Go.RowKit Ut Tk Qy
structure FlAt (w:World) (B:Nat) (F:Option Addr) (fn fc:Nat) (fs:List Fl):Prop where
 rd:Reads w B 2 F fn (fldC fs)
 len:fs.length=fn
 few:fn≤8796093021952
 cap:fn≤fc
 sz:∀ f∈fs,f.1.size≤140737488351232∧f.2.size≤140737488351232
 nl:F=none→fc=0
theorem FlAt.keep {w w':World} {B:Nat} {F:Option Addr} {fn fc:Nat} {fs:List Fl} (h:FlAt w B F fn fc fs) (hk:∀ b o,b<B→w'.cell? ⟨b,o,none⟩=w.cell? ⟨b,o,none⟩):FlAt w' B F fn fc fs:=⟨h.rd.keep hk,h.len,h.few,h.cap,h.sz,h.nl⟩
theorem FlAt.more {w:World} {B B':Nat} {F:Option Addr} {fn fc:Nat} {fs:List Fl} (h:FlAt w B F fn fc fs) (hB:B≤B'):FlAt w B' F fn fc fs:=⟨h.rd.more hB,h.len,h.few,h.cap,h.sz,h.nl⟩
theorem FlAt.grow {w w':World} {F:Option Addr} {fn fc:Nat} {fs:List Fl} (h:FlAt w w.heap.size F fn fc fs) (hb:Below w.heap.size w w'):FlAt w' w'.heap.size F fn fc fs:=(h.keep fun _ _ hp=>hb.cell hp).more hb.size
theorem FlAt.at_ {w:World} {B:Nat} {F:Option Addr} {fn fc:Nat} {fs:List Fl} (h:FlAt w B F fn fc fs) {k:Nat} (hk:k<fs.length) :
  ∃ b o,F=some ⟨b,o,none⟩∧b<B∧w.cell? ⟨b,o+k * 2,none⟩=some (.string fs[k].1)∧w.cell? ⟨b,o+k * 2+1,none⟩=some (.string fs[k].2):=Qy.fields_at h.rd hk
theorem drop_at {α:Type} (l:List α) (k:Nat) (h:k<l.length):l.drop k=l[k] :: l.drop (k+1):=List.drop_eq_getElem_cons h
theorem name_any (s:ByteArray) (w:World) (hs:s.size≤140737488351232):Calls Tryz.prog 71 #[.string s] w fun e w'=>e=.returned (.bool (isN s.data.toList))∧Below w.heap.size w w':=by
 have c:=isName_anyB s w hs
 go_enter Tryz.func71,Tryz.ntmps71
 go_wp2_with fail
 refine c.mono ?_
 rintro e w' ⟨rfl,hb⟩
 go_wp2
 go_ret
 exact ⟨rfl,hb⟩
set_option maxHeartbeats 1600000 in
theorem check_any (t:Int) (F:Option Addr) (fn fc:Nat) (fs:List Fl) (w:World) (h:FlAt w w.heap.size F fn fc fs) :
  Calls Tryz.prog 39 #[.agg #[.int .i64 t,.slice F fn fc]] w fun e w'=>e=.returned (.int .i64 (chkE fs))∧Below w.heap.size w w':=by
 have hl:=h.len
 have hl1:fs.length≤fn:=by omega
 have hl2:fn≤fs.length:=by omega
 have hcap:=h.cap
 have hfew:=h.few
 have Fin:Hid (chkE fs=if 16<fs.length then 3 else chkF fs):=rfl
 have H:=zh h
 have hB1:Hid (Below w.heap.size w (w.alloc (.cells #[.int .i64 t,.slice F fn fc] 33))):=zh ((Below.refl _ _).alloc (zG _) _)
 clear hl h
 generalize chkE fs=r at *
 by_cases hbig : 16<fs.length
 ·have hb16:(16:Int)<(fn:Int):=by omega
  go_enter Tryz.func39,Tryz.ntmps39
  go_wp2
  go_ret
  exact ⟨by rw [Fin.out,if_pos hbig]; rfl,hB1.out⟩
 ·have hb16:¬ (16:Int)<(fn:Int):=by omega
  have Fin2:Hid (r=chkF (fs.drop 0)):=zh (by rw [Fin.out,if_neg hbig,List.drop_zero])
  clear Fin hbig
  go_enter Tryz.func39,Tryz.ntmps39
  go_wp2
  go_loopw [12] (fun i wr=>∃ k:Nat,k≤fs.length∧i=.int .i64 (k:Nat)∧Hid (r=chkF (fs.drop k))∧Hid (Below w.heap.size w wr)) (fun i _=>fs.length - (intOf i).toNat)
  case atStart=>exact ⟨0,Nat.zero_le _,rfl,Fin2,hB1⟩
  case round =>
   clear Fin2 hB1
   obtain ⟨k,hk,rfl,hR,hB⟩:=hrel
   by_cases hlt:k<fs.length
   ·have hkz:(k:Int)<(fn:Int):=by omega
    obtain ⟨b,o,rfl,hbb,cn,ct⟩:=(H.out.keep (w':=wr) (fun b o hp=>hB.out.cell (p:=⟨b,o,none⟩) hp)).at_ hlt
    have hsz:=H.out.sz _ (List.getElem_mem hlt)
    have hR2:Hid (r=if isN fs[k].1.data.toList=false then 100 else if 4096<fs[k].2.size then 2 else chkF (fs.drop (k+1))):=zh (by rw [hR.out,drop_at _ _ hlt]; rfl)
    clear hR
    generalize hfk:fs[k]=f at *
    clear hfk
    obtain ⟨nm,tx⟩:=f
    simp only at cn ct hsz hR2
    obtain ⟨hs1,hs2⟩:=hsz
    go_wp2_with fail
    have hbW:Hid (Below w.heap.size w (wr.alloc (.cells #[.string nm,.string tx] 99))):=zh (hB.out.alloc hB.out.size _)
    have c:=name_any nm (wr.alloc (.cells #[.string nm,.string tx] 99)) hs1
    have d1:=(Blk.new wr 99 #[.string nm,.string tx]).cell 1
    have hlt1:wr.heap.size<(wr.alloc (.cells #[.string nm,.string tx] 99)).heap.size:=by simp
    simp only [zA,zB,zC] at d1
    generalize wr.alloc (.cells #[.string nm,.string tx] 99)=w1 at *
    clear hB cn ct
    refine c.mono ?_
    rintro e w2 ⟨rfl,hb2⟩
    have d2:=(hb2.cell (p:=⟨wr.heap.size,1,none⟩) hlt1).trans d1
    have hB2:Hid (Below w.heap.size w w2):=zh (hbW.out.trans (hb2.mono hbW.out.size))
    clear c d1 hb2 hbW
    by_cases hn:isN nm.data.toList=false
    ·rw [hn]
     go_wp2
     go_ret
     exact ⟨by rw [hR2.out,if_pos hn]; rfl,hB2.out⟩
    ·have hn2:isN nm.data.toList=true:=by simpa using hn
     rw [hn2]
     by_cases ht : 4096<tx.size
     ·have htz:(4096:Int)<(tx.size:Int):=by omega
      go_wp2
      go_ret
      exact ⟨by rw [hR2.out,if_neg hn,if_pos ht]; rfl,hB2.out⟩
     ·have htz:¬ (4096:Int)<(tx.size:Int):=by omega
      have hR3:Hid (r=chkF (fs.drop (k+1))):=zh (by rw [hR2.out,if_neg hn,if_neg ht])
      clear hR2 hn hn2
      go_wp2
      go_roundw
      case rel=>exact ⟨k+1,by omega,by go_num,hR3,hB2⟩
      case measure=>simp [intOf]; omega
   ·have hkz:¬ (k:Int)<(fn:Int):=by omega
    go_wp2
    go_ret
    exact ⟨by rw [hR.out,List.drop_eq_nil_of_le (by omega)]; rfl,hB.out⟩
end Go.Proofs.YtlfpfkallgkjdaaGreat.Ev
end

section
namespace Go.Proofs.YtlfpfkallgkjdaaGreat.Ev
open Go.RowKit Ut Tk Qy
theorem below_dn {B:Nat} (w:World) (n:Nat):Below B w (w.drewN n):=⟨rfl,rfl,rfl,zG _,fun _ _=>rfl⟩
set_option maxHeartbeats 1600000 in
theorem rcheck_any (t:Int) (F:Option Addr) (fn fc:Nat) (fs:List Fl) (w:World) (h:FlAt w w.heap.size F fn fc fs) :
  Calls Tryz.prog 22 #[.agg #[.int .i64 t,.slice F fn fc]] w fun e w'=>e=.returned (.int .i64 (chkE fs))∧Below w.heap.size w w':=by
 have hl:=h.len
 have hl1:fs.length≤fn:=by omega
 have hl2:fn≤fs.length:=by omega
 have hcap:=h.cap
 have hfew:=h.few
 have Fin:Hid (chkE fs=if 16<fs.length then 3 else chkF fs):=rfl
 have hB1:Below w.heap.size w (w.alloc (.cells #[.int .i64 t,.slice F fn fc] 33)):=(Below.refl _ _).alloc (zG _) _
 have hF1:=h.grow hB1
 have hX:=(Blk.new w 33 #[.int .i64 t,.slice F fn fc])
 have H:=zh (And.intro hF1 (And.intro hX hB1))
 clear hl h hF1 hX hB1
 generalize chkE fs=r at *
 by_cases hbig : 16<fs.length
 ·have hb16:(16:Int)<(fn:Int):=by omega
  go_enter Tryz.func22,Tryz.ntmps22
  go_wp2
  go_ret
  exact ⟨by rw [Fin.out,if_pos hbig]; rfl,H.out.2.2⟩
 ·have hb16:¬ (16:Int)<(fn:Int):=by omega
  have Fin2:Hid (r=chkF (fs.drop 0)):=zh (by rw [Fin.out,if_neg hbig,List.drop_zero])
  clear Fin hbig
  go_enter Tryz.func22,Tryz.ntmps22
  go_wp2
  generalize w.alloc (.cells #[.int .i64 t,.slice F fn fc] 33)=W0 at *
  go_loopw [3] (fun i wr=>∃ k:Nat,k≤fs.length∧i=.int .i64 (k:Nat)∧Hid (r=chkF (fs.drop k))∧Hid (Below W0.heap.size W0 wr)) (fun i _=>fs.length - (intOf i).toNat)
  case atStart=>exact ⟨0,Nat.zero_le _,rfl,Fin2,zh (Below.refl _ _)⟩
  case round =>
   clear Fin2
   obtain ⟨k,hk,rfl,hR,hB⟩:=hrel
   have d1:=(H.out.2.1.below hB.out H.out.2.1.lt).cell 1
   simp only [zA,zB,zC] at d1
   have hBw:Hid (Below w.heap.size w wr):=zh (H.out.2.2.trans (hB.out.mono H.out.2.2.size))
   by_cases hlt:k<fs.length
   ·have hkz:(k:Int)<(fn:Int):=by omega
    obtain ⟨b,o,rfl,hbb,cn,ct⟩:=(H.out.1.grow hB.out).at_ hlt
    have hsz:=H.out.1.sz _ (List.getElem_mem hlt)
    have hR2:Hid (r=if isN fs[k].1.data.toList=false then 100 else if 4096<fs[k].2.size then 2 else chkF (fs.drop (k+1))):=zh (by rw [hR.out,drop_at _ _ hlt]; rfl)
    clear hR
    generalize hfk:fs[k]=f at *
    clear hfk
    obtain ⟨nm,tx⟩:=f
    simp only at cn ct hsz hR2
    obtain ⟨hs1,hs2⟩:=hsz
    have c:=isName_refB nm wr hs1
    by_cases hn:isN nm.data.toList=false
    ·rw [hn] at c
     go_wp2_with fail
     refine c.mono ?_
     rintro e w2 ⟨rfl,rfl⟩
     go_wp2
     go_ret
     exact ⟨by rw [hR2.out,if_pos hn]; rfl,hBw.out⟩
    ·have hn2:isN nm.data.toList=true:=by simpa using hn
     rw [hn2] at c
     by_cases ht : 4096<tx.size
     ·have htz:(4096:Int)<(tx.size:Int):=by omega
      go_wp2_with fail
      refine c.mono ?_
      rintro e w2 ⟨rfl,rfl⟩
      go_wp2
      go_ret
      exact ⟨by rw [hR2.out,if_neg hn,if_pos ht]; rfl,hBw.out⟩
     ·have htz:¬ (4096:Int)<(tx.size:Int):=by omega
      have hR3:Hid (r=chkF (fs.drop (k+1))):=zh (by rw [hR2.out,if_neg hn,if_neg ht])
      clear hR2 hn hn2
      go_wp2_with fail
      refine c.mono ?_
      rintro e w2 ⟨rfl,rfl⟩
      go_wp2
      go_roundw
      case rel=>exact ⟨k+1,by omega,by go_num,hR3,hB⟩
      case measure=>simp [intOf]; omega
   ·have hkz:¬ (k:Int)<(fn:Int):=by omega
    go_wp2
    go_ret
    exact ⟨by rw [hR.out,List.drop_eq_nil_of_le (by omega)]; rfl,hBw.out⟩
end Go.Proofs.YtlfpfkallgkjdaaGreat.Ev
end
