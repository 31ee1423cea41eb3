/- Stores into a block that holds neither numbers nor texts leave queries as they are; both kinds of kept queries, in a pair. (No walk.) -/
import Derived.Deep.Strs
import Derived.Test.YtlfpfkallgkjdaaGreatQAlertBatchesRow31
import Derived.Test.YtlfpfkallgkjdaaGreatQAlertBatchesRow41
import Derived.Test.YtlfpfkallgkjdaaGreatQAlertBatchesRow21
import Derived.Test.YtlfpfkallgkjdaaGreatQAlertBatchesRow28
import Derived.Test.YtlfpfkallgkjdaaGreatQAlertBatchesRow3
import Derived.Test.YtlfpfkallgkjdaaGreatQAlertBatchesRow0
import Derived.Test.YtlfpfkallgkjdaaGreatQAlertBatchesRow30
import Derived.Test.YtlfpfkallgkjdaaGreatQAlertBatchesRow4
set_option linter.unusedSimpArgs false
set_option linter.unusedVariables false
set_option maxRecDepth 40000
section
namespace Go.Proofs.YtlfpfkallgkjdaaGreat.Al
open Go.RowKit Go.Maps Ut Tk Qy Qp Ev Mv
def NoIS (cs:Array Value):Prop:=∀ (i:Nat) (u:Value),cs[i]?=some u→(∀ k z,u≠Value.int k z)∧∀ s,u≠Value.string s
theorem noIS_two (p:Option Addr) (A:Option Addr) (n c:Nat):NoIS #[.pointer p,.slice A n c]:=fun i u h=>by
 match i,h with
 | 0,h=>simp at h; subst h; exact ⟨fun k z e=>(by cases e),fun s e=>(by cases e)⟩
 | 1,h=>simp at h; subst h; exact ⟨fun k z e=>(by cases e),fun s e=>(by cases e)⟩
 | i+2,h=>simp at h
theorem noIS_one (A:Option Addr) (n c:Nat):NoIS #[.slice A n c]:=fun i u h=>by
 match i,h with
 | 0,h=>simp at h; subst h; exact ⟨fun k z e=>(by cases e),fun s e=>(by cases e)⟩
 | i+1,h=>simp at h
section
variable {w:World} {g:Nat} {T:TypeId} {cs:Array Value}
theorem reads_ne {S:Nat→Prop} {k n:Nat} {A:Option Addr} {xs:List Value} (hB:Blk w g T cs) (hN:NoIS cs) (h:ReadsS w S k A n xs) (hx:∀ u,xs[0]?=some u→(∃ k z,u=Value.int k z)∨∃ s,u=Value.string s) (hk : 0<k):ReadsS w (fun b=>S b∧b≠g) k A n xs:=by
 refine ⟨h.1,fun hn=>?_⟩
 obtain ⟨b,o,e,hb,hc⟩:=h.2 hn
 refine ⟨b,o,e,⟨hb,fun eq=>?_⟩,hc⟩
 subst eq
 have hl : 0<xs.length:=by rw [h.1]; exact Nat.mul_pos hn hk
 have h0:=hc 0 xs[0] (List.getElem?_eq_getElem hl)
 rw [Nat.add_zero,hB.cell] at h0
 have:=hN _ _ h0
 rcases hx _ (List.getElem?_eq_getElem hl) with ⟨k',z,e2⟩ | ⟨s,e2⟩
 ·exact this.1 _ _ e2
 ·exact this.2 _ e2
theorem qf_ne {S:Nat→Prop} {q:Q} {vs:List Value} (hB:Blk w g T cs) (hN:NoIS cs) (h:QF w S q vs):QF w (fun b=>S b∧b≠g) q vs:=by
 induction h with
 | @mk k nm ws l A C n c m d vss hn hw hm hv h4 hl kids ih =>
  refine .mk vss hn (reads_ne hB hN hw (fun u hu=>.inr ?_) (by decide)) hm hv h4 (reads_ne hB hN hl (fun u hu=>.inl ?_) (by decide)) ih
  ·cases ws with
   | nil=>simp at hu
   | cons s ws=>simp at hu; exact ⟨s,hu.symm⟩
  ·cases vss with
   | nil=>simp at hu
   | cons v vss =>
    cases l with
    | nil=>simp at hv hm; omega
    | cons x l =>
     have hq:=kids 0 (by simp) (by simp)
     simp only [List.getElem_cons_zero] at hq
     obtain ⟨A',n',c',C',m',d',e⟩:=hq.four
     rw [List.flatten_cons,e] at hu
     simp at hu
     exact ⟨_,_,hu.symm⟩
theorem set_same {b:Nat} (hb:b≠g) (j:Nat) (u:Value):(w.setCell ⟨g,j,none⟩ u).heap[b]?=w.heap[b]?:=Below.heap_setCell w ⟨g,j,none⟩ u b hb
theorem sc_set {b:Nat} (h:Sc w b) (hb:b≠g) (j:Nat) (u:Value):Sc (w.setCell ⟨g,j,none⟩ u) b:=h.same (set_same hb j u)
theorem qf_set {q:Q} {vs:List Value} (hB:Blk w g T cs) (hN:NoIS cs) (h:QF w (Sc w) q vs) (j:Nat) (u:Value):QF (w.setCell ⟨g,j,none⟩ u) (Sc (w.setCell ⟨g,j,none⟩ u)) q vs :=
 ((qf_ne hB hN h).keep (fun b o hb=>cell_same (set_same hb.2 j u) o)).mono (fun b hb=>sc_set hb.1 hb.2 j u)
theorem kpv_set {k:Kp} {v:Value} (hB:Blk w g T cs) (hN:NoIS cs) (h:KpV w k v) (j:Nat) (u:Value):KpV (w.setCell ⟨g,j,none⟩ u) k v:=by
 obtain ⟨a0,a1,a2,a3,A,c,e,h1,h2⟩:=h
 refine ⟨a0,a1,a2,a3,A,c,e,qf_set hB hN h1 j u,?_⟩
 have h3:=reads_ne hB hN h2 (fun u hu=>.inr (by
  cases hk:k.needs with
  | nil=>rw [hk] at hu; simp [bsv] at hu
  | cons s t=>rw [hk] at hu; simp [bsv] at hu; exact ⟨s,hu.symm⟩)) (by decide)
 exact (h3.keep (fun b o hb=>cell_same (set_same hb.2 j u) o)).mono (fun b hb=>sc_set hb.1 hb.2 j u)
theorem rat_set {A:Option Addr} {n c:Nat} {O:List Rk} (hB:Blk w g T cs) (hN:NoIS cs) (h:RAt w A n c O) (j:Nat) (u:Value):RAt (w.setCell ⟨g,j,none⟩ u) A n c O:=by
 refine ⟨?_,h.ln,h.cap,h.nl,fun x hx=>qf_set hB hN (h.qs x hx) j u⟩
 have h3:=reads_ne hB hN h.rd (fun u hu=>.inl (by
  cases O with
  | nil=>simp at hu
  | cons x O=>simp [encR] at hu; exact ⟨_,_,hu.symm⟩)) (by decide)
 exact (h3.keep (fun b o hb=>cell_same (set_same hb.2 j u) o)).mono (fun b hb=>sc_set hb.1 hb.2 j u)
theorem aln_set {n0 X K:Nat} {l:List (Int × Kp)} (hB:Blk w g T cs) (hN:NoIS cs) (hT:T≠86) (h:AlN n0 w X K l) (j:Nat) (u:Value):AlN n0 (w.setCell ⟨g,j,none⟩ u) X K l:=by
 obtain ⟨cn,M1,M2,F1,F2,h1,h2,h3⟩:=h.ex
 have hsc:Sc w g:=blk_sc hB
 have e:∀ b,Own M1 M2 F2 b→(w.setCell ⟨g,j,none⟩ u).heap[b]?=w.heap[b]?:=fun b hb=>set_same (fun eq=>h2.al.noSc b hb (by rw [eq]; exact hsc)) j u
 refine ⟨cn,M1,M2,F1,F2,h1,⟨(set_same (fun e=>hT (by
  have:=h2.blk
  rw [e] at this
  have hB':w.heap[g]?=_:=hB
  unfold Blk at this
  rw [hB'] at this
  injection this with this
  injection this)) j u).trans h2.blk,?_⟩,h3⟩
 have ha:=h2.al
 exact ⟨ha.up,ha.rng,ha.ok,MapZ.same ha.m1 (e _ (.inl rfl)),fun i k hk=>by
  obtain ⟨v,q1,q2⟩:=ha.kv i k hk
  exact ⟨v,q1,kpv_set hB hN q2 j u⟩,ha.kn,ha.m2.same (e _ (.inr (.inl rfl))),fun s m hs=>(ha.sub s m hs).same (e _ (.inr (.inr ⟨s,hs⟩))),ha.nos,ha.apart,ha.n12,ha.n1⟩
end
structure St (n0:Nat) (w:World) (Bb K:Nat) (l:List (Int × Kp)):Prop where
 ex:∃ X A n c O,Blk w Bb 43 #[.pointer (some ⟨X,0,none⟩),.slice A n c]∧AlN n0 w X K l∧RAt w A n c O∧RIs O l
 few:l.length≤1000
 bb:n0≤Bb
theorem St.below {n0:Nat} {w w':World} {Bb K:Nat} {l:List (Int × Kp)} (h:St n0 w Bb K l) (hb:Below w.heap.size w w'):St n0 w' Bb K l:=by
 obtain ⟨X,A,n,c,O,h1,h2,h3,h4⟩:=h.ex
 exact ⟨⟨X,A,n,c,O,h1.below hb h1.lt,h2.new_below hb,h3.below hb,h4⟩,h.few,h.bb⟩
theorem St.more {n0:Nat} {w:World} {Bb K K':Nat} {l:List (Int × Kp)} (h:St n0 w Bb K l) (hK:K≤K'):St n0 w Bb K' l:=by
 obtain ⟨X,A,n,c,O,h1,h2,h3,h4⟩:=h.ex
 obtain ⟨cn,M1,M2,F1,F2,g1,g2⟩:=h2.ex
 exact ⟨⟨X,A,n,c,O,h1,⟨cn,M1,M2,F1,F2,by omega,g2⟩,h3,h4⟩,h.few,h.bb⟩
end Go.Proofs.YtlfpfkallgkjdaaGreat.Al
end

section
namespace Go.Proofs.YtlfpfkallgkjdaaGreat.Al
open Go.RowKit Go.Maps Ut Tk Qy Qp Ev Mv
structure Opr where
 d:Int
 id:Int
 s:ByteArray
 ids:List Int
structure OpV (w:World) (o:Opr) (I:Option Addr) (m mc:Nat):Prop where
 rd:ReadsS w (Sc w) 1 I m (itv o.ids)
 ln:o.ids.length=m
 few:m≤17592186043904
 cap:m≤mc
 wi:∀ i∈o.ids,I64 i
 wd : 0≤o.d∧o.d≤255
 wid:I64 o.id
 ws:o.s.size≤140737488351232
theorem OpV.below {w w':World} {o:Opr} {I:Option Addr} {m mc:Nat} (h:OpV w o I m mc) (hb:Below w.heap.size w w'):OpV w' o I m mc:=⟨reads_chg (O:=fun _=>False) h.rd (Chg.of_new hb) (fun _ h=>h.elim),h.ln,h.few,h.cap,h.wi,h.wd,h.wid,h.ws⟩
def cutS (s:ByteArray):ByteArray:=if 1100<s.size then s.extract 0 1100 else s
def cutI (ids:List Int):List Int:=ids.take 10
inductive StepR:List (Int × Kp)→Opr→List (Int × Kp)→Prop
 | drop {l:List (Int × Kp)} {o:Opr} (h:o.d % 5=3):StepR l o (dropsL l (cutI o.ids))
 | fork {l:List (Int × Kp)} {o:Opr} (h:o.d % 5=4):StepR l o l
 | put {l l':List (Int × Kp)} {o:Opr} {E:Int} (h3:o.d % 5≠3) (h4:o.d % 5≠4) (hp:PutR l o.id (cutS o.s) E l'):StepR l o l'
def StepP (n0:Nat) (w:World) (Bb K:Nat) (l:List (Int × Kp)) (o:Opr) (e:Ending) (w':World):Prop:=∃ l',StepR l o l'∧e=.returned (.bool true)∧St n0 w' Bb (K+1001) l'∧Below n0 w w'
theorem cutI_reads {w:World} {o:Opr} {I:Option Addr} {m mc:Nat} (h:OpV w o I m mc) (h10 : 10≤m):ReadsS w (Sc w) 1 I 10 (itv (cutI o.ids)):=by
 refine ⟨by rw [itv_len]; unfold cutI; rw [List.length_take,h.ln]; omega,fun _=>?_⟩
 obtain ⟨b,q,e,hb,hc⟩:=h.rd.2 (by omega)
 refine ⟨b,q,e,hb,fun j u hu=>hc j u ?_⟩
 unfold itv cutI at hu
 unfold itv
 rw [List.map_take,List.getElem?_take] at hu
 split at hu
 ·exact hu
 ·cases hu
theorem u8rem {d:Int} (h : 0≤d∧d≤255):d.tmod 5=d % 5:=Int.tmod_eq_emod_of_nonneg h.1
end Go.Proofs.YtlfpfkallgkjdaaGreat.Al
end

section
namespace Go.Proofs.YtlfpfkallgkjdaaGreat.Mx
open Go.RowKit Ut Tk Qy Ev Qp
abbrev Bt:=Int × List Evn
def BtV (w:World) (B:Nat) (b:Bt) (v:List Value):Prop:=∃ A n c,v=[.int .i64 b.1,.slice A n c]∧EvsAt w B A n c b.2
theorem BtV.len {w:World} {B:Nat} {b:Bt} {v:List Value} (h:BtV w B b v):v.length=2:=by obtain ⟨A,n,c,rfl,_⟩:=h; rfl
theorem BtV.keep {w w':World} {B:Nat} {b:Bt} {v:List Value} (h:BtV w B b v) (hk:∀ b o,b<B→w'.cell? ⟨b,o,none⟩=w.cell? ⟨b,o,none⟩):BtV w' B b v:=by
 obtain ⟨A,n,c,e,g⟩:=h
 exact ⟨A,n,c,e,g.keep hk⟩
theorem BtV.more {w:World} {B B':Nat} {b:Bt} {v:List Value} (h:BtV w B b v) (hB:B≤B'):BtV w B' b v:=by
 obtain ⟨A,n,c,e,g⟩:=h
 exact ⟨A,n,c,e,g.more hB⟩
structure BtsAt (w:World) (R:Nat→Prop) (B:Nat) (A:Option Addr) (n c:Nat) (l:List Bt):Prop where
 ln:l.length=n
 cap:n≤c
 ex:∃ vss:List (List Value),vss.length=n∧ReadsS w R 2 A n vss.flatten∧∀ i (h:i<l.length) (h':i<vss.length),BtV w B l[i] vss[i]
theorem BtsAt.keep {w w':World} {R:Nat→Prop} {B n c:Nat} {A:Option Addr} {l:List Bt} (h:BtsAt w R B A n c l) (hr:∀ b o,R b→w'.cell? ⟨b,o,none⟩=w.cell? ⟨b,o,none⟩) (hk:∀ b o,b<B→w'.cell? ⟨b,o,none⟩=w.cell? ⟨b,o,none⟩):BtsAt w' R B A n c l:=by
 obtain ⟨vss,h1,h2,h3⟩:=h.ex
 exact ⟨h.ln,h.cap,vss,h1,h2.keep hr,fun i a b=>(h3 i a b).keep hk⟩
theorem BtsAt.at_ {w:World} {R:Nat→Prop} {B n c:Nat} {A:Option Addr} {l:List Bt} (h:BtsAt w R B A n c l) {i:Nat} (hi:i<l.length) :
  ∃ b o E m k,A=some ⟨b,o,none⟩∧R b∧w.cell? ⟨b,o+i * 2,none⟩=some (.int .i64 l[i].1)∧w.cell? ⟨b,o+i * 2+1,none⟩=some (.slice E m k)∧EvsAt w B E m k l[i].2:=by
 obtain ⟨vss,h1,h2,h3⟩:=h.ex
 have hl:=h.ln
 have hi':i<vss.length:=by omega
 have h4:∀ v∈vss,v.length=2:=fun v hv=>by
  obtain ⟨j,hj,rfl⟩:=List.mem_iff_getElem.1 hv
  exact (h3 j (by omega) hj).len
 obtain ⟨E,m,k,e,g⟩:=h3 i hi hi'
 obtain ⟨b,o,eA,hb,hc⟩:=h2.2 (by omega)
 have f0:=flat_get h4 i 0 hi' (by omega)
 have f1:=flat_get h4 i 1 hi' (by omega)
 rw [e] at f0 f1
 have c0:=hc _ _ f0
 have c1:=hc _ _ f1
 rw [← Nat.add_assoc] at c1
 exact ⟨b,o,E,m,k,eA,hb,c0,c1,g⟩
theorem batch_info:(Tryz.prog.info? 69).map (fun i=>(i.zero,i.size,i.bytes))=some (some (.agg #[.int .i64 0,.slice none 0 0]),2,32):=by kernel_rfl
structure BOwn (w:World) (base B:Nat) (v:Value) (l:List Bt):Prop where
 ex:∃ vss:List (List Value),vss.length=l.length∧w.ownsRow base 69 2 v l.length vss.flatten∧∀ i (h:i<l.length) (h':i<vss.length),BtV w B l[i] vss[i]
theorem BOwn.start (w:World) (base B:Nat):BOwn w base B (.slice none 0 0) []:=⟨[],rfl,World.ownsRow_nil _ _ _ _,fun i h=>absurd h (by simp)⟩
theorem BOwn.below {w w':World} {base B:Nat} {v:Value} {l:List Bt} (h:BOwn w base B v l) (hb:Below w.heap.size w w') (hB:B≤w.heap.size):BOwn w' base B v l:=by
 obtain ⟨vss,h1,h2,h3⟩:=h.ex
 exact ⟨vss,h1,h2.kept (grow_of_below hb none) (by cases hv:v.ownBlock <;> simp),fun i a b=>(h3 i a b).keep (fun b o hlt=>hb.cell (Nat.lt_of_lt_of_le hlt hB))⟩
theorem BOwn.put {w w5:World} {base B:Nat} {v v':Value} {l:List Bt} {d:Bt} {u:List Value} {xs:List Value} (hx:∃ vss:List (List Value),vss.length=l.length∧w.ownsRow base 69 2 v l.length vss.flatten∧(∀ i (h:i<l.length) (h':i<vss.length),BtV w B l[i] vss[i])∧xs=vss.flatten)
  (hp:w5.ownsRow base 69 2 v' (l.length+1) (xs ++ u)) (hg:w.grownBy w5 v.ownBlock) (hd:BtV w B d u) (hB:B≤base) (hw:B≤w.heap.size):BOwn w5 base B v' (l ++ [d]):=by
 obtain ⟨vss,h1,h2,h3,rfl⟩:=hx
 have keep:∀ b o,b<B→w5.cell? ⟨b,o,none⟩=w.cell? ⟨b,o,none⟩:=fun b o hlt=>cell_same (hg.block b (Nat.lt_of_lt_of_le hlt hw) (fun e=>by have:=(h2.lt b e.symm).1; omega)) o
 refine ⟨vss ++ [u],by simp [h1],?_,fun i a b=>?_⟩
 ·rw [List.flatten_append,List.length_append]
  simpa using hp
 ·by_cases hi:i<l.length
  ·rw [List.getElem_append_left hi,List.getElem_append_left (by omega)]
   exact (h3 i hi (by omega)).keep keep
  ·have hi':i=l.length:=by simp at a; omega
   subst hi'
   rw [List.getElem_append_right (by omega),List.getElem_append_right (by omega)]
   simp only [Nat.sub_self,h1,List.getElem_cons_zero]
   exact hd.keep keep
theorem BOwn.read {w:World} {base B:Nat} {v:Value} {l:List Bt} (h:BOwn w base B v l):∃ A c,v=.slice A l.length c∧BtsAt w (fun b=>base≤b∧b<w.heap.size) B A l.length c l:=by
 obtain ⟨vss,h1,h2,h3⟩:=h.ex
 obtain ⟨A,c,rfl,_,hc,hn,_⟩:=Ev.own_shape2 h2
 exact ⟨A,c,rfl,⟨rfl,hc,vss,h1,(ReadsS.of_own h2).mono (fun b hb=>⟨hb.1,hb.2.1⟩),fun i a b=>h3 i a b⟩⟩
end Go.Proofs.YtlfpfkallgkjdaaGreat.Mx
end

section
namespace Go.Proofs.YtlfpfkallgkjdaaGreat.Mx
open Go.RowKit Go.ChangeShapes Go.WideShapes Go.ChangeAt Go.Deep Go.Joins Ut Tk Qy Ev Qp
section
variable {H:Type} {enc:TypeId × Value→H} {W:World} {base:Nat}
theorem field_cells:Tryz.prog.cellsOf 99=2:=by kernel_rfl
theorem field_bytes:Tryz.prog.bytesOf 99=32:=by kernel_rfl
theorem batch_cells:Tryz.prog.cellsOf 69=2:=by kernel_rfl
theorem event_cells:Tryz.prog.cellsOf 33=2:=by kernel_rfl
theorem event_bytes:Tryz.prog.bytesOf 33=32:=by kernel_rfl
theorem string_cells2:Tryz.prog.cellsOf 9=1:=by kernel_rfl
theorem int_cells:Tryz.prog.cellsOf 3=1:=by kernel_rfl
theorem fields_cells:Tryz.prog.cellsOf 31=1:=by kernel_rfl
theorem events_cells:Tryz.prog.cellsOf 67=1:=by kernel_rfl
theorem len_two {α:Type} {l:List α} (h:l.length=2):∃ a b,l=[a,b]:=by
 match l,h with
 | [a,b],_=>exact ⟨a,b,rfl⟩
theorem nil_addr {t e:TypeId} {fuel:Nat} {P:Program} {A:Option Addr} {len cap:Nat} {x:DataW H × List MemPlace} (ht:P.underlying t=some (.slice e)) (h:DataW.trod enc P W 0 (fun _=>true) true fuel t [.slice A len cap]=some x):A=none→cap=0:=by
 rcases open_slice ht h with ⟨hcs,_⟩ | ⟨a,len,cap,m,n,D,Pl,hcs,_⟩
 ·simp only [List.cons.injEq,and_true,Value.slice.injEq] at hcs
  exact fun _=>hcs.2.2
 ·simp only [List.cons.injEq,and_true,Value.slice.injEq] at hcs
  intro h
  rw [h] at hcs
  cases hcs.1
theorem fields_in {fuel:Nat} {v:Value} {x:DataW H × List MemPlace} (h:DataW.trod enc Tryz.prog W 0 (fun _=>true) true fuel 31 [v]=some x) (hw:∀ n∈x.1.weights Tryz.prog 31,n≤140737488351232) :
  ∃ (F:Option Addr) (n c:Nat) (fs:List (ByteArray × ByteArray)),v=.slice F n c∧FlAt W W.heap.size F n c fs:=by
 obtain ⟨A,len,cap,vss,ds,spare,rfl,hl,hv,h2,hR,hd,hx,hall⟩:=slice_at Tryz.underlying31 field_cells (by omega) h
 have hnil:=nil_addr Tryz.underlying31 h
 have each:∀ i:Nat,∃ f:ByteArray × ByteArray,∀ (h1:i<vss.length) (h2:i<ds.length),vss[i]=[.string f.1,.string f.2]∧ds[i]=.agg [.lit (.string f.1.data.toList),.lit (.string f.2.data.toList)]:=fun i=>by
  by_cases hi:i<vss.length∧i<ds.length
  ·obtain ⟨n,y,g1,g2⟩:=hall i hi.1 hi.2
   obtain ⟨y0,y1,n',rfl,hlen,t0,t1⟩:=trod_struct2 Tryz.underlying99 g1
   have hvl:=h2 _ (List.getElem_mem hi.1)
   obtain ⟨u0,u1,hu⟩:=len_two hvl
   rw [hu] at t0 t1
   simp only [string_cells2,List.drop_zero,List.drop_succ_cons,List.take_succ_cons,List.take_zero] at t0 t1
   obtain ⟨s0,e0,rfl,_⟩:=DataW.trod_string Tryz.underlying9 t0
   obtain ⟨s1,e1,rfl,_⟩:=DataW.trod_string Tryz.underlying9 t1
   simp only [List.cons.injEq,and_true] at e0 e1
   subst e0 e1
   exact ⟨(s0,s1),fun _ _=>⟨hu,g2.symm⟩⟩
  ·exact ⟨(ByteArray.empty,ByteArray.empty),fun h1 h2=>absurd ⟨h1,h2⟩ hi⟩
 obtain ⟨f,hf⟩:=Classical.skolem.1 each
 have hlen:((List.range len).map f).length=len:=by simp
 have e:vss.flatten=fldC ((List.range len).map f):=by
  apply List.ext_getElem?
  intro j
  by_cases hj:j<len * 2
  ·have hi:j / 2<vss.length:=by omega
   have hg:=fldC_get ((List.range len).map f) (j / 2) (by rw [hlen]; omega)
   have hfi:=(hf (j / 2) hi (by omega)).1
   have hget:((List.range len).map f)[j / 2]'(by rw [hlen]; omega)=f (j / 2):=by simp
   rw [hget] at hg
   rcases Nat.mod_two_eq_zero_or_one j with e0 | e1
   ·have h0:=flat_get h2 (j / 2) 0 hi (by omega)
    have e:j=j / 2 * 2:=by omega
    rw [hfi,Nat.add_zero] at h0
    rw [e,h0,hg.1]
    rfl
   ·have h0:=flat_get h2 (j / 2) 1 hi (by omega)
    have e:j=j / 2 * 2+1:=by omega
    rw [hfi] at h0
    rw [e,h0,hg.2]
    rfl
  ·rw [List.getElem?_eq_none (by rw [flat_len h2]; omega),List.getElem?_eq_none (by rw [fldC_len,hlen]; omega)]
 rw [e] at hR
 have hbd:len≤8796093021952∧∀ i,i<len→(f i).1.size≤140737488351232∧(f i).2.size≤140737488351232:=by
  rcases hx with hx | ⟨h0,_⟩
  ·rw [hx] at hw
   have h3:=weights_len Tryz.underlying31 hw
   rw [field_bytes] at h3
   refine ⟨by omega,fun i hi=>?_⟩
   have hm:ds[i]'(by omega)∈ds:=List.getElem_mem _
   have h4:=weights_elem Tryz.underlying31 hw hm
   rw [(hf i (by omega) (by omega)).2] at h4
   have g0:=weights_part (j:=0) Tryz.underlying99 h4 rfl rfl (f i).1.data.toList.length (by simp [DataW.weights])
   have g1:=weights_part (j:=1) Tryz.underlying99 h4 rfl rfl (f i).2.data.toList.length (by simp [DataW.weights])
   rw [bsize] at g0 g1
   exact ⟨g0,g1⟩
  ·exact ⟨by omega,fun i hi=>by omega⟩
 exact ⟨A,len,cap,_,rfl,hR,hlen,hbd.1,hl,fun s hs=>by
  obtain ⟨i,hi,rfl⟩:=List.mem_map.1 hs
  exact hbd.2 i (by simpa using hi),hnil⟩
theorem event_at {fuel:Nat} {cs:List Value} {x:DataW H × List MemPlace} (h:DataW.trod enc Tryz.prog W 0 (fun _=>true) true fuel 33 cs=some x) (hw:∀ n∈x.1.weights Tryz.prog 33,n≤140737488351232) :
  ∃ e:Evn,EvV W W.heap.size e cs:=by
 obtain ⟨y0,y1,n',rfl,hlen,t0,t1⟩:=trod_struct2 Tryz.underlying33 h
 rw [event_cells] at hlen
 match cs,hlen with
 | [u0,u1],_ =>
  simp only [int_cells,fields_cells,List.drop_zero,List.drop_succ_cons,List.take_succ_cons,List.take_zero] at t0 t1
  obtain ⟨k,e0,rfl,wk⟩:=DataW.trod_int Tryz.underlying3 t0
  simp only [List.cons.injEq,and_true] at e0
  subst e0
  obtain ⟨F,n,c,fs,rfl,hf⟩:=fields_in t1 (weights_part (j:=1) Tryz.underlying33 hw rfl rfl)
  exact ⟨(k,fs),F,n,c,rfl,hf⟩
theorem events_in {fuel:Nat} {v:Value} {x:DataW H × List MemPlace} (h:DataW.trod enc Tryz.prog W 0 (fun _=>true) true fuel 67 [v]=some x) (hw:∀ n∈x.1.weights Tryz.prog 67,n≤140737488351232) :
  ∃ (A:Option Addr) (n c:Nat) (l:List Evn),v=.slice A n c∧EvsAt W W.heap.size A n c l:=by
 obtain ⟨A,len,cap,vss,ds,spare,rfl,hl,hvl,h3,hR,hd,hx,hall⟩:=slice_at Tryz.underlying67 event_cells (by omega) h
 have each:∀ i:Nat,∃ e:Evn,∀ (h1:i<vss.length),EvV W W.heap.size e vss[i]:=fun i=>by
  by_cases hi:i<vss.length
  ·obtain ⟨n',y,g1,g2⟩:=hall i hi (by omega)
   have hm:ds[i]'(by omega)∈ds:=List.getElem_mem _
   rcases hx with hx | ⟨z0,_⟩
   ·rw [hx] at hw
    obtain ⟨q,hq⟩:=event_at g1 (by rw [g2]; exact weights_elem Tryz.underlying67 hw hm)
    exact ⟨q,fun _=>hq⟩
   ·omega
  ·exact ⟨(0,[]),fun h=>absurd h hi⟩
 obtain ⟨f,hf⟩:=Classical.skolem.1 each
 have hbd:len≤4398046511104:=by
  rcases hx with hx | ⟨z0,_⟩
  ·rw [hx] at hw
   have:=weights_len Tryz.underlying67 hw
   rw [event_bytes] at this
   omega
  ·omega
 refine ⟨A,len,cap,(List.range len).map f,rfl,by simp,hbd,hl,vss,hvl,hR,fun i h1 h2=>?_⟩
 have:=hf i h2
 simpa using this
theorem batch_at {fuel:Nat} {cs:List Value} {x:DataW H × List MemPlace} (h:DataW.trod enc Tryz.prog W 0 (fun _=>true) true fuel 69 cs=some x) (hw:∀ n∈x.1.weights Tryz.prog 69,n≤140737488351232) :
  ∃ b:Bt,BtV W W.heap.size b cs∧(Lit.int .i64 b.1).wf=true:=by
 obtain ⟨y0,y1,n',rfl,hlen,t0,t1⟩:=trod_struct2 Tryz.underlying69 h
 rw [batch_cells] at hlen
 match cs,hlen with
 | [u0,u1],_ =>
  simp only [int_cells,events_cells,List.drop_zero,List.drop_succ_cons,List.take_succ_cons,List.take_zero] at t0 t1
  obtain ⟨k,e0,rfl,wk⟩:=DataW.trod_int Tryz.underlying3 t0
  simp only [List.cons.injEq,and_true] at e0
  subst e0
  obtain ⟨F,n,c,l,rfl,hf⟩:=events_in t1 (weights_part (j:=1) Tryz.underlying69 hw rfl rfl)
  exact ⟨(k,l),⟨F,n,c,rfl,hf⟩,wk⟩
end
end Go.Proofs.YtlfpfkallgkjdaaGreat.Mx
end

section
namespace Go.Proofs.YtlfpfkallgkjdaaGreat.Al
open Go.RowKit Go.Maps Ut Tk Qy Qp Ev Mv
end Go.Proofs.YtlfpfkallgkjdaaGreat.Al
end

section
namespace Go.Proofs.YtlfpfkallgkjdaaGreat.Al
open Go.RowKit Go.Maps Ut Tk Qy Qp Ev Mv
theorem reads_gr {w w':World} {k n:Nat} {A:Option Addr} {xs:List Value} (hb:Below w.heap.size w w') (h:Reads w w.heap.size k A n xs):Reads w' w'.heap.size k A n xs:=reads_grow hb h
set_option maxHeartbeats 1600000 in
theorem sameInt_eq (F1 F2:Option Addr) (n c1 c2:Nat) (ps:List Int) (w:World) (h1:Reads w w.heap.size 1 F1 n (itv ps)) (h2:Reads w w.heap.size 1 F2 n (itv ps)) (hl:ps.length=n) (hn:n≤8796093021952) :
  Calls Tryz.prog 18 #[.slice F1 n c1,.slice F2 n c2] w fun e w'=>e=.returned (.bool true)∧Below w.heap.size w w':=by
 have H1:=zh h1
 have H2:=zh h2
 have Hl:=zh hl
 clear h1 h2 hl
 go_enter Tryz.func18,Tryz.ntmps18
 go_wp2
 go_loopw [5] (fun i wr=>∃ k:Nat,k≤n∧i=.int .i64 k∧Below w.heap.size w wr) (fun i _=>n - (intOf i).toNat)
 case atStart=>exact ⟨0,Nat.zero_le _,rfl,Below.refl _ _⟩
 case round =>
  obtain ⟨k,hk,rfl,hb⟩:=hrel
  by_cases hlt:k<n
  ·have hkp:k<ps.length:=by rw [Hl.out]; exact hlt
   have hcl:(itv ps)[k]?=some (.int .i64 ps[k]):=itv_get ps k hkp
   obtain ⟨b1,o1,rfl,hl1,g1⟩:=(reads_gr hb H1.out).2 (by omega)
   obtain ⟨b2,o2,rfl,hl2,g2⟩:=(reads_gr hb H2.out).2 (by omega)
   have g1:=g1 k _ hcl
   have g2:=g2 k _ hcl
   generalize ps[k]=s at *
   have hss:(s != s)=false:=by simp
   have hi0:(0:Int)≤(k:Int):=by omega
   have hi1:(k:Int)<(n:Int):=by omega
   have Hb:=zh hb
   clear hb hcl hkp
   go_wp2_with fail
   go_quiet (fail)
   go_wp2
   go_roundw
   case rel=>exact ⟨k+1,by omega,by go_num,Mx.below_dN Hb.out nq⟩
   case measure=>simp [intOf]; omega
  ·obtain rfl:k=n:=by omega
   have Hb:=zh hb
   clear hb
   go_wp2
   go_ret
   exact ⟨rfl,Hb.out⟩
def TextP (w:World) (s:ByteArray) (e:Ending) (w':World):Prop:=∃ g,e=.returned (.agg #[.int .i64 0,.slice (some ⟨g,0,none⟩) 1 1])∧FlAt w' w'.heap.size (some ⟨g,0,none⟩) 1 1 [(exM,s)]∧Below w.heap.size w w'
set_option maxHeartbeats 800000 in
theorem text_any (s:ByteArray) (w:World) (hs:s.size≤1000):Calls Tryz.prog 38 #[.string s] w (TextP w s):=by
 have hB1:Below w.heap.size w ((w.alloc (.cells #[.int .i64 0,.slice (some ⟨w.heap.size+1,0,none⟩) 1 1] 33)).alloc (.cells #[.string ⟨#[109,115,103]⟩,.string s] 99)):=((Below.refl _ _).alloc (zG _) _).alloc (by simp) _
 have hX1:=(Blk.new w 33 #[.int .i64 0,.slice (some ⟨w.heap.size+1,0,none⟩) 1 1]).alloc (.cells #[.string ⟨#[109,115,103]⟩,.string s] 99)
 have hF:=Rg.new_row (k:=2) (w.alloc (.cells #[.int .i64 0,.slice (some ⟨w.heap.size+1,0,none⟩) 1 1] 33)) 99 [.string ⟨#[109,115,103]⟩,.string s] 1 rfl (by omega)
 have H:=zh (And.intro hX1 (And.intro hF hB1))
 clear hX1 hF hB1
 go_enter Tryz.func38,Tryz.ntmps38
 go_wp2_with fail
 refine bodyPost_ret (results_cell rfl rfl (run_loadVar_row _ w.heap.size 33 33 #[.int .i64 0,.slice (some ⟨w.heap.size+1,0,none⟩) 1 1] (0,0) _ H.out.1 Tryz.underlying33 rfl (by kernel_rfl))) rfl ⟨w.heap.size+1,rfl,⟨?_,rfl,by omega,zG _,fun f hf=>?_,fun h=>(nomatch h)⟩,H.out.2.2⟩
 ·have:=H.out.2.1
  have e:(World.heap (w.alloc (.cells #[.int .i64 0,.slice (some ⟨w.heap.size+1,0,none⟩) 1 1] 33))).size=w.heap.size+1:=World.size_alloc _ _
  rw [e] at this
  exact this
 ·rw [List.mem_singleton] at hf
  subst hf
  exact ⟨show exM.size≤140737488351232 by decide,by show s.size≤_; omega⟩
theorem nums_reads {w w':World} {L:List Int} {v:Value} (h:w'.ownsRow w.heap.size 3 1 v L.length (itv L)):∃ A c,v=.slice A L.length c∧Reads w' w'.heap.size 1 A L.length (itv L):=by
 obtain ⟨A,c,rfl,hR,_⟩:=Ev.own_shape2 h
 exact ⟨A,c,rfl,hR⟩
set_option maxHeartbeats 6400000 in
theorem awake_any (w:World):Calls Tryz.prog 13 #[] w fun e w'=>e=.returned (.bool true)∧Below w.heap.size w w':=by
 go_enter Tryz.func13,Tryz.ntmps13
 go_wp2_with fail
 refine (new_any w).mono ?_
 rintro e w1 ⟨X,M1,M2,rfl,hX1,hb1,hM1,hM2,hXn⟩
 have HX1:=zh hX1
 have HB1:=zh hb1
 have C1:=zh (puts_any 3 (I64.of (by decide)) ⟨#[100,105,115,107,32,102,117,108,108]⟩ hX1 (by simp) (by omega))
 clear hX1 hb1
 go_wp2_with fail
 refine C1.out.mono ?_
 rintro e w2 ⟨E1,la,F1a,F2a,hp1,rfl,hX2,hc2,ho2⟩
 obtain ⟨rfl,hla⟩:=hp1.det (PutR.ok (q:=qA) (by decide) prsA (.inr (by decide)))
 rw [show put [] 3 ⟨⟨#[100,105,115,107,32,102,117,108,108]⟩,qA,needs qA⟩=[(3,kA)] from l1] at hla
 subst hla
 have hb2:Below w.heap.size w w2:=HB1.out.trans (hc2.below HB1.out.size (fun b hb=>by
  rcases hb with rfl | rfl | ⟨s,hs⟩
  ·exact hM1
  ·exact hM2
  ·cases hs))
 have ho2':∀ b,Own M1 M2 F2a b→w.heap.size≤b:=fun b hb=>by
  rcases ho2 b hb with (rfl | rfl | ⟨s,hs⟩) | h
  ·exact hM1
  ·exact hM2
  ·cases hs
  ·have:=HB1.out.size; omega
 have HX2:=zh hX2
 have HB2:=zh hb2
 have C2:=zh (puts_any 5 (I64.of (by decide)) ⟨#[78,79,84,32,100,105,115,107]⟩ hX2 (by decide) (by omega))
 clear hX2 hb2 hc2 ho2 hp1 C1 HX1
 go_wp2_with fail
 refine C2.out.mono ?_
 rintro e w3 ⟨E2,lb,F1b,F2b,hp2,rfl,hX3,hc3,ho3⟩
 obtain ⟨rfl,hlb⟩:=hp2.det (PutR.ok (q:=qB) (by decide) prsB (.inr (by decide)))
 rw [show put [(3,kA)] 5 ⟨⟨#[78,79,84,32,100,105,115,107]⟩,qB,needs qB⟩=[(3,kA),(5,kB)] from l2] at hlb
 subst hlb
 have hb3:Below w.heap.size w w3:=HB2.out.trans (hc3.below HB2.out.size (fun b hb=>ho2' b hb))
 have HX3:=zh hX3
 have HB3:=zh hb3
 have CT1:=zh (text_any sE1 w3 (by decide))
 clear hX3 hb3 hc3 ho3 hp2 C2 HX2 ho2'
 go_wp2_with fail
 refine CT1.out.mono ?_
 rintro e w4 ⟨g1,rfl,hf1,hb4⟩
 have HX4:=zh (HX3.out.below hb4)
 have HB4:=zh (HB3.out.trans (hb4.mono HB3.out.size))
 have CA1:=zh (ask_any 0 (some ⟨g1,0,none⟩) 1 1 [(exM,sE1)] hf1 HX4.out (by decide))
 have hk1:(if chkE [(exM,sE1)]=0 then (([(3,kA),(5,kB)]:List (Int × Kp)).filter (fun x=>matchB [(exM,sE1)] x.2.q)).map (·.1) else [])=[3]:=by rw [if_pos (by decide +kernel),a1]
 rw [hk1] at CA1
 clear hf1 hb4 hk1 CT1
 go_wp2_with fail
 refine CA1.out.mono ?_
 rintro e w5 ⟨v5,rfl,ho5,hb5⟩
 obtain ⟨A5,c5,rfl,hR5⟩:=nums_reads ho5
 have HX5:=zh (HX4.out.below hb5)
 have HB5:=zh (HB4.out.trans (hb5.mono HB4.out.size))
 have HR5:=zh hR5
 have k6:Below w5.heap.size w5 (w5.alloc (.cells #[.int .i64 3] 3)):=(Below.refl _ _).alloc (zG _) _
 have r6:=Rg.new_row (k:=1) w5 3 [.int .i64 3] 1 rfl (by omega)
 have C6:=zh (sameInt_eq A5 (some ⟨w5.heap.size,0,none⟩) 1 c5 1 [3] (w5.alloc (.cells #[.int .i64 3] 3)) (reads_grow k6 hR5) r6 rfl (by omega))
 have HX6:=zh (HX5.out.below k6)
 have HB6:=zh (HB5.out.trans (k6.mono HB5.out.size))
 clear ho5 hb5 hR5 k6 r6 CA1
 go_wp2_with fail
 refine C6.out.mono ?_
 rintro e w7 ⟨rfl,hb7⟩
 have HX7:=zh (HX6.out.below hb7)
 have HB7:=zh (HB6.out.trans (hb7.mono HB6.out.size))
 have CT2:=zh (text_any sE2 w7 (by decide))
 clear hb7 C6
 go_wp2_with fail
 refine CT2.out.mono ?_
 rintro e w8 ⟨g2,rfl,hf2,hb8⟩
 have HX8:=zh (HX7.out.below hb8)
 have HB8:=zh (HB7.out.trans (hb8.mono HB7.out.size))
 have CA2:=zh (ask_any 0 (some ⟨g2,0,none⟩) 1 1 [(exM,sE2)] hf2 HX8.out (by decide))
 have hk2:(if chkE [(exM,sE2)]=0 then (([(3,kA),(5,kB)]:List (Int × Kp)).filter (fun x=>matchB [(exM,sE2)] x.2.q)).map (·.1) else [])=[5]:=by rw [if_pos (by decide +kernel),a2]
 rw [hk2] at CA2
 clear hf2 hb8 hk2 CT2
 go_wp2_with fail
 refine CA2.out.mono ?_
 rintro e w9 ⟨v9,rfl,ho9,hb9⟩
 obtain ⟨A9,c9,rfl,hR9⟩:=nums_reads ho9
 have HX9:=zh (HX8.out.below hb9)
 have HB9:=zh (HB8.out.trans (hb9.mono HB8.out.size))
 have k10:Below w9.heap.size w9 (w9.alloc (.cells #[.int .i64 5] 3)):=(Below.refl _ _).alloc (zG _) _
 have r10:=Rg.new_row (k:=1) w9 3 [.int .i64 5] 1 rfl (by omega)
 have C10:=zh (sameInt_eq A9 (some ⟨w9.heap.size,0,none⟩) 1 c9 1 [5] (w9.alloc (.cells #[.int .i64 5] 3)) (reads_grow k10 hR9) r10 rfl (by omega))
 have HX10:=zh (HX9.out.below k10)
 have HB10:=zh (HB9.out.trans (k10.mono HB9.out.size))
 clear ho9 hb9 hR9 k10 r10 CA2
 go_wp2_with fail
 refine C10.out.mono ?_
 rintro e w11 ⟨rfl,hb11⟩
 have HX11:=zh (HX10.out.below hb11)
 have HB11:=zh (HB10.out.trans (hb11.mono HB10.out.size))
 have C12:=zh (len_any HX11.out)
 clear hb11 C10
 go_wp2_with fail
 refine C12.out.mono ?_
 rintro e w12 ⟨rfl,hw⟩
 subst hw
 go_wp2
 go_ret
 exact ⟨rfl,HB11.out⟩
end Go.Proofs.YtlfpfkallgkjdaaGreat.Al
end

section
namespace Go.Proofs.YtlfpfkallgkjdaaGreat.Mx
open Go.RowKit Go.ChangeShapes Go.WideShapes Go.ChangeAt Go.Deep Go.Joins Ut Tk Qy Ev Qp
theorem batch_in {H:Type} {enc:TypeId × Value→H} {W:World} {base:Nat} {v:Value} {d:DataW H} {p:List MemPlace} (hv:Value.okWide Tryz.prog W .any base 69 v) (h:DataW.Trod enc Tryz.prog W 0 (fun _=>true) true 69 v d p) (hw:∀ n∈d.weights Tryz.prog 69,n≤140737488351232) :
  ∃ (sq:Int) (E:Option Addr) (m q:Nat) (evs:List Evn),v=.agg #[.int .i64 sq,.slice E m q]∧EvsAt W W.heap.size E m q evs:=by
 obtain ⟨cs,rfl,_⟩:=okWide_struct Tryz.underlying69 hv
 obtain ⟨fuel,hf⟩:=h
 obtain ⟨b,hb,_⟩:=batch_at hf hw
 obtain ⟨E,m,q,e,hE⟩:=hb
 have e':cs=#[.int .i64 b.1,.slice E m q]:=by
  have e:cs.toList=_:=e
  exact Array.toList_inj.1 e
 subst e'
 exact ⟨_,_,_,_,_,rfl,hE⟩
end Go.Proofs.YtlfpfkallgkjdaaGreat.Mx
end
