/- Docs, as they lie in memory: rows that came in, rows of the call's own. -/
import Derived.Test.YtlfpfkallgkjdaaGreatProg
import Derived.Lib.Hide
import Derived.Outline
import Derived.BigQuiet
import Derived.Deep.QuietTactic
import Derived.Test.YtlfpfkallgkjdaaGreatQAlertBatchesRow1
import Derived.Test.YtlfpfkallgkjdaaGreatQAlertBatchesRow2
import Derived.Test.YtlfpfkallgkjdaaGreatQAlertBatchesRow10
import Derived.Test.YtlfpfkallgkjdaaGreatQAlertBatchesRow0
set_option linter.unusedSimpArgs false
set_option linter.unusedVariables false
set_option maxRecDepth 20000
section
namespace Go.Proofs.YtlfpfkallgkjdaaGreat.Qy
open Go.RowKit
structure Dc where
 seq:Int
 at_:Int
 fs:List (ByteArray × ByteArray)
def DcV (w:World) (B:Nat) (d:Dc) (v:List Value):Prop:=∃ F fn fc,v=[.int .i64 d.seq,.int .i64 d.at_,.slice F fn fc]∧Reads w B 2 F fn (fldC d.fs)∧d.fs.length=fn∧fn≤8796093021952∧fn≤fc∧(F=none→fc=0)
theorem DcV.len {w:World} {B:Nat} {d:Dc} {v:List Value} (h:DcV w B d v):v.length=3:=by obtain ⟨F,fn,fc,rfl,_⟩:=h; rfl
theorem DcV.keep {w w':World} {B:Nat} {d:Dc} {v:List Value} (h:DcV w B d v) (hk:∀ b o,b<B→w'.cell? ⟨b,o,none⟩=w.cell? ⟨b,o,none⟩):DcV w' B d v:=by
 obtain ⟨F,fn,fc,e,h1,h2⟩:=h
 exact ⟨F,fn,fc,e,h1.keep hk,h2⟩
theorem DcV.more {w:World} {B B':Nat} {d:Dc} {v:List Value} (h:DcV w B d v) (hB:B≤B'):DcV w B' d v:=by
 obtain ⟨F,fn,fc,e,h1,h2⟩:=h
 exact ⟨F,fn,fc,e,h1.more hB,h2⟩
structure DocsAt (w:World) (B:Nat) (A:Option Addr) (n:Nat) (ds:List Dc):Prop where
 ln:ds.length=n
 ex:∃ vss:List (List Value),vss.length=n∧Reads w B 3 A n vss.flatten∧∀ i (h:i<ds.length) (h':i<vss.length),DcV w B ds[i] vss[i]
theorem DocsAt.keep {w w':World} {B n:Nat} {A:Option Addr} {ds:List Dc} (h:DocsAt w B A n ds) (hk:∀ b o,b<B→w'.cell? ⟨b,o,none⟩=w.cell? ⟨b,o,none⟩):DocsAt w' B A n ds:=by
 obtain ⟨vss,h1,h2,h3⟩:=h.ex
 exact ⟨h.ln,vss,h1,h2.keep hk,fun i a b=>(h3 i a b).keep hk⟩
theorem DocsAt.more {w:World} {B B' n:Nat} {A:Option Addr} {ds:List Dc} (h:DocsAt w B A n ds) (hB:B≤B'):DocsAt w B' A n ds:=by
 obtain ⟨vss,h1,h2,h3⟩:=h.ex
 exact ⟨h.ln,vss,h1,h2.more hB,fun i a b=>(h3 i a b).more hB⟩
theorem DocsAt.grow {w w':World} {n:Nat} {A:Option Addr} {ds:List Dc} (h:DocsAt w w.heap.size A n ds) (hb:Below w.heap.size w w'):DocsAt w' w'.heap.size A n ds:=(h.keep fun _ _ hp=>hb.cell hp).more hb.size
theorem DocsAt.nil {w:World} {B:Nat} {A:Option Addr}:DocsAt w B A 0 []:=⟨rfl,[],rfl,⟨by simp,fun h=>absurd h (by omega)⟩,fun i h=>absurd h (by simp)⟩
theorem DocsAt.at_ {w:World} {B n:Nat} {A:Option Addr} {ds:List Dc} (h:DocsAt w B A n ds) {i:Nat} (hi:i<ds.length) :
  ∃ b o F fn fc,A=some ⟨b,o,none⟩∧b<B∧w.cell? ⟨b,o+i * 3,none⟩=some (.int .i64 ds[i].seq)∧w.cell? ⟨b,o+i * 3+1,none⟩=some (.int .i64 ds[i].at_)∧w.cell? ⟨b,o+i * 3+2,none⟩=some (.slice F fn fc) ∧
   Reads w B 2 F fn (fldC ds[i].fs)∧ds[i].fs.length=fn∧fn≤8796093021952∧fn≤fc∧(F=none→fc=0):=by
 obtain ⟨vss,h1,h2,h3⟩:=h.ex
 have hl:=h.ln
 have hi':i<vss.length:=by omega
 have h4:∀ v∈vss,v.length=3:=fun v hv=>by
  obtain ⟨j,hj,rfl⟩:=List.mem_iff_getElem.1 hv
  exact (h3 j (by omega) hj).len
 obtain ⟨F,fn,fc,e,g1,g2,g3,g4⟩:=h3 i hi hi'
 obtain ⟨b,o,eA,hb,hc⟩:=h2.2 (by omega)
 have f0:=flat_get h4 i 0 hi' (by omega)
 have f1:=flat_get h4 i 1 hi' (by omega)
 have f2:=flat_get h4 i 2 hi' (by omega)
 rw [e] at f0 f1 f2
 have c0:=hc _ _ f0
 have c1:=hc _ _ f1
 have c2:=hc _ _ f2
 rw [← Nat.add_assoc] at c1 c2
 exact ⟨b,o,F,fn,fc,eA,hb,c0,c1,c2,g1,g2,g3,g4⟩
def Far (w:World) (base:Nat) (v:List Value):Prop:=∀ F fn fc,v[2]?=some (.slice F fn fc)→0<fn→∃ b o,F=some ⟨b,o,none⟩∧(b<base∨∃ cs fr,w.heap[b]?=some (.cells cs 99 fr))
structure DocsOwn (w wr:World) (v:Value) (ds:List Dc):Prop where
 ex:∃ vss:List (List Value),vss.length=ds.length∧wr.ownsRow w.heap.size 132 3 v ds.length vss.flatten∧∀ i (h:i<ds.length) (h':i<vss.length),DcV wr wr.heap.size ds[i] vss[i]∧Far wr w.heap.size vss[i]
 bel:Below w.heap.size w wr
theorem DocsOwn.start (w:World):DocsOwn w w (.slice none 0 0) []:=⟨⟨[],rfl,World.ownsRow_nil _ _ _ _,fun i h=>absurd h (by simp)⟩,Below.refl _ _⟩
theorem Far.grown {w w':World} {base:Nat} {v:List Value} {row:Option Nat} (h:Far w base v) (hg:w.grownBy w' row) (hr:∀ b,row=some b→base≤b∧∀ cs fr,w.heap[b]?≠some (.cells cs 99 fr)):Far w' base v:=by
 intro F fn fc hv hn
 obtain ⟨b,o,e,h1 | ⟨cs,fr,h1⟩⟩:=h F fn fc hv hn
 ·exact ⟨b,o,e,.inl h1⟩
 ·refine ⟨b,o,e,.inr ⟨cs,fr,?_⟩⟩
  have hlt:b<w.heap.size:=(Array.getElem?_eq_some_iff.1 h1).1
  rw [hg.block b hlt (fun er=>(hr b er.symm).2 cs fr h1)]
  exact h1
theorem Far.below {w w':World} {base:Nat} {v:List Value} (h:Far w base v) (hb:Below w.heap.size w w'):Far w' base v:=h.grown (grow_of_below hb none) (fun b e=>by cases e)
theorem DocsOwn.below {w wr w2:World} {v:Value} {ds:List Dc} (h:DocsOwn w wr v ds) (hb:Below wr.heap.size wr w2):DocsOwn w w2 v ds:=by
 obtain ⟨vss,h1,h2,h3⟩:=h.ex
 exact ⟨⟨vss,h1,h2.kept (grow_of_below hb none) (by cases hv:v.ownBlock <;> simp),fun i a b=>⟨((h3 i a b).1.keep fun _ _ hp=>hb.cell hp).more hb.size,(h3 i a b).2.below hb⟩⟩,h.bel.trans (hb.mono h.bel.size)⟩
theorem own_block {w:World} {base:Nat} {e:TypeId} {size n:Nat} {v:Value} {xs:List Value} (h:w.ownsRow base e size v n xs):∀ b,v.ownBlock=some b→base≤b∧∃ cur,w.heap[b]?=some (.cells cur e (0,0)):=by
 intro b hb
 rcases h.2 with ⟨rfl,_⟩ | ⟨g,cap,cur,rfl,h1,h2,_⟩
 ·cases hb
 ·injection hb with hb
  subst hb
  exact ⟨h1,cur,h2⟩
theorem DocsOwn.put {w wr w2:World} {v v':Value} {ds:List Dc} {d:Dc} {u:List Value} {xs:List Value} (h:DocsOwn w wr v ds) (hx:∃ vss:List (List Value),vss.length=ds.length∧wr.ownsRow w.heap.size 132 3 v ds.length vss.flatten∧(∀ i (h:i<ds.length) (h':i<vss.length),DcV wr wr.heap.size ds[i] vss[i]∧Far wr w.heap.size vss[i])∧xs=vss.flatten)
  (hp:w2.ownsRow w.heap.size 132 3 v' (ds.length+1) (xs ++ u)) (hg:wr.grownBy w2 v.ownBlock) (hd:DcV wr wr.heap.size d u) (hf:Far wr w.heap.size u):DocsOwn w w2 v' (ds ++ [d]):=by
 obtain ⟨vss,h1,h2,h3,rfl⟩:=hx
 have hown:=own_block h2
 have hr:∀ b,v.ownBlock=some b→w.heap.size≤b∧∀ cs fr,wr.heap[b]?≠some (.cells cs 99 fr):=fun b hb=>by
  obtain ⟨h4,cur,h5⟩:=hown b hb
  refine ⟨h4,fun cs fr e=>?_⟩
  rw [h5] at e
  injection e with e
  injection e with _ e
  exact absurd e (by decide)
 have keep:∀ (d:Dc) (u:List Value),DcV wr wr.heap.size d u→Far wr w.heap.size u→DcV w2 w2.heap.size d u:=fun d u hd hf=>by
  obtain ⟨F,fn,fc,rfl,g1,g2,g3,g4⟩:=hd
  refine ⟨F,fn,fc,rfl,(g1.grown hg (zG _) ?_).more hg.size,g2,g3,g4⟩
  intro b o e hn er
  obtain ⟨b',o',e',h4⟩:=hf F fn fc rfl hn
  rw [e] at e'
  injection e' with e'
  injection e' with e1 e2
  subst e1
  obtain ⟨h5,h6⟩:=hr b er.symm
  rcases h4 with h4 | ⟨cs,fr,h4⟩
  ·omega
  ·exact h6 cs fr h4
 refine ⟨⟨vss ++ [u],by simp [h1],?_,fun i a b=>?_⟩,h.bel.grown hg h.bel.size (fun k hk=>(hr k hk).1)⟩
 ·rw [List.flatten_append,List.length_append]
  simpa using hp
 ·by_cases hi:i<ds.length
  ·rw [List.getElem_append_left hi,List.getElem_append_left (by omega)]
   have:=h3 i hi (by omega)
   exact ⟨keep _ _ this.1 this.2,this.2.grown hg hr⟩
  ·have hi':i=ds.length:=by simp at a; omega
   subst hi'
   rw [List.getElem_append_right (by omega),List.getElem_append_right (by omega)]
   simp only [Nat.sub_self,h1,List.getElem_cons_zero]
   exact ⟨keep _ _ hd hf,hf.grown hg hr⟩
theorem DocsOwn.read {w wr:World} {v:Value} {ds:List Dc} (h:DocsOwn w wr v ds):∃ A c,v=.slice A ds.length c∧DocsAt wr wr.heap.size A ds.length ds:=by
 obtain ⟨vss,h1,h2,h3⟩:=h.ex
 obtain ⟨A,c,e,hR⟩:=own_shape h2
 exact ⟨A,c,e,rfl,vss,h1,hR,fun i a b=>(h3 i a b).1⟩
end Go.Proofs.YtlfpfkallgkjdaaGreat.Qy
end

section
namespace Go.Proofs.YtlfpfkallgkjdaaGreat.Qy
open Go.RowKit Ut Tk
theorem doc_info:(Tryz.prog.info? 132).map (fun i=>(i.zero,i.size,i.bytes))=some (some (.agg #[.int .i64 0,.int .i64 0,.slice none 0 0]),3,40):=by kernel_rfl
theorem fld_info:(Tryz.prog.info? 99).map (fun i=>(i.zero,i.size,i.bytes))=some (some (.agg #[.string ByteArray.empty,.string ByteArray.empty]),2,32):=by kernel_rfl
theorem own_succ {w:World} {base:Nat} {e:TypeId} {size n:Nat} {v:Value} {xs:List Value} (h:w.ownsRow base e size v (n+1) xs):∃ g q,v=.slice (some ⟨g,0,none⟩) (n+1) q:=by
 rcases h.2 with ⟨_,h0⟩ | ⟨g,cap,cur,hv,_⟩
 ·omega
 ·exact ⟨g,cap,hv⟩
theorem grownBy_setC (w:World) (h o:Nat) (u:Value):w.grownBy (w.setCell ⟨h,o,none⟩ u) (some h) :=
 ⟨rfl,rfl,rfl,by simp [World.setCell],fun k _ hne=>Below.heap_setCell _ _ _ _ (fun e=>hne (by rw [e]))⟩
theorem own_shape2 {w:World} {base:Nat} {e:TypeId} {size n:Nat} {v:Value} {xs:List Value} (h:w.ownsRow base e size v n xs) :
  ∃ A c,v=.slice A n c∧Reads w w.heap.size size A n xs∧n≤c∧(A=none→c=0)∧(0<n→∃ g,A=some ⟨g,0,none⟩∧∃ cur,w.heap[g]?=some (.cells cur e (0,0))):=by
 obtain ⟨A,c,rfl,hR⟩:=own_shape h
 refine ⟨A,c,rfl,hR,?_⟩
 rcases h.2 with ⟨hv,h0⟩ | ⟨g,cap,cur,hv,_,hg,hnc,_⟩
 ·injection hv with _ _ hc
  exact ⟨by omega,fun _=>hc,fun h=>by omega⟩
 ·injection hv with hA _ hc
  exact ⟨by omega,fun e=>(by rw [hA] at e; cases e),fun _=>⟨g,hA,cur,hg⟩⟩
structure Flds (wo wq:World) (pd:Nat) (s a:Int) (fs:List (ByteArray × ByteArray)):Prop where
 ex:∃ v,Blk wq pd 132 #[.int .i64 s,.int .i64 a,v]∧wq.ownsRow (wo.heap.size+1) 99 2 v fs.length (fldC fs)
 bel:Below wo.heap.size wo wq
 ge:pd=wo.heap.size
end Go.Proofs.YtlfpfkallgkjdaaGreat.Qy
end

section
namespace Go.Proofs.YtlfpfkallgkjdaaGreat.Ev
open Go.RowKit Ut Tk Qy
structure FlAt (w:World) (B:Nat) (F:Option Addr) (fn fc:Nat) (fs:List Fl):Prop where
 rd:Reads w B 2 F fn (fldC fs)
 len:fs.length=fn
 few:fn≤8796093021952
 cap:fn≤fc
 sz:∀ f∈fs,f.1.size≤140737488351232∧f.2.size≤140737488351232
 nl:F=none→fc=0
theorem FlAt.keep {w w':World} {B:Nat} {F:Option Addr} {fn fc:Nat} {fs:List Fl} (h:FlAt w B F fn fc fs) (hk:∀ b o,b<B→w'.cell? ⟨b,o,none⟩=w.cell? ⟨b,o,none⟩):FlAt w' B F fn fc fs:=⟨h.rd.keep hk,h.len,h.few,h.cap,h.sz,h.nl⟩
theorem FlAt.more {w:World} {B B':Nat} {F:Option Addr} {fn fc:Nat} {fs:List Fl} (h:FlAt w B F fn fc fs) (hB:B≤B'):FlAt w B' F fn fc fs:=⟨h.rd.more hB,h.len,h.few,h.cap,h.sz,h.nl⟩
theorem FlAt.grow {w w':World} {F:Option Addr} {fn fc:Nat} {fs:List Fl} (h:FlAt w w.heap.size F fn fc fs) (hb:Below w.heap.size w w'):FlAt w' w'.heap.size F fn fc fs:=(h.keep fun _ _ hp=>hb.cell hp).more hb.size
theorem FlAt.at_ {w:World} {B:Nat} {F:Option Addr} {fn fc:Nat} {fs:List Fl} (h:FlAt w B F fn fc fs) {k:Nat} (hk:k<fs.length) :
  ∃ b o,F=some ⟨b,o,none⟩∧b<B∧w.cell? ⟨b,o+k * 2,none⟩=some (.string fs[k].1)∧w.cell? ⟨b,o+k * 2+1,none⟩=some (.string fs[k].2):=Qy.fields_at h.rd hk
theorem drop_at {α:Type} (l:List α) (k:Nat) (h:k<l.length):l.drop k=l[k] :: l.drop (k+1):=List.drop_eq_getElem_cons h
theorem name_any (s:ByteArray) (w:World) (hs:s.size≤140737488351232):Calls Tryz.prog 71 #[.string s] w fun e w'=>e=.returned (.bool (isN s.data.toList))∧Below w.heap.size w w':=by
 have c:=isName_anyB s w hs
 go_enter Tryz.func71,Tryz.ntmps71
 go_wp2_with fail
 refine c.mono ?_
 rintro e w' ⟨rfl,hb⟩
 go_wp2
 go_ret
 exact ⟨rfl,hb⟩
set_option maxHeartbeats 1600000 in
theorem check_any (t:Int) (F:Option Addr) (fn fc:Nat) (fs:List Fl) (w:World) (h:FlAt w w.heap.size F fn fc fs) :
  Calls Tryz.prog 39 #[.agg #[.int .i64 t,.slice F fn fc]] w fun e w'=>e=.returned (.int .i64 (chkE fs))∧Below w.heap.size w w':=by
 have hl:=h.len
 have hl1:fs.length≤fn:=by omega
 have hl2:fn≤fs.length:=by omega
 have hcap:=h.cap
 have hfew:=h.few
 have Fin:Hid (chkE fs=if 16<fs.length then 3 else chkF fs):=rfl
 have H:=zh h
 have hB1:Hid (Below w.heap.size w (w.alloc (.cells #[.int .i64 t,.slice F fn fc] 33))):=zh ((Below.refl _ _).alloc (zG _) _)
 clear hl h
 generalize chkE fs=r at *
 by_cases hbig : 16<fs.length
 ·have hb16:(16:Int)<(fn:Int):=by omega
  go_enter Tryz.func39,Tryz.ntmps39
  go_wp2
  go_ret
  exact ⟨by rw [Fin.out,if_pos hbig]; rfl,hB1.out⟩
 ·have hb16:¬ (16:Int)<(fn:Int):=by omega
  have Fin2:Hid (r=chkF (fs.drop 0)):=zh (by rw [Fin.out,if_neg hbig,List.drop_zero])
  clear Fin hbig
  go_enter Tryz.func39,Tryz.ntmps39
  go_wp2
  go_loopw [12] (fun i wr=>∃ k:Nat,k≤fs.length∧i=.int .i64 (k:Nat)∧Hid (r=chkF (fs.drop k))∧Hid (Below w.heap.size w wr)) (fun i _=>fs.length - (intOf i).toNat)
  case atStart=>exact ⟨0,Nat.zero_le _,rfl,Fin2,hB1⟩
  case round =>
   clear Fin2 hB1
   obtain ⟨k,hk,rfl,hR,hB⟩:=hrel
   by_cases hlt:k<fs.length
   ·have hkz:(k:Int)<(fn:Int):=by omega
    obtain ⟨b,o,rfl,hbb,cn,ct⟩:=(H.out.keep (w':=wr) (fun b o hp=>hB.out.cell (p:=⟨b,o,none⟩) hp)).at_ hlt
    have hsz:=H.out.sz _ (List.getElem_mem hlt)
    have hR2:Hid (r=if isN fs[k].1.data.toList=false then 100 else if 4096<fs[k].2.size then 2 else chkF (fs.drop (k+1))):=zh (by rw [hR.out,drop_at _ _ hlt]; rfl)
    clear hR
    generalize hfk:fs[k]=f at *
    clear hfk
    obtain ⟨nm,tx⟩:=f
    simp only at cn ct hsz hR2
    obtain ⟨hs1,hs2⟩:=hsz
    go_wp2_with fail
    have hbW:Hid (Below w.heap.size w (wr.alloc (.cells #[.string nm,.string tx] 99))):=zh (hB.out.alloc hB.out.size _)
    have c:=name_any nm (wr.alloc (.cells #[.string nm,.string tx] 99)) hs1
    have d1:=(Blk.new wr 99 #[.string nm,.string tx]).cell 1
    have hlt1:wr.heap.size<(wr.alloc (.cells #[.string nm,.string tx] 99)).heap.size:=by simp
    simp only [zA,zB,zC] at d1
    generalize wr.alloc (.cells #[.string nm,.string tx] 99)=w1 at *
    clear hB cn ct
    refine c.mono ?_
    rintro e w2 ⟨rfl,hb2⟩
    have d2:=(hb2.cell (p:=⟨wr.heap.size,1,none⟩) hlt1).trans d1
    have hB2:Hid (Below w.heap.size w w2):=zh (hbW.out.trans (hb2.mono hbW.out.size))
    clear c d1 hb2 hbW
    by_cases hn:isN nm.data.toList=false
    ·rw [hn]
     go_wp2
     go_ret
     exact ⟨by rw [hR2.out,if_pos hn]; rfl,hB2.out⟩
    ·have hn2:isN nm.data.toList=true:=by simpa using hn
     rw [hn2]
     by_cases ht : 4096<tx.size
     ·have htz:(4096:Int)<(tx.size:Int):=by omega
      go_wp2
      go_ret
      exact ⟨by rw [hR2.out,if_neg hn,if_pos ht]; rfl,hB2.out⟩
     ·have htz:¬ (4096:Int)<(tx.size:Int):=by omega
      have hR3:Hid (r=chkF (fs.drop (k+1))):=zh (by rw [hR2.out,if_neg hn,if_neg ht])
      clear hR2 hn hn2
      go_wp2
      go_roundw
      case rel=>exact ⟨k+1,by omega,by go_num,hR3,hB2⟩
      case measure=>simp [intOf]; omega
   ·have hkz:¬ (k:Int)<(fn:Int):=by omega
    go_wp2
    go_ret
    exact ⟨by rw [hR.out,List.drop_eq_nil_of_le (by omega)]; rfl,hB.out⟩
end Go.Proofs.YtlfpfkallgkjdaaGreat.Ev
end

section
namespace Go.Proofs.YtlfpfkallgkjdaaGreat.Ev
open Go.RowKit Ut Tk Qy
theorem below_dn {B:Nat} (w:World) (n:Nat):Below B w (w.drewN n):=⟨rfl,rfl,rfl,zG _,fun _ _=>rfl⟩
theorem szF_at (fs:List Fl) (k:Nat) (h:k<fs.length):szF (fs.take (k+1))=szF (fs.take k)+(fs[k].1.size+fs[k].2.size):=by
 rw [List.take_succ_eq_append_getElem h,szF_snoc]
set_option maxHeartbeats 1600000 in
theorem size_any (t:Int) (F:Option Addr) (fn fc:Nat) (fs:List Fl) (w:World) (h:FlAt w w.heap.size F fn fc fs) (hok:chkE fs=0) :
  Calls Tryz.prog 95 #[.agg #[.int .i64 t,.slice F fn fc]] w fun e w'=>e=.returned (.int .i64 (szE fs))∧Below w.heap.size w w':=by
 have hl:=h.len
 have hl1:fs.length≤fn:=by omega
 have hl2:fn≤fs.length:=by omega
 have hcap:=h.cap
 have hsz:=szE_le hok
 have Fin:Hid ((szE fs:Int)=((16+szF (fs.take fs.length):Nat):Int)):=zh (by rw [List.take_length]; rfl)
 unfold szE at hsz
 have HZ:=fun k=>szF_take fs k
 have hfew:fn≤16:=by have:=(chkE_ok hok).1; omega
 have H:=zh h
 have HZ:=zh HZ
 have hB1:Hid (Below w.heap.size w (w.alloc (.cells #[.int .i64 t,.slice F fn fc] 33))):=zh ((Below.refl _ _).alloc (zG _) _)
 clear hl h hok
 generalize szE fs=r at *
 go_enter Tryz.func95,Tryz.ntmps95
 go_wp2
 go_loopw [3,9] (fun n i wr=>∃ k:Nat,k≤fs.length∧i=.int .i64 (k:Nat)∧n=.int .i64 ((16+szF (fs.take k):Nat):Int)∧Hid (Below w.heap.size w wr)) (fun _ i _=>fs.length - (intOf i).toNat)
 case atStart=>exact ⟨0,Nat.zero_le _,rfl,rfl,hB1⟩
 case round =>
  clear hB1
  obtain ⟨k,hk,rfl,rfl,hB⟩:=hrel
  by_cases hlt:k<fs.length
  ·have hkz:(k:Int)<(fn:Int):=by omega
   obtain ⟨b,o,rfl,hbb,cn,ct⟩:=(H.out.keep (w':=wr) (fun b o hp=>hB.out.cell (p:=⟨b,o,none⟩) hp)).at_ hlt
   have hat:=szF_at fs k hlt
   have hz1:=HZ.out (k+1)
   rw [hat] at hz1
   have HAT:Hid (szF (fs.take (k+1))=szF (fs.take k)+(fs[k].1.size+fs[k].2.size)):=zh hat
   clear hat
   generalize hfk:fs[k]=f at *
   clear hfk
   obtain ⟨nm,tx⟩:=f
   simp only at cn ct hz1 HAT
   generalize hzk:szF (fs.take k)=zk at *
   have hB2:Hid (Below w.heap.size w (wr.alloc (.cells #[.string nm,.string tx] 99))):=zh (hB.out.alloc hB.out.size _)
   clear hzk
   go_wp2
   go_roundw
   case rel=>exact ⟨k+1,by omega,by go_num,by rw [HAT.out]; go_num,hB2⟩
   case measure=>simp [intOf]; omega
  ·have hkz:¬ (k:Int)<(fn:Int):=by omega
   have e:k=fs.length:=by omega
   have Fin2:Hid ((r:Int)=((16+szF (fs.take k):Nat):Int)):=zh (by rw [e]; exact Fin.out)
   clear Fin e
   go_wp2
   go_ret
   exact ⟨by rw [Fin2.out]; rfl,hB.out⟩
set_option maxHeartbeats 1600000 in
theorem rcheck_any (t:Int) (F:Option Addr) (fn fc:Nat) (fs:List Fl) (w:World) (h:FlAt w w.heap.size F fn fc fs) :
  Calls Tryz.prog 22 #[.agg #[.int .i64 t,.slice F fn fc]] w fun e w'=>e=.returned (.int .i64 (chkE fs))∧Below w.heap.size w w':=by
 have hl:=h.len
 have hl1:fs.length≤fn:=by omega
 have hl2:fn≤fs.length:=by omega
 have hcap:=h.cap
 have hfew:=h.few
 have Fin:Hid (chkE fs=if 16<fs.length then 3 else chkF fs):=rfl
 have hB1:Below w.heap.size w (w.alloc (.cells #[.int .i64 t,.slice F fn fc] 33)):=(Below.refl _ _).alloc (zG _) _
 have hF1:=h.grow hB1
 have hX:=(Blk.new w 33 #[.int .i64 t,.slice F fn fc])
 have H:=zh (And.intro hF1 (And.intro hX hB1))
 clear hl h hF1 hX hB1
 generalize chkE fs=r at *
 by_cases hbig : 16<fs.length
 ·have hb16:(16:Int)<(fn:Int):=by omega
  go_enter Tryz.func22,Tryz.ntmps22
  go_wp2
  go_ret
  exact ⟨by rw [Fin.out,if_pos hbig]; rfl,H.out.2.2⟩
 ·have hb16:¬ (16:Int)<(fn:Int):=by omega
  have Fin2:Hid (r=chkF (fs.drop 0)):=zh (by rw [Fin.out,if_neg hbig,List.drop_zero])
  clear Fin hbig
  go_enter Tryz.func22,Tryz.ntmps22
  go_wp2
  generalize w.alloc (.cells #[.int .i64 t,.slice F fn fc] 33)=W0 at *
  go_loopw [3] (fun i wr=>∃ k:Nat,k≤fs.length∧i=.int .i64 (k:Nat)∧Hid (r=chkF (fs.drop k))∧Hid (Below W0.heap.size W0 wr)) (fun i _=>fs.length - (intOf i).toNat)
  case atStart=>exact ⟨0,Nat.zero_le _,rfl,Fin2,zh (Below.refl _ _)⟩
  case round =>
   clear Fin2
   obtain ⟨k,hk,rfl,hR,hB⟩:=hrel
   have d1:=(H.out.2.1.below hB.out H.out.2.1.lt).cell 1
   simp only [zA,zB,zC] at d1
   have hBw:Hid (Below w.heap.size w wr):=zh (H.out.2.2.trans (hB.out.mono H.out.2.2.size))
   by_cases hlt:k<fs.length
   ·have hkz:(k:Int)<(fn:Int):=by omega
    obtain ⟨b,o,rfl,hbb,cn,ct⟩:=(H.out.1.grow hB.out).at_ hlt
    have hsz:=H.out.1.sz _ (List.getElem_mem hlt)
    have hR2:Hid (r=if isN fs[k].1.data.toList=false then 100 else if 4096<fs[k].2.size then 2 else chkF (fs.drop (k+1))):=zh (by rw [hR.out,drop_at _ _ hlt]; rfl)
    clear hR
    generalize hfk:fs[k]=f at *
    clear hfk
    obtain ⟨nm,tx⟩:=f
    simp only at cn ct hsz hR2
    obtain ⟨hs1,hs2⟩:=hsz
    have c:=isName_refB nm wr hs1
    by_cases hn:isN nm.data.toList=false
    ·rw [hn] at c
     go_wp2_with fail
     refine c.mono ?_
     rintro e w2 ⟨rfl,rfl⟩
     go_wp2
     go_ret
     exact ⟨by rw [hR2.out,if_pos hn]; rfl,hBw.out⟩
    ·have hn2:isN nm.data.toList=true:=by simpa using hn
     rw [hn2] at c
     by_cases ht : 4096<tx.size
     ·have htz:(4096:Int)<(tx.size:Int):=by omega
      go_wp2_with fail
      refine c.mono ?_
      rintro e w2 ⟨rfl,rfl⟩
      go_wp2
      go_ret
      exact ⟨by rw [hR2.out,if_neg hn,if_pos ht]; rfl,hBw.out⟩
     ·have htz:¬ (4096:Int)<(tx.size:Int):=by omega
      have hR3:Hid (r=chkF (fs.drop (k+1))):=zh (by rw [hR2.out,if_neg hn,if_neg ht])
      clear hR2 hn hn2
      go_wp2_with fail
      refine c.mono ?_
      rintro e w2 ⟨rfl,rfl⟩
      go_wp2
      go_roundw
      case rel=>exact ⟨k+1,by omega,by go_num,hR3,hB⟩
      case measure=>simp [intOf]; omega
   ·have hkz:¬ (k:Int)<(fn:Int):=by omega
    go_wp2
    go_ret
    exact ⟨by rw [hR.out,List.drop_eq_nil_of_le (by omega)]; rfl,hBw.out⟩
set_option maxHeartbeats 1600000 in
theorem rsize_any (t:Int) (F:Option Addr) (fn fc:Nat) (fs:List Fl) (w:World) (h:FlAt w w.heap.size F fn fc fs) (hok:chkE fs=0) :
  Calls Tryz.prog 97 #[.agg #[.int .i64 t,.slice F fn fc]] w fun e w'=>e=.returned (.int .i64 (szE fs))∧Below w.heap.size w w':=by
 have hl:=h.len
 have hl1:fs.length≤fn:=by omega
 have hl2:fn≤fs.length:=by omega
 have hcap:=h.cap
 have hsz:=szE_le hok
 have Fin:Hid ((szE fs:Int)=((16+szF (fs.take fs.length):Nat):Int)):=zh (by rw [List.take_length]; rfl)
 unfold szE at hsz
 have HZ:=fun k=>szF_take fs k
 have hfew:fn≤16:=by have:=(chkE_ok hok).1; omega
 have HZ:=zh HZ
 have hB1:Below w.heap.size w (w.alloc (.cells #[.int .i64 t,.slice F fn fc] 33)):=(Below.refl _ _).alloc (zG _) _
 have hF1:=h.grow hB1
 have hX:=(Blk.new w 33 #[.int .i64 t,.slice F fn fc])
 have H:=zh (And.intro hF1 (And.intro hX hB1))
 clear hl h hok hF1 hX hB1
 generalize szE fs=r at *
 go_enter Tryz.func97,Tryz.ntmps97
 go_wp2
 generalize w.alloc (.cells #[.int .i64 t,.slice F fn fc] 33)=W0 at *
 go_loopw [3,4] (fun n i wr=>∃ k:Nat,k≤fs.length∧i=.int .i64 (k:Nat)∧n=.int .i64 ((16+szF (fs.take k):Nat):Int)∧Hid (Below W0.heap.size W0 wr)) (fun _ i _=>fs.length - (intOf i).toNat)
 case atStart=>exact ⟨0,Nat.zero_le _,rfl,rfl,zh (Below.refl _ _)⟩
 case round =>
  obtain ⟨k,hk,rfl,rfl,hB⟩:=hrel
  have d1:=(H.out.2.1.below hB.out H.out.2.1.lt).cell 1
  simp only [zA,zB,zC] at d1
  by_cases hlt:k<fs.length
  ·have hkz:(k:Int)<(fn:Int):=by omega
   have hk0:(0:Int)≤(k:Int):=by omega
   obtain ⟨b,o,rfl,hbb,cn,ct⟩:=(H.out.1.grow hB.out).at_ hlt
   have hat:=szF_at fs k hlt
   have hz1:=HZ.out (k+1)
   rw [hat] at hz1
   have HAT:Hid (szF (fs.take (k+1))=szF (fs.take k)+(fs[k].1.size+fs[k].2.size)):=zh hat
   clear hat
   generalize hfk:fs[k]=f at *
   clear hfk
   obtain ⟨nm,tx⟩:=f
   simp only at cn ct hz1 HAT
   generalize hzk:szF (fs.take k)=zk at *
   clear hzk
   have p1:IntKind.i64.wrap (16+(zk:Int)+(nm.size:Int))=16+(zk:Int)+(nm.size:Int):=by rw [IntKind.wrap_i64]; omega
   have p2:IntKind.i64.wrap (16+(zk:Int)+(nm.size:Int)+(tx.size:Int))=16+(zk:Int)+(nm.size:Int)+(tx.size:Int):=by rw [IntKind.wrap_i64]; omega
   go_wp2
   go_quiet (fail)
   clear p1 p2
   have hB2:Hid (Below W0.heap.size W0 (wr.drewN nq)):=zh (hB.out.trans (below_dn wr nq))
   clear hB d1 cn ct
   generalize wr.drewN nq=w2 at *
   go_wp2
   go_roundw
   case rel=>exact ⟨k+1,by omega,by go_num,by rw [HAT.out]; go_num,hB2⟩
   case measure=>simp [intOf]; omega
  ·have hkz:¬ (k:Int)<(fn:Int):=by omega
   have e:k=fs.length:=by omega
   have Fin2:Hid ((r:Int)=((16+szF (fs.take k):Nat):Int)):=zh (by rw [e]; exact Fin.out)
   clear Fin e
   go_wp2
   go_ret
   exact ⟨by rw [Fin2.out]; rfl,H.out.2.2.trans (hB.out.mono H.out.2.2.size)⟩
end Go.Proofs.YtlfpfkallgkjdaaGreat.Ev
end

section
namespace Go.Proofs.YtlfpfkallgkjdaaGreat.Ev
open Go.RowKit Ut Tk Qy
def EvV (w:World) (B:Nat) (e:Evn) (v:List Value):Prop:=∃ F fn fc,v=[.int .i64 e.1,.slice F fn fc]∧FlAt w B F fn fc e.2
theorem EvV.len {w:World} {B:Nat} {e:Evn} {v:List Value} (h:EvV w B e v):v.length=2:=by obtain ⟨F,fn,fc,rfl,_⟩:=h; rfl
structure EvsAt (w:World) (B:Nat) (A:Option Addr) (n c:Nat) (l:List Evn):Prop where
 ln:l.length=n
 few:n≤4398046511104
 cap:n≤c
 ex:∃ vss:List (List Value),vss.length=n∧Reads w B 2 A n vss.flatten∧∀ i (h:i<l.length) (h':i<vss.length),EvV w B l[i] vss[i]
theorem EvsAt.keep {w w':World} {B n c:Nat} {A:Option Addr} {l:List Evn} (h:EvsAt w B A n c l) (hk:∀ b o,b<B→w'.cell? ⟨b,o,none⟩=w.cell? ⟨b,o,none⟩):EvsAt w' B A n c l:=by
 obtain ⟨vss,h1,h2,h3⟩:=h.ex
 exact ⟨h.ln,h.few,h.cap,vss,h1,h2.keep hk,fun i a b=>by obtain ⟨F,fn,fc,e,g⟩:=h3 i a b; exact ⟨F,fn,fc,e,g.keep hk⟩⟩
theorem EvsAt.more {w:World} {B B' n c:Nat} {A:Option Addr} {l:List Evn} (h:EvsAt w B A n c l) (hB:B≤B'):EvsAt w B' A n c l:=by
 obtain ⟨vss,h1,h2,h3⟩:=h.ex
 exact ⟨h.ln,h.few,h.cap,vss,h1,h2.more hB,fun i a b=>by obtain ⟨F,fn,fc,e,g⟩:=h3 i a b; exact ⟨F,fn,fc,e,g.more hB⟩⟩
theorem EvsAt.grow {w w':World} {n c:Nat} {A:Option Addr} {l:List Evn} (h:EvsAt w w.heap.size A n c l) (hb:Below w.heap.size w w'):EvsAt w' w'.heap.size A n c l:=(h.keep fun _ _ hp=>hb.cell hp).more hb.size
theorem EvsAt.at_ {w:World} {B n c:Nat} {A:Option Addr} {l:List Evn} (h:EvsAt w B A n c l) {i:Nat} (hi:i<l.length) :
  ∃ b o F fn fc,A=some ⟨b,o,none⟩∧b<B∧w.cell? ⟨b,o+i * 2,none⟩=some (.int .i64 l[i].1)∧w.cell? ⟨b,o+i * 2+1,none⟩=some (.slice F fn fc)∧FlAt w B F fn fc l[i].2:=by
 obtain ⟨vss,h1,h2,h3⟩:=h.ex
 have hl:=h.ln
 have hi':i<vss.length:=by omega
 have h4:∀ v∈vss,v.length=2:=fun v hv=>by
  obtain ⟨j,hj,rfl⟩:=List.mem_iff_getElem.1 hv
  exact (h3 j (by omega) hj).len
 obtain ⟨F,fn,fc,e,g⟩:=h3 i hi hi'
 obtain ⟨b,o,eA,hb,hc⟩:=h2.2 (by omega)
 have f0:=flat_get h4 i 0 hi' (by omega)
 have f1:=flat_get h4 i 1 hi' (by omega)
 rw [e] at f0 f1
 have c0:=hc _ _ f0
 have c1:=hc _ _ f1
 rw [← Nat.add_assoc] at c1
 exact ⟨b,o,F,fn,fc,eA,hb,c0,c1,g⟩
theorem szL_at (l:List Evn) (k:Nat) (h:k<l.length):szL (l.take (k+1))=szL (l.take k)+szE l[k].2:=by
 rw [List.take_succ_eq_append_getElem h,szL_snoc]
theorem ok_at {l:List Evn} {k:Nat} (h:∀ e∈l.take k,chkE e.2=0) (hk:k<l.length) (h2:chkE l[k].2=0):∀ e∈l.take (k+1),chkE e.2=0:=fun e he=>by
 rw [List.take_succ_eq_append_getElem hk,List.mem_append,List.mem_singleton] at he
 rcases he with he | rfl
 ·exact h e he
 ·exact h2
theorem chkB_end {seq:Int} {l:List Evn} (h0:l≠[]) (h1:¬ 64<l.length) (h:∀ e∈l.take l.length,chkE e.2=0):chkB seq l=if 65536<szL l then 2 else if seq<1∨1099511627776 - (l.length:Int)+1<seq then 5 else 0:=by
 rw [List.take_length] at h
 unfold chkB
 rw [if_neg h0,if_neg h1,if_pos (fstE_ok h)]
theorem chkB_bad {seq:Int} {l:List Evn} {k:Nat} (h0:l≠[]) (h1:¬ 64<l.length) (hk:k<l.length) (h:∀ e∈l.take k,chkE e.2=0) (hne:chkE l[k].2≠0):chkB seq l=chkE l[k].2:=by
 have e:=fstE_at hk h hne
 unfold chkB
 rw [if_neg h0,if_neg h1,if_neg (by rw [e]; exact hne),e]
set_option maxHeartbeats 1600000 in
theorem checkBatch_any (seq:Int) (A:Option Addr) (n c:Nat) (l:List Evn) (w:World) (h:EvsAt w w.heap.size A n c l) :
  Calls Tryz.prog 57 #[.agg #[.int .i64 seq,.slice A n c]] w fun e w'=>e=.returned (.int .i64 (chkB seq l))∧Below w.heap.size w w':=by
 have hl:=h.ln
 have hl1:l.length≤n:=by omega
 have hl2:n≤l.length:=by omega
 have hcap:=h.cap
 have hfew:=h.few
 have hB1:Below w.heap.size w (w.alloc (.cells #[.int .i64 seq,.slice A n c] 69)):=(Below.refl _ _).alloc (zG _) _
 have hF1:=h.grow hB1
 have hX:=(Blk.new w 69 #[.int .i64 seq,.slice A n c])
 have H:=zh (And.intro hF1 (And.intro hX hB1))
 clear hl h hF1 hX hB1
 obtain ⟨r,hr⟩:∃ r,r=chkB seq l:=⟨_,rfl⟩
 rw [← hr]
 have Fin:=zh hr
 clear hr
 by_cases hz:n=0
 ·subst hz
  have e0:l=[]:=List.length_eq_zero_iff.1 (by omega)
  have F2:Hid (r=1):=zh (by rw [Fin.out,e0]; rfl)
  clear e0 Fin
  go_enter Tryz.func57,Tryz.ntmps57
  go_wp2
  go_ret
  exact ⟨by rw [F2.out]; rfl,H.out.2.2⟩
 ·have hz1:((n:Int)=0)=False:=eq_false (by omega)
  have hz2:((n:Int) == 0)=false:=by simp; omega
  have N0:Hid (l≠[]):=zh (fun e=>by rw [e] at hl2; simp at hl2; omega)
  by_cases hbig : 64<n
  ·have hbz:(64:Int)<(n:Int):=by omega
   have F2:Hid (r=3):=zh (by rw [Fin.out]; unfold chkB; rw [if_neg N0.out,if_pos (by omega)])
   clear Fin hz
   go_enter Tryz.func57,Tryz.ntmps57
   go_wp2
   go_ret
   exact ⟨by rw [F2.out]; rfl,H.out.2.2⟩
  ·have hbz:¬ (64:Int)<(n:Int):=by omega
   have N1:Hid (¬ 64<l.length):=zh (by omega)
   clear hz
   go_enter Tryz.func57,Tryz.ntmps57
   go_wp2
   generalize w.alloc (.cells #[.int .i64 seq,.slice A n c] 69)=W0 at *
   go_loopw [4,20] (fun s i wr=>∃ k:Nat,k≤l.length∧i=.int .i64 (k:Nat)∧s=.int .i64 (szL (l.take k):Nat)∧Hid (∀ e∈l.take k,chkE e.2=0)∧Hid (Below W0.heap.size W0 wr)) (fun _ i _=>l.length - (intOf i).toNat)
   case atStart=>exact ⟨0,Nat.zero_le _,rfl,rfl,zh (by simp),zh (Below.refl _ _)⟩
   case round =>
    obtain ⟨k,hk,rfl,rfl,hO,hB⟩:=hrel
    have d0:=(H.out.2.1.below hB.out H.out.2.1.lt).cell 0
    have d1:=(H.out.2.1.below hB.out H.out.2.1.lt).cell 1
    simp only [zA,zB,zC] at d0 d1
    have hBw:Hid (Below w.heap.size w wr):=zh (H.out.2.2.trans (hB.out.mono H.out.2.2.size))
    have hzt:=szL_le hO.out
    have hlt2:(l.take k).length≤k:=List.length_take_le _ _
    have hzb:szL (l.take k)≤4480000:=by omega
    clear hzt hlt2
    by_cases hlt:k<l.length
    ·have hkz:(k:Int)<(n:Int):=by omega
     have hk0:(0:Int)≤(k:Int):=by omega
     have hG:=H.out.1.grow hB.out
     obtain ⟨b,o,F,fn,fc,rfl,hbb,ca,cf,hFl⟩:=hG.at_ hlt
     have dbx:=Blk.new wr 33 #[.int .i64 l[k].1,.slice F fn fc]
     have hB2:Below W0.heap.size W0 (wr.alloc (.cells #[.int .i64 l[k].1,.slice F fn fc] 33)):=hB.out.alloc hB.out.size _
     have hFl2:=hFl.grow ((Below.refl _ wr).alloc (zG _) (.cells #[.int .i64 l[k].1,.slice F fn fc] 33))
     have HB2:=zh (And.intro hB2 dbx)
     clear hB2 dbx
     have CC:=zh (fun (wx:World) (hx:FlAt wx wx.heap.size F fn fc l[k].2)=>check_any l[k].1 F fn fc l[k].2 wx hx)
     have SS:=zh (fun (wx:World) (hx:FlAt wx wx.heap.size F fn fc l[k].2)=>size_any l[k].1 F fn fc l[k].2 wx hx)
     have HSZ:=zh (szL_at l k hlt)
     have BAD:Hid (chkE l[k].2≠0→r=chkE l[k].2):=zh (fun hne=>by rw [Fin.out]; exact chkB_bad N0.out N1.out hlt hO.out hne)
     have OKN:Hid (chkE l[k].2=0→∀ e∈l.take (k+1),chkE e.2=0):=zh (fun h=>ok_at hO.out hlt h)
     have HSB:Hid (chkE l[k].2=0→szE l[k].2≤70000):=zh szE_le
     have HFL:=zh hFl2
     clear hG hFl hO
     generalize hev:l[k]=ev at *
     clear hev
     obtain ⟨ta,fs⟩:=ev
     simp only at ca CC SS HSZ BAD OKN HSB
     clear hFl2
     simp only at HB2 HFL
     go_wp2_with fail
     generalize wr.alloc (.cells #[.int .i64 ta,.slice F fn fc] 33)=w1 at *
     have e0:=HB2.out.2.cell 0
     have e1:=HB2.out.2.cell 1
     simp only [zA,zB,zC] at e0 e1
     clear ca cf d0 d1
     go_wp2_with fail
     refine (CC.out _ HFL.out).mono ?_
     rintro e w2 ⟨rfl,hb2⟩
     have hB3:Hid (Below W0.heap.size W0 w2):=zh (HB2.out.1.trans (hb2.mono HB2.out.1.size))
     have HFL2:=zh (HFL.out.grow hb2)
     have dbx2:=HB2.out.2.below hb2 HB2.out.2.lt
     have e0:=dbx2.cell 0
     have e1:=dbx2.cell 1
     simp only [zA,zB,zC] at e0 e1
     clear dbx2 HB2
     have hBw3:Hid (Below w.heap.size w w2):=zh (H.out.2.2.trans (hB3.out.mono H.out.2.2.size))
     clear hb2 hB hBw CC HFL
     by_cases hc:chkE fs=0
     ·have OKN2:=zh (OKN.out hc)
      have hse:=HSB.out hc
      have HC:=zh hc
      rw [hc]
      clear hc BAD OKN HSB
      have hcz:((0:Int) != 0)=false:=rfl
      go_wp2_with fail
      refine (SS.out _ HFL2.out HC.out).mono ?_
      rintro e w3 ⟨rfl,hb3⟩
      have hB4:Hid (Below W0.heap.size W0 w3):=zh (hB3.out.trans (hb3.mono hB3.out.size))
      generalize hzk:szL (l.take k)=zk at *
      generalize hze:szE fs=ze at *
      clear hzk hze hb3 hB3 hBw3 SS HFL2
      go_wp2
      go_roundw
      case rel=>exact ⟨k+1,by omega,by go_num,by rw [HSZ.out]; go_num,OKN2,hB4⟩
      case measure=>simp [intOf]; omega
     ·have BAD2:=zh (BAD.out hc)
      generalize hcc:chkE fs=cc at *
      have hcz:(cc != 0)=true:=by simpa using hc
      have hcz2:(cc=0)=False:=eq_false hc
      clear hcc hc BAD OKN HSB SS HFL2
      go_wp2
      go_ret
      exact ⟨by rw [BAD2.out]; rfl,hBw3.out⟩
    ·have hkz:¬ (k:Int)<(n:Int):=by omega
     obtain rfl:k=l.length:=by omega
     have F2:Hid (r=if 65536<szL l then 2 else if seq<1∨1099511627776 - (l.length:Int)+1<seq then 5 else 0):=zh (by rw [Fin.out]; exact chkB_end N0.out N1.out hO.out)
     rw [List.take_length] at hzb ⊢
     clear Fin hO hlt hk
     by_cases hz : 65536<szL l
     ·have hzz:(65536:Int)<(szL l:Int):=by omega
      go_wp2
      go_ret
      exact ⟨by rw [F2.out,if_pos hz]; rfl,hBw.out⟩
     ·have hzz:¬ (65536:Int)<(szL l:Int):=by omega
      have hrng:(n:Int)≤64:=by omega
      by_cases hq1:seq<1
      ·have F3:Hid (r=5):=zh (by rw [F2.out,if_neg hz,if_pos (.inl hq1)])
       clear F2 hz
       go_wp2
       go_ret
       exact ⟨by rw [F3.out]; rfl,hBw.out⟩
      ·by_cases hq2 : 1099511627776 - (n:Int)+1<seq
       ·have F3:Hid (r=5):=zh (by rw [F2.out,if_neg hz,if_pos (.inr (by omega))])
        have hq3 : 1099511627776 - ((n:Int) - 1)<seq:=by omega
        clear F2 hz
        go_wp2
        go_ret
        exact ⟨by rw [F3.out]; rfl,hBw.out⟩
       ·have F3:Hid (r=0):=zh (by rw [F2.out,if_neg hz,if_neg (by omega)])
        have hq3:¬ 1099511627776 - ((n:Int) - 1)<seq:=by omega
        clear F2 hz
        go_wp2
        go_ret
        exact ⟨by rw [F3.out]; rfl,hBw.out⟩
set_option maxHeartbeats 1600000 in
theorem rcheckBatch_any (seq:Int) (A:Option Addr) (n c:Nat) (l:List Evn) (w:World) (h:EvsAt w w.heap.size A n c l) :
  Calls Tryz.prog 59 #[.agg #[.int .i64 seq,.slice A n c]] w fun e w'=>e=.returned (.int .i64 (chkB seq l))∧Below w.heap.size w w':=by
 have hl:=h.ln
 have hl1:l.length≤n:=by omega
 have hl2:n≤l.length:=by omega
 have hcap:=h.cap
 have hfew:=h.few
 have hB1:Below w.heap.size w (w.alloc (.cells #[.int .i64 seq,.slice A n c] 69)):=(Below.refl _ _).alloc (zG _) _
 have hF1:=h.grow hB1
 have hX:=(Blk.new w 69 #[.int .i64 seq,.slice A n c])
 have H:=zh (And.intro hF1 (And.intro hX hB1))
 clear hl h hF1 hX hB1
 obtain ⟨r,hr⟩:∃ r,r=chkB seq l:=⟨_,rfl⟩
 rw [← hr]
 have Fin:=zh hr
 clear hr
 by_cases hz:n=0
 ·subst hz
  have e0:l=[]:=List.length_eq_zero_iff.1 (by omega)
  have F2:Hid (r=1):=zh (by rw [Fin.out,e0]; rfl)
  clear e0 Fin
  go_enter Tryz.func59,Tryz.ntmps59
  go_wp2
  go_ret
  exact ⟨by rw [F2.out]; rfl,H.out.2.2⟩
 ·have hz1:((n:Int)=0)=False:=eq_false (by omega)
  have hz2:((n:Int) == 0)=false:=by simp; omega
  have N0:Hid (l≠[]):=zh (fun e=>by rw [e] at hl2; simp at hl2; omega)
  by_cases hbig : 64<n
  ·have hbz:(64:Int)<(n:Int):=by omega
   have F2:Hid (r=3):=zh (by rw [Fin.out]; unfold chkB; rw [if_neg N0.out,if_pos (by omega)])
   clear Fin hz
   go_enter Tryz.func59,Tryz.ntmps59
   go_wp2
   go_ret
   exact ⟨by rw [F2.out]; rfl,H.out.2.2⟩
  ·have hbz:¬ (64:Int)<(n:Int):=by omega
   have N1:Hid (¬ 64<l.length):=zh (by omega)
   clear hz
   go_enter Tryz.func59,Tryz.ntmps59
   go_wp2
   generalize w.alloc (.cells #[.int .i64 seq,.slice A n c] 69)=W0 at *
   go_loopw [3,4] (fun s i wr=>∃ k:Nat,k≤l.length∧i=.int .i64 (k:Nat)∧s=.int .i64 (szL (l.take k):Nat)∧Hid (∀ e∈l.take k,chkE e.2=0)∧Hid (Below W0.heap.size W0 wr)) (fun _ i _=>l.length - (intOf i).toNat)
   case atStart=>exact ⟨0,Nat.zero_le _,rfl,rfl,zh (by simp),zh (Below.refl _ _)⟩
   case round =>
    obtain ⟨k,hk,rfl,rfl,hO,hB⟩:=hrel
    have d0:=(H.out.2.1.below hB.out H.out.2.1.lt).cell 0
    have d1:=(H.out.2.1.below hB.out H.out.2.1.lt).cell 1
    simp only [zA,zB,zC] at d0 d1
    have hBw:Hid (Below w.heap.size w wr):=zh (H.out.2.2.trans (hB.out.mono H.out.2.2.size))
    have hzt:=szL_le hO.out
    have hlt2:(l.take k).length≤k:=List.length_take_le _ _
    have hzb:szL (l.take k)≤4480000:=by omega
    clear hzt hlt2
    by_cases hlt:k<l.length
    ·have hkz:(k:Int)<(n:Int):=by omega
     have hk0:(0:Int)≤(k:Int):=by omega
     have hG:=H.out.1.grow hB.out
     obtain ⟨b,o,F,fn,fc,rfl,hbb,ca,cf,hFl⟩:=hG.at_ hlt
     have CC:=zh (fun (wx:World) (hx:FlAt wx wx.heap.size F fn fc l[k].2)=>rcheck_any l[k].1 F fn fc l[k].2 wx hx)
     have SS:=zh (fun (wx:World) (hx:FlAt wx wx.heap.size F fn fc l[k].2)=>rsize_any l[k].1 F fn fc l[k].2 wx hx)
     have HSZ:=zh (szL_at l k hlt)
     have BAD:Hid (chkE l[k].2≠0→r=chkE l[k].2):=zh (fun hne=>by rw [Fin.out]; exact chkB_bad N0.out N1.out hlt hO.out hne)
     have OKN:Hid (chkE l[k].2=0→∀ e∈l.take (k+1),chkE e.2=0):=zh (fun h=>ok_at hO.out hlt h)
     have HSB:Hid (chkE l[k].2=0→szE l[k].2≤70000):=zh szE_le
     have HFL:=zh hFl
     clear hG hFl hO
     generalize hev:l[k]=ev at *
     clear hev
     obtain ⟨ta,fs⟩:=ev
     simp only at ca CC SS HSZ BAD OKN HSB
     go_wp2_with fail
     refine (CC.out _ HFL.out).mono ?_
     rintro e w2 ⟨rfl,hb2⟩
     have hB3:Hid (Below W0.heap.size W0 w2):=zh (hB.out.trans (hb2.mono hB.out.size))
     have HFL2:=zh (HFL.out.grow hb2)
     have d0:=(H.out.2.1.below hB3.out H.out.2.1.lt).cell 0
     have d1:=(H.out.2.1.below hB3.out H.out.2.1.lt).cell 1
     simp only [zA,zB,zC] at d0 d1
     have ca2:=(hb2.cell (p:=⟨b,o+k * 2,none⟩) hbb).trans ca
     have cf2:=(hb2.cell (p:=⟨b,o+k * 2+1,none⟩) hbb).trans cf
     clear ca cf
     have hBw3:Hid (Below w.heap.size w w2):=zh (H.out.2.2.trans (hB3.out.mono H.out.2.2.size))
     clear hb2 hB hBw CC HFL
     by_cases hc:chkE fs=0
     ·have OKN2:=zh (OKN.out hc)
      have hse:=HSB.out hc
      have HC:=zh hc
      rw [hc]
      clear hc BAD OKN HSB
      have hcz:((0:Int) != 0)=false:=rfl
      go_wp2_with fail
      refine (SS.out _ HFL2.out HC.out).mono ?_
      rintro e w3 ⟨rfl,hb3⟩
      have hB4:Hid (Below W0.heap.size W0 w3):=zh (hB3.out.trans (hb3.mono hB3.out.size))
      generalize hzk:szL (l.take k)=zk at *
      generalize hze:szE fs=ze at *
      clear hzk hze hb3 hB3 hBw3 SS HFL2
      go_wp2
      go_roundw
      case rel=>exact ⟨k+1,by omega,by go_num,by rw [HSZ.out]; go_num,OKN2,hB4⟩
      case measure=>simp [intOf]; omega
     ·have BAD2:=zh (BAD.out hc)
      generalize hcc:chkE fs=cc at *
      have hcz:(cc != 0)=true:=by simpa using hc
      have hcz2:(cc=0)=False:=eq_false hc
      clear hcc hc BAD OKN HSB SS HFL2
      go_wp2
      go_ret
      exact ⟨by rw [BAD2.out]; rfl,hBw3.out⟩
    ·have hkz:¬ (k:Int)<(n:Int):=by omega
     obtain rfl:k=l.length:=by omega
     have F2:Hid (r=if 65536<szL l then 2 else if seq<1∨1099511627776 - (l.length:Int)+1<seq then 5 else 0):=zh (by rw [Fin.out]; exact chkB_end N0.out N1.out hO.out)
     rw [List.take_length] at hzb ⊢
     clear Fin hO hlt hk
     by_cases hz : 65536<szL l
     ·have hzz:(65536:Int)<(szL l:Int):=by omega
      go_wp2
      go_ret
      exact ⟨by rw [F2.out,if_pos hz]; rfl,hBw.out⟩
     ·have hzz:¬ (65536:Int)<(szL l:Int):=by omega
      have hrng:(n:Int)≤64:=by omega
      by_cases hq1:seq<1
      ·have F3:Hid (r=5):=zh (by rw [F2.out,if_neg hz,if_pos (.inl hq1)])
       clear F2 hz
       go_wp2
       go_ret
       exact ⟨by rw [F3.out]; rfl,hBw.out⟩
      ·by_cases hq2 : 1099511627776 - (n:Int)+1<seq
       ·have F3:Hid (r=5):=zh (by rw [F2.out,if_neg hz,if_pos (.inr (by omega))])
        have hq3 : 1099511627776 - ((n:Int) - 1)<seq:=by omega
        clear F2 hz
        go_wp2
        go_ret
        exact ⟨by rw [F3.out]; rfl,hBw.out⟩
       ·have F3:Hid (r=0):=zh (by rw [F2.out,if_neg hz,if_neg (by omega)])
        have hq3:¬ 1099511627776 - ((n:Int) - 1)<seq:=by omega
        clear F2 hz
        go_wp2
        go_ret
        exact ⟨by rw [F3.out]; rfl,hBw.out⟩
end Go.Proofs.YtlfpfkallgkjdaaGreat.Ev
end
