/- event.based: the iterator's contract. -/
import Derived.RangeFuncNested
import Derived.RangeFuncBox
import Derived.RangeFuncBound
import Derived.RangeFuncCalls
import Derived.RangeFuncLeaves
import Derived.Shelf.Abstract
import Derived.OwnWalkIn
import Derived.TacticsInMore
import Derived.LoopNIn
import Derived.LoopIn
import Derived.Maps.AppendAt
import Derived.Laws.Rows
import Derived.Test.YtlfpfkallgkjdaaGreatQAlertBatchesRow10
import Derived.Test.YtlfpfkallgkjdaaGreatQAlertBatchesRow1
import Derived.Test.YtlfpfkallgkjdaaGreatQAlertBatchesRow12
import Derived.Test.YtlfpfkallgkjdaaGreatQAlertBatchesRow28
import Derived.Test.YtlfpfkallgkjdaaGreatQAlertBatchesRow13
import Derived.Test.YtlfpfkallgkjdaaGreatQAlertBatchesRow21
import Derived.Test.YtlfpfkallgkjdaaGreatQAlertBatchesRow47
import Derived.Test.YtlfpfkallgkjdaaGreatQAlertBatchesRow0
set_option linter.unusedSimpArgs false
set_option linter.unusedVariables false
set_option maxRecDepth 20000
section
namespace Go.Proofs.YtlfpfkallgkjdaaGreat.Ev
open Go.RowKit Go.Shelf Ut Tk Qy
attribute [local go_sem] Oper.semAt_some
def KE (n₀:Nat) (W W':World):Prop:=Below n₀ W W'∧∀ (b:Nat) (cs:Array Value) (T:TypeId) (fr:Nat × Nat),(T=33∨T=99)→W.heap[b]?=some (.cells cs T fr)→W'.heap[b]?=some (.cells cs T fr)
theorem KE.trans {n₀:Nat} {A B C:World} (h:KE n₀ A B) (k:KE n₀ B C):KE n₀ A C:=⟨h.1.trans k.1,fun b cs T fr hT hb=>k.2 b cs T fr hT (h.2 b cs T fr hT hb)⟩
theorem KE.below {n₀:Nat} {A B:World} (h:Below A.heap.size A B) (hn:n₀≤A.heap.size):KE n₀ A B:=⟨h.mono hn,fun b cs T fr hT hb=>(h.block b (Array.getElem?_eq_some_iff.1 hb).1).trans hb⟩
theorem KE.putObj {n₀:Nat} {w:World} (h:n₀≤w.heap.size) (W:World) (l:Nat) (o o':Obj) (hn:w.heap.size≤l) (hl:W.heap[l]?=some o) (hc:o.isCells=false) (hw:o.isWalk=false):KE n₀ W (W.putObj l o'):=by
 refine ⟨belowK_b h W l o o' hn hl hc hw,fun b cs T fr hT hb=>?_⟩
 refine (World.putObj_heap_other (fun e=>?_)).trans hb
 subst e
 rw [hl] at hb
 injection hb with hb
 subst hb
 cases hc
abbrev Xf:={ x:Nat × Fl // x.1≤100000∧x.2.1.size≤32∧x.2.2.size≤4096 }
structure BasedIn (t:Int) (F:Option Addr) (fn fc:Nat) (n₀ tb:Nat) (fs:List Fl) (J:List Xf→World→Prop) (wr:World) (k base:Nat) (pre:List Xf):Prop where
 le:k≤fs.length
 all:pre.map (·.1) ++ basedL base (fs.drop k)=basedL 0 fs
 bb:base≤k * 4160
 j:J pre wr
 bx:Blk wr tb 33 #[.int .i64 t,.slice F fn fc]
 rd:Reads wr n₀ 2 F fn (fldC fs)
 n0:n₀≤wr.heap.size
set_option maxRecDepth 100000 in
set_option maxHeartbeats 4000000 in
theorem based1_in (m:Nat) (hn : 1≤m) (l tb n₀ B:Nat) (t:Int) (F:Option Addr) (fn fc:Nat) (fs:List Fl) (hok:∀ f∈fs,f.1.size≤32∧f.2.size≤4096) (hlen:fs.length≤16) (J Jx:List Xf→World→Prop) (hJ:AbidesFrom B J)
  (hY:∀ pre (x:Xf) W,J pre W→pre.length<fs.length→YieldAt Fence.wide (m - 1) Tryz.prog l #[.int .i64 (x.1.1:Nat),.agg #[.string x.1.2.1,.string x.1.2.2]] W fun e W' =>
   (e=.returned (.bool true)∧J (pre ++ [x]) W'∧KE n₀ W W')∨(e=.returned (.bool false)∧Jx (pre ++ [x]) W'))
  (hJs:∀ pre W W',J pre W→Below W.heap.size W W'→J pre W')
  (W:World) (hb:Blk W tb 33 #[.int .i64 t,.slice F fn fc]) (hF:Reads W n₀ 2 F fn (fldC fs)) (hfn:fs.length=fn) (hfc:fn≤fc) (hnW:n₀≤W.heap.size) (h0:J [] W) :
  CallsIn Fence.wide m Tryz.prog 107 #[.func (.yield l) #[] #[],.pointer (some ⟨tb,0,none⟩)] W fun e W'=>(∃ v,e=.returned v) ∧
   ((∃ ys:List Xf,ys.map (·.1)=basedL 0 fs∧J ys W')∨(∃ pre:List Xf,pre.map (·.1) <+: basedL 0 fs∧Jx pre W')):=by
 have st:BasedIn t F fn fc n₀ tb fs J W 0 0 []:=⟨Nat.zero_le _,by simp,by omega,h0,hb,hF,hnW⟩
 have St:=zh st
 have HJs:=zh hJs
 have HY:=zh hY
 have HOK:=zh hok
 have HLN:=zh hfn
 have hl1:fn≤16:=by omega
 have hl2:fs.length≤fn:=by omega
 have hl3:fn≤fs.length:=by omega
 have c0:=hb.cell 1
 simp only [zA,zB,zC] at c0
 clear st h0 hb hJ hY hok hF hJs hfn hlen
 refine callsIn_of_wp Tryz.func107 rfl trivial ?_ rfl
 simp only [Tryz.ntmps107,List.size_toArray,List.length_cons,List.length_nil,Nat.reduceAdd,Nat.reduceSub,Array.replicate_succ,Array.replicate_zero,List.push_toArray,List.append_toArray,List.nil_append,List.cons_append]
 gi_wp2
 clear c0
 gi_loopw [3,9] (fun b i wr=>∃ (k base:Nat) (pre:List Xf),i=.int .i64 (k:Nat)∧b=.int .i64 (base:Nat)∧BasedIn t F fn fc n₀ tb fs J wr k base pre)
  (fun b i wr=>fs.length - (intOf i).toNat)
 case atStart=>exact ⟨0,0,[],rfl,rfl,St.out⟩
 case round =>
  clear St
  obtain ⟨k,base,pre,rfl,rfl,hR⟩:=hrel
  have hk:=hR.le
  have hbb:=hR.bb
  by_cases hlt:k<fs.length
  ·have hkf:k<fn:=by omega
   obtain ⟨fb,fo,eF,hfb,cn,ct⟩:=fields_at hR.rd hlt
   have hok:=HOK.out _ (List.getElem_mem hlt)
   have hk1:(k:Int)<(fn:Int):=by omega
   have hdr:fs.drop k=fs[k] :: fs.drop (k+1):=List.drop_eq_getElem_cons hlt
   have hal:=hR.all
   rw [hdr] at hal
   have hpl:pre.length<fs.length:=by
    have:=congrArg List.length hal
    rw [List.length_append,List.length_map,basedL_len,basedL_len] at this
    simp at this
    omega
   have hwl:=words_len fs[k].2
   have HR:=zh hR
   have Hal:=zh hal
   have HA:Hid (F=some ⟨fb,fo,none⟩):=zh eF
   subst eF
   generalize hfk:fs[k]=f at *
   obtain ⟨nm,tx⟩:=f
   have x0:base≤100000:=by omega
   obtain ⟨hn1,hn2⟩:=hok
   simp only at hn1 hn2 cn ct hwl
   have Hpl:=zh hpl
   have HFK:=zh hfk
   clear hal hR hdr hpl hfk
   gi_wp2_with fail
   have hbox:=Blk.new wr 99 #[.string nm,.string tx]
   have hbW:Below wr.heap.size wr (wr.alloc (.cells #[.string nm,.string tx] 99)):=(Below.refl _ _).alloc (zG _) _
   generalize hw1:wr.alloc (.cells #[.string nm,.string tx] 99)=w1 at *
   have hJ1:Hid (J pre w1):=zh (HJs.out pre wr w1 HR.out.j hbW)
   have Q1:Hid (Blk w1 tb 33 #[.int .i64 t,.slice (some ⟨fb,fo,none⟩) fn fc]∧Reads w1 n₀ 2 (some ⟨fb,fo,none⟩) fn (fldC fs)∧n₀≤w1.heap.size):=zh ⟨HR.out.bx.below hbW HR.out.bx.lt,HR.out.rd.keep (fun b o hb=>hbW.cell (p:=⟨b,o,none⟩) (Nat.lt_of_lt_of_le hb HR.out.n0)),Nat.le_trans HR.out.n0 hbW.size⟩
   obtain ⟨fn',tmps,assign,body,hy,hRd⟩:=HY.out pre ⟨(base,(nm,tx)),x0,hn1,hn2⟩ w1 hJ1.out Hpl.out
   dsimp only at hy
   have b0:=hbox.cell 0
   have b1:=hbox.cell 1
   simp only [zA,zB,zC] at b0 b1
   have HB:=zh hbox
   have HBW:=zh hbW
   clear hbox hbW cn ct hJ1
   rw [hy]
   gi_wp2
   refine hRd.mono ?_
   rintro e W3 (⟨rfl,hJ3,hk3⟩ | ⟨rfl,hJx3⟩)
   ·have hbx:Blk W3 tb 33 #[.int .i64 t,.slice (some ⟨fb,fo,none⟩) fn fc]:=hk3.2 _ _ _ _ (.inl rfl) Q1.out.1
    have hbf:Blk W3 wr.heap.size 99 #[.string nm,.string tx]:=hk3.2 _ _ _ _ (.inr rfl) HB.out
    have hrd3:Reads W3 n₀ 2 (some ⟨fb,fo,none⟩) fn (fldC fs):=Q1.out.2.1.keep (fun b o hb=>hk3.1.cell (p:=⟨b,o,none⟩) hb)
    have hn3:n₀≤W3.heap.size:=Nat.le_trans Q1.out.2.2 hk3.1.size
    have d1:=hbf.cell 1
    simp only [zA,zB,zC] at d1
    have c1:=tokens_any tx W3 (by omega)
    have C1:=zh c1
    have Hn:Hid (∀ W4,Below W3.heap.size W3 W4→BasedIn t (some ⟨fb,fo,none⟩) fn fc n₀ tb fs J W4 (k+1) (base+(64+(words tx.data.toList).length)) (pre ++ [⟨(base,(nm,tx)),x0,hn1,hn2⟩])):=zh (fun W4 hb4=>⟨by omega,by
      have:=Hal.out
      rw [← this]
      simp [basedL,List.map_append],by omega,HJs.out _ _ _ hJ3 hb4,hbx.below hb4 hbx.lt,hrd3.keep (fun b o hb=>hb4.cell (p:=⟨b,o,none⟩) (Nat.lt_of_lt_of_le hb hn3)),Nat.le_trans hn3 hb4.size⟩)
    clear hJ3 hk3 hy hbx hbf hrd3 hn3 c1 Hal HR HJs HFK
    gi_wp2_with fail
    refine ⟨trivial,(callsIn_wide.2 C1.out).mono ?_⟩
    rintro e W4 ⟨v,rfl,hown,hb4⟩
    obtain ⟨A4,c4,rfl,_⟩:=own_shape hown
    have Nx:=zh (Hn.out W4 hb4)
    have hx1:base≤100000:=x0
    have hx2:(words tx.data.toList).length≤4096:=by omega
    clear Hn hown hb4 C1
    gi_wp2
    go_roundw
    case rel=>exact ⟨k+1,base+(64+(words tx.data.toList).length),pre ++ [⟨(base,(nm,tx)),x0,hn1,hn2⟩],by go_num,by go_num,Nx.out⟩
    case measure=>simp [intOf]; omega
   ·have hpx:(pre ++ [⟨(base,(nm,tx)),x0,hn1,hn2⟩]:List Xf).map (·.1) <+: basedL 0 fs:=⟨basedL (base+(64+(words tx.data.toList).length)) (fs.drop (k+1)),by
     have:=Hal.out
     rw [← this]
     simp [basedL,List.map_append]⟩
    have Hpx:=zh hpx
    have Hjx:=zh hJx3
    clear hpx hJx3 hy
    gi_wp2
    refine bodyPost_ret (results_none rfl _ _ _) rfl ?_
    exact ⟨⟨_,rfl⟩,.inr ⟨_,Hpx.out,Hjx.out⟩⟩
  ·have hke:k=fs.length:=by omega
   have hal:=hR.all
   rw [hke,List.drop_length] at hal
   have Hal:Hid (pre.map (·.1)=basedL 0 fs):=zh (by simpa [basedL] using hal)
   have Hjr:=zh hR.j
   have hk2:¬ (k:Int)<(fn:Int):=by omega
   clear hal hR hke
   gi_wp2
   go_end0
   exact ⟨⟨_,rfl⟩,.inl ⟨pre,Hal.out,Hjr.out⟩⟩
end Go.Proofs.YtlfpfkallgkjdaaGreat.Ev
end

section
namespace Go.Proofs.YtlfpfkallgkjdaaGreat.Ev
open Go.RowKit Go.Shelf Ut Tk Qy Qp
def NT (n0:Nat) (W W':World):Prop:=Below n0 W W'∧∀ (b:Nat) (o:Obj),W.heap[b]?=some o→(∀ cs T fr,o=.cells cs T fr→T≠102∧T≠105)→W'.heap[b]?=some o
theorem NT.refl (n0:Nat) (W:World):NT n0 W W:=⟨Below.refl _ _,fun _ _ h _=>h⟩
theorem NT.trans {n0:Nat} {A B C:World} (h:NT n0 A B) (k:NT n0 B C):NT n0 A C:=⟨h.1.trans k.1,fun b o hb ho=>k.2 b o (h.2 b o hb ho) ho⟩
theorem NT.below {n0:Nat} {A B:World} (h:Below A.heap.size A B) (hn:n0≤A.heap.size):NT n0 A B:=⟨h.mono hn,fun b o hb _=>(h.block b (Array.getElem?_eq_some_iff.1 hb).1).trans hb⟩
theorem NT.ke {n0:Nat} {A B:World} (h:NT n0 A B):KE n0 A B:=⟨h.1,fun b cs T fr hT hb=>h.2 b _ hb (fun cs' T' fr' e=>by
 injection e with _ e
 subst e
 rcases hT with rfl | rfl <;> exact ⟨by decide,by decide⟩)⟩
theorem NT.others {n0:Nat} {A B:World} (h:NT n0 A B):KeepsOthers A B:=⟨h.1.size,fun b o hb ho=>h.2 b o hb (fun cs T fr e=>by subst e; cases ho)⟩
theorem NT.cells {n0:Nat} {A B:World} (h:NT n0 A B) {b:Nat} {cs:Array Value} {T:TypeId} {fr:Nat × Nat} (hb:A.heap[b]?=some (.cells cs T fr)) (h1:T≠102) (h2:T≠105):B.heap[b]?=some (.cells cs T fr) :=
 h.2 b _ hb (fun cs' T' fr' e=>by injection e with _ e; subst e; exact ⟨h1,h2⟩)
def CK (W W':World):Prop:=∀ (b:Nat) (cs:Array Value) (T:TypeId) (fr:Nat × Nat),W.heap[b]?=some (.cells cs T fr)→W'.heap[b]?=some (.cells cs T fr)
theorem CK.grown {W W':World} {row:Option Nat} (hg:W.grownBy W' row) (hr:∀ r,row=some r→∃ o:Obj,W.heap[r]?=some o∧o.isCells=false):CK W W':=fun b cs T fr hb=>by
 refine (hg.block b (Array.getElem?_eq_some_iff.1 hb).1 (fun e=>?_)).trans hb
 obtain ⟨o,h1,h2⟩:=hr b e.symm
 rw [hb] at h1
 injection h1 with h1
 subst h1
 cases h2
theorem own_ck {W W':World} {base k n:Nat} {T:TypeId} {v:Value} {xs:List Value} (h:W.ownsRow base T k v n xs) (hk:CK W W'):W'.ownsRow base T k v n xs :=
 ⟨h.1,h.2.elim .inl (fun ⟨g,cap,cur,hv,hg,hh,r⟩=>.inr ⟨g,cap,cur,hv,hg,hk _ _ _ _ hh,r⟩)⟩
structure Col (w W:World) (n0 lb:Nat) (v:Value) (L:List El) (R:List T1):Prop where
 bx:Boxed W lb 102 v
 own:W.ownsRow n0 105 2 v L.length (L.flatMap encE)
 pos:∀ x∈L,n0≤x.b∧W.heap[x.b]?=some (.cells #[.int .i64 (x.p:Nat)] 3 (0,0))
 ne:L.Pairwise (fun x y=>x.b≠y.b)
 is:L.map t1=R
 bel:Below n0 w W
 nl:L=[]→v=.slice none 0 0
def ColE (w W:World) (n0 lb:Nat) (R:List T1):Prop:=∃ v L,Col w W n0 lb v L R
theorem Col.ck {w W W':World} {n0 lb:Nat} {v:Value} {L:List El} {R:List T1} (h:Col w W n0 lb v L R) (hk:CK W W') (hb:Below n0 W W'):Col w W' n0 lb v L R :=
 ⟨hk _ _ _ _ h.bx,own_ck h.own hk,fun x hx=>⟨(h.pos x hx).1,hk _ _ _ _ (h.pos x hx).2⟩,h.ne,h.is,h.bel.trans hb,h.nl⟩
theorem Col.below {w W W':World} {n0 lb:Nat} {v:Value} {L:List El} {R:List T1} (h:Col w W n0 lb v L R) (hb:Below W.heap.size W W') (hn:n0≤W.heap.size):Col w W' n0 lb v L R :=
 h.ck (fun b cs T fr hc=>(hb.block b (Array.getElem?_eq_some_iff.1 hc).1).trans hc) (hb.mono hn)
theorem ColE.below {w W W':World} {n0 lb:Nat} {R:List T1} (h:ColE w W n0 lb R) (hb:Below W.heap.size W W') (hn:n0≤W.heap.size):ColE w W' n0 lb R:=by
 obtain ⟨v,L,h⟩:=h
 exact ⟨v,L,h.below hb hn⟩
theorem col_put {w W W2 w3:World} {n0 lb:Nat} {v v':Value} {L:List El} {R:List T1} {s:ByteArray} {p:Nat} {o2:Obj} (h:Col w W n0 lb v L R) (hlb:n0≤lb) (hn:n0≤W.heap.size)
  (hW2:W2=(W.alloc (.cells #[.int .i64 (p:Nat)] 3)).alloc o2)
  (hg:W2.grownBy w3 v.ownBlock) (hown:w3.ownsRow n0 105 2 v' (L.length+1) (L.flatMap encE ++ [.string s,.slice (some ⟨W.heap.size,0,none⟩) 1 1])) :
  Col w (w3.setCell ⟨lb,0,none⟩ v') n0 lb v' (L ++ [⟨s,p,W.heap.size⟩]) (R ++ [(s,p)])∧NT n0 W (w3.setCell ⟨lb,0,none⟩ v')∧Boxed w3 lb 102 v:=by
 have hb2:Below W.heap.size W W2:=by rw [hW2]; exact ((Below.refl _ _).alloc (zG _) _).alloc (by simp) _
 have hlbW:lb<W.heap.size:=h.bx.lt
 have hbx2:Boxed W2 lb 102 v:=(hb2.block lb hlbW).trans h.bx
 have hown2:=h.own.kept (grow_of_below hb2 none) (by cases hv:v.ownBlock <;> simp)
 have hvb:∀ g,v.ownBlock=some g→Tg W2 105 g∧n0≤g:=fun g e=>⟨tg_own hown2 e,(hown2.lt g e).1⟩
 have hlb3:Boxed w3 lb 102 v:=(hg.block lb hbx2.lt (fun e=>by
  have h1:=(hvb lb e.symm).1.one ⟨_,_,hbx2⟩
  exact absurd h1 (by decide))).trans hbx2
 have hbF:Boxed (w3.setCell ⟨lb,0,none⟩ v') lb 102 v':=hlb3.set v'
 have hgs:w3.grownBy (w3.setCell ⟨lb,0,none⟩ v') (some lb):=grownBy_setC w3 lb 0 v'
 have hneB:∀ g,v'.ownBlock=some g→g≠lb:=fun g e e2=>by
  subst e2
  have h1:=(tg_own hown e).one ⟨_,_,hlb3⟩
  exact absurd h1 (by decide)
 have hnt:NT n0 W (w3.setCell ⟨lb,0,none⟩ v'):=by
  refine ⟨?_,fun b o hb ho=>?_⟩
  ·have h1:Below n0 W W2:=hb2.mono hn
   have h2:Below n0 W2 w3:=(Below.refl n0 W2).grown hg (by have:=hb2.size; omega) (fun g e=>(hvb g e).2)
   exact (h1.trans h2).trans ((Below.refl n0 w3).setCell (p:=⟨lb,0,none⟩) hlb v')
  ·have hbl:=(Array.getElem?_eq_some_iff.1 hb).1
   have e2:W2.heap[b]?=some o:=(hb2.block b hbl).trans hb
   have e3:w3.heap[b]?=some o:=(hg.block b (by have:=hb2.size; omega) (fun e=>by
    obtain ⟨cs,fr,h1⟩:=(hvb b e.symm).1
    rw [e2] at h1
    injection h1 with h1
    exact (ho _ _ _ h1).2 rfl)).trans e2
   refine (hgs.block b (by have:=hg.size; have:=hb2.size; omega) (fun e=>?_)).trans e3
   injection e with e
   subst e
   rw [hlb3] at e3
   injection e3 with e3
   exact (ho _ _ _ e3.symm).1 rfl
 have hnew:(w3.setCell ⟨lb,0,none⟩ v').heap[W.heap.size]?=some (.cells #[.int .i64 (p:Nat)] 3 (0,0)):=by
  have e1:W2.heap[W.heap.size]?=some (.cells #[.int .i64 (p:Nat)] 3 (0,0)):=by
   rw [hW2]
   exact (Below.heap_alloc _ _ _ (by simp)).trans (World.alloc_heap_new W _)
  have hs2:W.heap.size<W2.heap.size:=(Array.getElem?_eq_some_iff.1 e1).1
  have e2:w3.heap[W.heap.size]?=some (.cells #[.int .i64 (p:Nat)] 3 (0,0)):=(hg.block _ hs2 (fun e=>by
   have h1:=(hvb _ e.symm).1.one ⟨_,_,e1⟩
   exact absurd h1 (by decide))).trans e1
  exact (hgs.block _ (by have:=hg.size; omega) (fun e=>by injection e with e; omega)).trans e2
 refine ⟨⟨hbF,?_,fun x hx=>?_,?_,by rw [List.map_append,h.is]; rfl,h.bel.trans hnt.1,fun e=>by simp at e⟩,hnt,hlb3⟩
 ·rw [List.flatMap_append,List.length_append]
  have h5:=hown.kept hgs (by
   cases hv:v'.ownBlock with
   | none=>exact .inl rfl
   | some g=>exact .inr (fun e=>hneB g hv (by injection e)))
  simpa [encE] using h5
 ·rcases List.mem_append.1 hx with hx | hx
  ·exact ⟨(h.pos x hx).1,hnt.cells (h.pos x hx).2 (by decide) (by decide)⟩
  ·rw [List.mem_singleton] at hx
   subst hx
   exact ⟨hn,hnew⟩
 ·refine List.pairwise_append.2 ⟨h.ne,List.pairwise_singleton _ _,fun x hx y hy=>?_⟩
  rw [List.mem_singleton] at hy
  subst hy
  have:=(Array.getElem?_eq_some_iff.1 (h.pos x hx).2).1
  show x.b≠W.heap.size
  omega
theorem ColE.own {w W W':World} {n0 lb:Nat} {R:List T1} (h:ColE w W n0 lb R) (hk:CK W W') (hb:Below n0 W W'):ColE w W' n0 lb R:=by
 obtain ⟨v,L,h⟩:=h
 exact ⟨v,L,h.ck hk hb⟩
theorem rawO_len (x:Nat × Fl):(rawO x).length=(words x.2.2.data.toList).length:=by simp [rawO]
theorem rawO_take (x:Nat × Fl) (k:Nat) (h:k<(words x.2.2.data.toList).length):(rawO x).take (k+1)=(rawO x).take k ++ [(termT x.2.1 (words x.2.2.data.toList)[k],x.1+k)]:=by
 rw [List.take_succ_eq_append_getElem (by rw [rawO_len]; exact h)]
 congr 2
 simp [rawO]
theorem pre_len (pre:List Xf):(pre.flatMap (fun y:Xf=>rawO y.1)).length≤pre.length * 4096:=by
 induction pre with
 | nil=>simp
 | cons x pre ih =>
  have h1:=words_len x.1.2.2
  have h2:=x.2.2.2
  rw [List.flatMap_cons,List.length_append,rawO_len,List.length_cons]
  omega
theorem rawO_up (x:Nat × Fl):(rawO x).Pairwise (fun a b=>a.2<b.2)∧∀ a∈rawO x,x.1≤a.2∧a.2<x.1+(words x.2.2.data.toList).length:=by
 refine ⟨?_,fun a ha=>?_⟩
 ·rw [List.pairwise_iff_getElem]
  intro i j hi hj hij
  simp [rawO]
  exact hij
 ·obtain ⟨i,hi,rfl⟩:=List.mem_iff_getElem.1 ha
  simp [rawO] at hi ⊢
  exact hi
theorem raw_up:∀ (fs:List Fl) (b:Nat),((basedL b fs).flatMap rawO).Pairwise (fun x y=>x.2<y.2)∧∀ x∈(basedL b fs).flatMap rawO,b≤x.2
 | [],b=>⟨List.Pairwise.nil,fun x hx=>(nomatch hx)⟩
 | f :: fs,b=>by
  obtain ⟨h1,h2⟩:=raw_up fs (b+(64+(words f.2.data.toList).length))
  obtain ⟨g1,g2⟩:=rawO_up (b,f)
  simp only [basedL,List.flatMap_cons]
  refine ⟨List.pairwise_append.2 ⟨g1,h1,fun x hx y hy=>?_⟩,fun x hx=>?_⟩
  ·have a1:=(g2 x hx).2
   have a2:=h2 y hy
   simp only at a1
   omega
  ·rcases List.mem_append.1 hx with hx | hx
   ·exact (g2 x hx).1
   ·have:=h2 x hx; omega
end Go.Proofs.YtlfpfkallgkjdaaGreat.Ev
end

section
namespace Go.Proofs.YtlfpfkallgkjdaaGreat.Ev
open Go.RowKit Go.Shelf Ut Tk Qy Qp
theorem own_set {w:World} {base k n g c:Nat} {T:TypeId} {xs:List Value} (h:w.ownsRow base T k (.slice (some ⟨g,0,none⟩) n c) n xs) (j:Nat) (hj:j<xs.length) (u:Value):(w.setCell ⟨g,j,none⟩ u).ownsRow base T k (.slice (some ⟨g,0,none⟩) n c) n (xs.set j u):=by
 obtain ⟨h1,h2⟩:=h
 refine ⟨by rw [List.length_set]; exact h1,?_⟩
 rcases h2 with ⟨e,_⟩ | ⟨g',cap,cur,e,hb,hh,hn,hc,hs,ht⟩
 ·cases e
 ·injection e with e1 e2 e3
  injection e1 with e1
  injection e1 with e1
  subst e1 e3
  refine .inr ⟨g,c,cur.setIfInBounds j u,rfl,hb,Go.heap_setCell_same w g j cur T u hh,hn,hc,by simpa using hs,?_⟩
  rw [← ht,Array.toList_setIfInBounds,List.take_set]
theorem own_below {w w':World} {base k n:Nat} {T:TypeId} {v:Value} {xs:List Value} (h:w.ownsRow base T k v n xs) (hb:Below w.heap.size w w'):w'.ownsRow base T k v n xs :=
 h.kept (grow_of_below hb none) (by cases hv:v.ownBlock <;> simp)
def nC (l:List Nat):List Value:=l.map fun n=>.int .i64 (n:Nat)
theorem nC_snoc (l:List Nat) (n:Nat):nC (l ++ [n])=nC l ++ [.int .i64 (n:Nat)]:=by simp [nC]
abbrev Tr:=ByteArray × Value × List Nat
def encO (x:Tr):List Value:=[.string x.1,x.2.1]
theorem encO_len (l:List Tr):(l.flatMap encO).length=l.length * 2:=by
 induction l with
 | nil=>rfl
 | cons x l ih=>rw [List.flatMap_cons,List.length_append,ih,List.length_cons]; simp [encO]; omega
structure MS (w W:World) (n0 n2 g cg:Nat) (m:List El) (i:Nat) (v8:Value) (O:List Tr):Prop where
 bel:Below n0 w W
 n2W:n2≤W.heap.size
 n0n2:n0≤n2
 row:W.ownsRow n0 105 2 (.slice (some ⟨g,0,none⟩) m.length cg) m.length (m.flatMap encE)
 gl:g<n2
 out:W.ownsRow n2 105 2 v8 O.length (O.flatMap encO)
 own:∀ x∈O,W.ownsRow n0 3 1 x.2.1 x.2.2.length (nC x.2.2)∧x.2.2≠[]
 rest:∀ y∈m.drop i,n0≤y.b∧W.heap[y.b]?=some (.cells #[.int .i64 (y.p:Nat)] 3 (0,0))
 apart:O.Pairwise (fun x y=>x.2.1.ownBlock≠y.2.1.ownBlock)
 far:∀ x∈O,∀ y∈m.drop i,x.2.1.ownBlock≠some y.b
 ndb:(m.drop i).Pairwise (fun x y=>x.b≠y.b)
 is:O.map (fun x=>(x.1,x.2.2))=((m.take i).map t1).foldl mrg []
section
variable {w W:World} {n0 n2 g cg:Nat} {m:List El} {i:Nat} {v8:Value} {O:List Tr}
theorem MS.n0W (h:MS w W n0 n2 g cg m i v8 O):n0≤W.heap.size:=Nat.le_trans h.n0n2 h.n2W
theorem MS.below {W':World} (h:MS w W n0 n2 g cg m i v8 O) (hb:Below W.heap.size W W'):MS w W' n0 n2 g cg m i v8 O :=
 ⟨h.bel.trans (hb.mono h.n0W),Nat.le_trans h.n2W hb.size,h.n0n2,own_below h.row hb,h.gl,own_below h.out hb,
  fun x hx=>⟨own_below (h.own x hx).1 hb,(h.own x hx).2⟩,fun y hy=>⟨(h.rest y hy).1,(hb.block _ (Array.getElem?_eq_some_iff.1 (h.rest y hy).2).1).trans (h.rest y hy).2⟩,h.apart,h.far,h.ndb,h.is⟩
theorem own_some {W:World} {base k n:Nat} {T:TypeId} {v:Value} {xs:List Value} (h:W.ownsRow base T k v n xs) (hn : 0<n):∃ b c,v=.slice (some ⟨b,0,none⟩) n c∧v.ownBlock=some b∧base≤b∧Tg W T b:=by
 rcases h.2 with ⟨_,h0⟩ | ⟨b,cap,cur,rfl,hb,hh,_⟩
 ·omega
 ·exact ⟨b,cap,rfl,rfl,hb,cur,_,hh⟩
theorem drop_at2 {α:Type} {l:List α} {i:Nat} (hi:i<l.length):l.drop i=l[i] :: l.drop (i+1):=List.drop_eq_getElem_cons hi
theorem fold_at (m:List El) (i:Nat) (hi:i<m.length):((m.take (i+1)).map t1).foldl mrg []=mrg (((m.take i).map t1).foldl mrg []) (t1 m[i]):=by
 have e:(m.take (i+1)).map t1=(m.take i).map t1 ++ [t1 m[i]]:=by rw [List.take_succ_eq_append_getElem hi,List.map_append]; rfl
 rw [e,List.foldl_append]
 rfl
theorem mrg_len1 (l:List Tm) (x:T1):(mrg l x).length≤l.length+1:=by
 unfold mrg
 cases e:l.getLast? with
 | none=>simp
 | some y =>
  simp only
  split
  ·simp
  ·simp
theorem mrg_len (L:List T1):(L.foldl mrg []).length≤L.length:=by
 have go:∀ (L:List T1) (l:List Tm),(L.foldl mrg l).length≤l.length+L.length:=by
  intro L
  induction L with
  | nil=>intro l; simp
  | cons x L ih =>
   intro l
   have h1:=ih (mrg l x)
   have h2:=mrg_len1 l x
   rw [List.foldl_cons,List.length_cons]
   omega
 have:=go L []
 simpa using this
theorem mrg_pos1 {l:List Tm} {x:T1} {N:Nat} (h:∀ y∈l,y.2.length≤N):∀ y∈mrg l x,y.2.length≤N+1:=by
 intro y hy
 unfold mrg at hy
 cases e:l.getLast? with
 | none =>
  rw [e] at hy
  simp only [List.mem_append,List.mem_singleton] at hy
  rcases hy with hy | rfl
  ·have:=h y hy; omega
  ·simp
 | some z =>
  rw [e] at hy
  have hz:=h z (List.mem_of_getLast? e)
  simp only at hy
  split at hy
  ·rcases List.mem_append.1 hy with hy | hy
   ·have:=h y ((List.dropLast_sublist l).mem hy); omega
   ·rw [List.mem_singleton] at hy
    subst hy
    simp only [List.length_append,List.length_cons,List.length_nil]
    omega
  ·rcases List.mem_append.1 hy with hy | hy
   ·have:=h y hy; omega
   ·rw [List.mem_singleton] at hy
    subst hy
    simp
theorem mrg_pos (L:List T1):∀ y∈L.foldl mrg [],y.2.length≤L.length:=by
 have go:∀ (L:List T1) (l:List Tm) (N:Nat),(∀ y∈l,y.2.length≤N)→∀ y∈L.foldl mrg l,y.2.length≤N+L.length:=by
  intro L
  induction L with
  | nil=>intro l N h y hy; simpa using h y hy
  | cons x L ih =>
   intro l N h y hy
   have:=ih (mrg l x) (N+1) (mrg_pos1 h) y hy
   rw [List.length_cons]
   omega
 intro y hy
 have:=go L [] 0 (fun y hy=>(nomatch hy)) y hy
 omega
theorem MS.more {W3:World} {v8':Value} (h:MS w W n0 n2 g cg m i v8 O) (hi:i<m.length) (hne:∀ y,O.getLast?=some y→y.1≠m[i].s)
  (hg:W.grownBy W3 v8.ownBlock) (hown:W3.ownsRow n2 105 2 v8' (O.length+1) (O.flatMap encO ++ [.string m[i].s,.slice (some ⟨m[i].b,0,none⟩) 1 1])) :
  MS w W3 n0 n2 g cg m (i+1) v8' (O ++ [(m[i].s,.slice (some ⟨m[i].b,0,none⟩) 1 1,[m[i].p])]):=by
 have hv8:∀ b,v8.ownBlock=some b→n2≤b∧Tg W 105 b:=fun b e=>⟨(h.out.lt b e).1,tg_own h.out e⟩
 have hd:=drop_at2 hi
 have hr:=h.rest
 have hf:=h.far
 have hn:=h.ndb
 rw [hd] at hr hf hn
 have keep:∀ b,Tg W 3 b→W3.heap[b]?=W.heap[b]?:=fun b hb=>hg.block b hb.lt (fun e=>by
  have:=(hv8 b e.symm).2.one hb
  exact absurd this (by decide))
 have kint:∀ {base n:Nat} {v:Value} {xs:List Value},W.ownsRow base 3 1 v n xs→W3.ownsRow base 3 1 v n xs:=fun {base n v xs} ho=>ho.kept hg (by
  cases hv:v.ownBlock with
  | none=>exact .inl rfl
  | some b=>exact .inr (fun e=>by
    have:=(hv8 b e.symm).2.one (tg_own ho hv)
    exact absurd this (by decide)))
 have hrest:∀ y∈m.drop i,n0≤y.b∧W3.heap[y.b]?=some (.cells #[.int .i64 (y.p:Nat)] 3 (0,0)):=fun y hy=>⟨(h.rest y hy).1,(keep y.b ⟨_,_,(h.rest y hy).2⟩).trans (h.rest y hy).2⟩
 have h0:=hr m[i] (List.mem_cons_self ..)
 obtain ⟨hn1,hn2⟩:=List.pairwise_cons.1 hn
 refine ⟨h.bel.trans ((Below.refl n0 W).grown hg h.n0W (fun b e=>Nat.le_trans h.n0n2 (hv8 b e).1)),Nat.le_trans h.n2W hg.size,h.n0n2,?_,h.gl,?_,fun x hx=>?_,fun y hy=>?_,?_,fun x hx y hy=>?_,hn2,?_⟩
 ·refine h.row.kept hg (.inr (fun e=>?_))
  have:=(hv8 g e.symm).1
  have:=h.gl
  omega
 ·rw [List.flatMap_append,List.length_append]
  simpa [encO] using hown
 ·rcases List.mem_append.1 hx with hx | hx
  ·exact ⟨kint (h.own x hx).1,(h.own x hx).2⟩
  ·rw [List.mem_singleton] at hx
   subst hx
   refine ⟨⟨rfl,.inr ⟨m[i].b,1,_,rfl,h0.1,(hrest m[i] (by rw [hd]; exact List.mem_cons_self ..)).2,zG _,by unfold maxLen; omega,rfl,rfl⟩⟩,by simp⟩
 ·exact hrest y (by rw [hd]; exact List.mem_cons_of_mem _ hy)
 ·refine List.pairwise_append.2 ⟨h.apart,List.pairwise_singleton _ _,fun x hx y hy=>?_⟩
  rw [List.mem_singleton] at hy
  subst hy
  exact hf x hx m[i] (List.mem_cons_self ..)
 ·rcases List.mem_append.1 hx with hx | hx
  ·exact hf x hx y (List.mem_cons_of_mem _ hy)
  ·rw [List.mem_singleton] at hx
   subst hx
   intro e
   have e2:m[i].b=y.b:=by simpa [Value.ownBlock] using e
   exact hn1 y hy e2
 ·rw [fold_at m i hi,← h.is,List.map_append]
  unfold mrg
  cases e:(List.map (fun x:Tr=>(x.1,x.2.2)) O).getLast? with
  | none=>rfl
  | some y =>
   rw [List.getLast?_map] at e
   obtain ⟨z,hz,rfl⟩:=Option.map_eq_some_iff.1 e
   have:=hne z hz
   have h2:¬ (z.1=(t1 m[i]).1):=this
   simp only [h2,if_false]
   rfl
theorem MS.again {W3:World} {v':Value} {O':List Tr} {x:Tr} {gv cv:Nat} (h:MS w W n0 n2 g cg m i (.slice (some ⟨gv,0,none⟩) (O' ++ [x]).length cv) (O' ++ [x])) (hi:i<m.length) (he:x.1=m[i].s)
  (hg:W.grownBy W3 x.2.1.ownBlock) (hown:W3.ownsRow n0 3 1 v' (x.2.2.length+1) (nC x.2.2 ++ [.int .i64 (m[i].p:Nat)])) (hat:v'.ownBlock=x.2.1.ownBlock∨v'.ownBlock=some W.heap.size) :
  MS w (W3.setCell ⟨gv,O'.length * 2+1,none⟩ v') n0 n2 g cg m (i+1) (.slice (some ⟨gv,0,none⟩) (O' ++ [(x.1,v',x.2.2 ++ [m[i].p])]).length cv) (O' ++ [(x.1,v',x.2.2 ++ [m[i].p])]):=by
 have hx:=h.own x (by simp)
 obtain ⟨xb,xc,hxv,hxo,hxb,hxt⟩:=own_some hx.1 (List.length_pos_iff.2 hx.2)
 rw [hxo] at hg hat
 have hd:=drop_at2 hi
 have hr:=h.rest
 have hf:=h.far
 have hn:=h.ndb
 rw [hd] at hr hf hn
 obtain ⟨hn1,hn2⟩:=List.pairwise_cons.1 hn
 have hap:=List.pairwise_append.1 h.apart
 have hgv:Tg W 105 gv:=tg_own h.out rfl
 have hgv2:n2≤gv:=(h.out.lt gv rfl).1
 have kterm:∀ {base k n:Nat} {v:Value} {xs:List Value},W.ownsRow base 105 k v n xs→W3.ownsRow base 105 k v n xs:=fun {base k n v xs} ho=>ho.kept hg (by
  cases hv:v.ownBlock with
  | none=>exact .inl rfl
  | some b=>exact .inr (fun e=>by
    injection e with e
    subst e
    have:=(tg_own ho hv).one hxt
    exact absurd this (by decide)))
 have gs:=grownBy_setC W3 gv (O'.length * 2+1) v'
 have hout3:=kterm h.out
 have hgv3:Tg W3 105 gv:=tg_own hout3 rfl
 have kint:∀ {base k n:Nat} {v:Value} {xs:List Value},W3.ownsRow base 3 k v n xs→(W3.setCell ⟨gv,O'.length * 2+1,none⟩ v').ownsRow base 3 k v n xs:=fun {base k n v xs} ho=>ho.kept gs (by
  cases hv:v.ownBlock with
  | none=>exact .inl rfl
  | some b=>exact .inr (fun e=>by
    injection e with e
    subst e
    have:=(tg_own ho hv).one hgv3
    exact absurd this (by decide)))
 have keep:∀ b,b<W.heap.size→b≠xb→Tg W 3 b→(W3.setCell ⟨gv,O'.length * 2+1,none⟩ v').heap[b]?=W.heap[b]?:=fun b hb hne ht=>by
  have e1:W3.heap[b]?=W.heap[b]?:=hg.block b hb (fun e=>hne (by injection e))
  refine (gs.block b (by have:=hg.size; omega) (fun e=>?_)).trans e1
  injection e with e
  subst e
  exact absurd (ht.one hgv) (by decide)
 have hset:=own_set hout3 (O'.length * 2+1) (by rw [encO_len,List.length_append]; simp; omega) v'
 have hcells:((O' ++ [x]).flatMap encO).set (O'.length * 2+1) v'=(O' ++ [(x.1,v',x.2.2 ++ [m[i].p])]).flatMap encO:=by
  rw [List.flatMap_append,List.flatMap_append,List.set_append_right _ _ (by rw [encO_len]; omega),encO_len]
  have:O'.length * 2+1 - O'.length * 2=1:=by omega
  rw [this]
  rfl
 rw [hcells] at hset
 have hlen:(O' ++ [x]).length=(O' ++ [(x.1,v',x.2.2 ++ [m[i].p])]).length:=by simp
 rw [hlen] at hset
 have hnew:∀ b,v'.ownBlock=some b→b=xb∨b=W.heap.size:=fun b e=>by
  rcases hat with a | a <;> rw [e] at a <;> injection a with a
  ·exact .inl a
  ·exact .inr a
 obtain ⟨nb,nc,hnv,hno,hnb,hnt⟩:=own_some hown (Nat.succ_pos _)
 refine ⟨?_,?_,h.n0n2,?_,h.gl,hset,fun z hz=>?_,fun y hy=>?_,?_,fun z hz y hy=>?_,hn2,?_⟩
 ·refine (h.bel.trans ((Below.refl n0 W).grown hg h.n0W (fun b e=>?_))).setCell (p:=⟨gv,O'.length * 2+1,none⟩) (Nat.le_trans h.n0n2 hgv2) v'
  injection e with e
  omega
 ·have:=hg.size; have:=gs.size; have:=h.n2W; omega
 ·refine (kterm h.row).kept gs (.inr (fun e=>?_))
  have e2:g=gv:=by simpa [Value.ownBlock] using e
  have:=h.gl
  omega
 ·rcases List.mem_append.1 hz with hz | hz
  ·have ho:=h.own z (List.mem_append.2 (.inl hz))
   refine ⟨kint (ho.1.kept hg ?_),ho.2⟩
   refine .inr (fun e=>?_)
   have:=hap.2.2 z hz x (by simp)
   rw [hxo] at this
   exact this e
  ·rw [List.mem_singleton] at hz
   subst hz
   refine ⟨kint ?_,by simp⟩
   rw [nC_snoc,List.length_append]
   exact hown
 ·have hy2:=hr y (List.mem_cons_of_mem _ hy)
  refine ⟨hy2.1,(keep y.b (Array.getElem?_eq_some_iff.1 hy2.2).1 (fun e=>?_) ⟨_,_,hy2.2⟩).trans hy2.2⟩
  have:=hf x (by simp) y (List.mem_cons_of_mem _ hy)
  rw [hxo] at this
  exact this (by rw [e])
 ·refine List.pairwise_append.2 ⟨hap.1,List.pairwise_singleton _ _,fun z hz y hy=>?_⟩
  rw [List.mem_singleton] at hy
  subst hy
  show z.2.1.ownBlock≠v'.ownBlock
  intro e
  rcases hnew nb hno with e2 | e2
  ·have:=hap.2.2 z hz x (by simp)
   rw [hxo,← e2,← hno] at this
   exact this e
  ·have:=((h.own z (List.mem_append.2 (.inl hz))).1.lt nb (e.trans hno)).2
   omega
 ·rcases List.mem_append.1 hz with hz | hz
  ·exact hf z (List.mem_append.2 (.inl hz)) y (List.mem_cons_of_mem _ hy)
  ·rw [List.mem_singleton] at hz
   subst hz
   show v'.ownBlock≠some y.b
   intro e
   have hy2:=hr y (List.mem_cons_of_mem _ hy)
   rcases hnew y.b e with e2 | e2
   ·have:=hf x (by simp) y (List.mem_cons_of_mem _ hy)
    rw [hxo] at this
    exact this (by rw [e2])
   ·have:=(Array.getElem?_eq_some_iff.1 hy2.2).1
    omega
 ·rw [fold_at m i hi,← h.is]
  unfold mrg
  rw [List.map_append,List.map_append]
  simp only [List.map_cons,List.map_nil,List.getLast?_append,List.getLast?_singleton,Option.some_or,List.dropLast_concat]
  have h2:x.1=(t1 m[i]).1:=he
  simp only [h2,if_true]
  rfl
end
end Go.Proofs.YtlfpfkallgkjdaaGreat.Ev
end

section
namespace Go.Proofs.YtlfpfkallgkjdaaGreat.Qp
open Go.RowKit Ut Tk Qy
def qtV (a:Nat) (n:Nat):Value:=if n=0 then .tuple #[.int .i64 0,.bool false] else .tuple #[.int .i64 ((a+n:Nat):Int),.bool true]
theorem qtV_no (a:Nat):qtV a 0=.tuple #[.int .i64 0,.bool false]:=rfl
theorem qtV_yes (a n:Nat) (h:n≠0):qtV a n=.tuple #[.int .i64 ((a+n:Nat):Int),.bool true]:=if_neg h
theorem tup_int {k:IntKind} {a b:Int} {c:Bool} (h:a=b):Ending.returned (.tuple #[.int k a,.bool c])=.returned (.tuple #[.int k b,.bool c]):=by rw [h]
theorem quotedN_drop (l:P) (a:Nat):quotedN (l.drop a)=if atC 34 (l.drop (a+1))<(l.drop (a+1)).length then atC 34 (l.drop (a+1))+2 else 0:=by
 unfold quotedN
 rw [List.tail_drop]; rfl
set_option maxHeartbeats 800000 in
theorem quoted_ref (s:ByteArray) (a:Nat) (w:World) (ha:a<s.size) (hs:s.size≤1048576):Calls Tryz.prog 87 #[.string s,.int .i64 (a:Int)] w fun e w'=>e=.returned (qtV a (quotedN (s.data.toList.drop a)))∧w=w':=by
 have hq:Hid (quotedN (s.data.toList.drop a)=if atC 34 (s.data.toList.drop (a+1))<(s.data.toList.drop (a+1)).length then atC 34 (s.data.toList.drop (a+1))+2 else 0):=zh (quotedN_drop _ _)
 have hl:Hid ((s.data.toList.drop (a+1)).length=s.size - (a+1)):=zh (by rw [List.length_drop,bsize])
 have Hend:=zh (findIdx_of (· == 34) (s.data.toList.drop (a+1)))
 have ha0:(0:Int)≤(a:Int):=by omega
 go_enter Tryz.func87,Tryz.ntmps87
 go_wp2_with fail
 go_loopw [6] (fun i wr=>∃ j:Nat,a+1+j≤s.size∧i=.int .i64 ((a+1+j:Nat):Int)∧w=wr∧Hid (∀ x∈(s.data.toList.drop (a+1)).take j,(x == 34)=false)) (fun i _=>s.size - (intOf i).toNat)
 case atStart=>exact ⟨0,by omega,by go_num,rfl,zh (fun x hx=>by simp at hx)⟩
 case round =>
  obtain ⟨j,hj,rfl,rfl,hal⟩:=hrel
  have g0:(0:Int)≤((a+1+j:Nat):Int):=by omega
  by_cases hlt:a+1+j<s.size
  ·have hg:(s.data.toList.drop (a+1))[j]?=some s[a+1+j]:=by rw [List.getElem?_drop]; exact get_of s _ hlt
   have u0:=u8_eq s[a+1+j] 34
   rw [show (UInt8.toNat 34:Int)=34 from rfl] at u0
   have hjl:j<(s.data.toList.drop (a+1)).length:=by rw [hl.out]; omega
   have hge:(s.data.toList.drop (a+1))[j]=s[a+1+j]:=by
    have:=List.getElem?_eq_getElem hjl
    rw [hg] at this
    injection this with this
    exact this.symm
   by_cases q:s[a+1+j]=34
   ·have t0:((s[a+1+j].toNat:Int) == 34)=true:=by rw [u0]; exact beq_iff_eq.2 q
    have Fin:Hid (quotedN (s.data.toList.drop a)=j+2):=zh (by
     have e:atC 34 (s.data.toList.drop (a+1))=j:=Hend.out j hal.out (by omega) (fun h=>by rw [hge,q]; rfl)
     rw [hq.out,e,if_pos hjl])
    clear hg u0 hjl hge q hal Hend hq hl
    go_wp2_with fail
    go_ret2
    exact ⟨by rw [Fin.out,qtV_yes _ _ (by omega)]; exact tup_int (by omega),rfl⟩
   ·have t0:((s[a+1+j].toNat:Int) == 34)=false:=by rw [u0]; exact beq_eq_false_iff_ne.2 q
    have Hnx:Hid (∀ x∈(s.data.toList.drop (a+1)).take (j+1),(x == 34)=false):=zh (fun x hx=>by
     rw [List.take_succ_eq_append_getElem hjl,List.mem_append] at hx
     rcases hx with hx | hx
     ·exact hal.out x hx
     ·rw [List.mem_singleton] at hx; rw [hx,hge]; exact beq_eq_false_iff_ne.2 q)
    clear hg u0 hjl hge q hal Hend hq hl
    go_wp2_with fail
    go_roundw
    case rel=>exact ⟨j+1,by omega,by go_num,by first | rfl | trivial,Hnx⟩
    case measure=>simp [intOf]; omega
  ·have Fin:Hid (quotedN (s.data.toList.drop a)=0):=zh (by
    have e:atC 34 (s.data.toList.drop (a+1))=j:=Hend.out j hal.out (by rw [hl.out]; omega) (fun h=>absurd h (by rw [hl.out]; omega))
    rw [hq.out,e,if_neg (by rw [hl.out]; omega)])
   clear hal Hend hq hl
   go_wp2_with fail
   go_ret2
   exact ⟨by rw [Fin.out,qtV_no]; rfl,rfl⟩
theorem plain_ref (c:UInt8) (w:World):Calls Tryz.prog 88 #[.int .u8 (c.toNat:Int)] w fun e w'=>e=.returned (.bool (!ends c))∧w=w':=by
 have u0:=u8_eq c 32
 have u1:=u8_eq c 9
 have u2:=u8_eq c 40
 have u3:=u8_eq c 41
 have u4:=u8_eq c 34
 simp only [show (UInt8.toNat 34:Int)=34 from rfl,show (UInt8.toNat 41:Int)=41 from rfl,show (UInt8.toNat 40:Int)=40 from rfl,show (UInt8.toNat 32:Int)=32 from rfl,show (UInt8.toNat 9:Int)=9 from rfl] at u0 u1 u2 u3 u4
 have he:ends c=(((c.toNat:Int) == 32) || ((c.toNat:Int) == 9) || ((c.toNat:Int) == 40) || ((c.toNat:Int) == 41) || ((c.toNat:Int) == 34)):=by
  rw [u0,u1,u2,u3,u4]; rfl
 rw [he]
 clear u0 u1 u2 u3 u4 he
 generalize (c.toNat:Int)=z
 by_cases h0:z=32
 ·subst h0
  go_enter Tryz.func88,Tryz.ntmps88
  go_wp2
  go_ret
  exact ⟨rfl,rfl⟩
 by_cases h1:z=9
 ·subst h1
  go_enter Tryz.func88,Tryz.ntmps88
  go_wp2
  go_ret
  exact ⟨rfl,rfl⟩
 by_cases h2:z=40
 ·subst h2
  go_enter Tryz.func88,Tryz.ntmps88
  go_wp2
  go_ret
  exact ⟨rfl,rfl⟩
 by_cases h3:z=41
 ·subst h3
  go_enter Tryz.func88,Tryz.ntmps88
  go_wp2
  go_ret
  exact ⟨rfl,rfl⟩
 by_cases h4:z=34
 ·subst h4
  go_enter Tryz.func88,Tryz.ntmps88
  go_wp2
  go_ret
  exact ⟨rfl,rfl⟩
 have t0:(z != 32)=true:=by simpa using h0
 have t1:(z != 9)=true:=by simpa using h1
 have t2:(z != 40)=true:=by simpa using h2
 have t3:(z != 41)=true:=by simpa using h3
 have t4:(z != 34)=true:=by simpa using h4
 go_enter Tryz.func88,Tryz.ntmps88
 go_wp2
 go_ret
 exact ⟨by simp [h0,h1,h2,h3,h4],rfl⟩
end Go.Proofs.YtlfpfkallgkjdaaGreat.Qp
end

section
namespace Go.Proofs.YtlfpfkallgkjdaaGreat.Qy
open Go.RowKit Ut Tk
theorem fldC_one (fs:List (ByteArray × ByteArray)):∀ u∈fldC fs,u.oneCell'=true:=by
 intro u hu
 unfold fldC at hu
 obtain ⟨f,_,hf⟩:=List.mem_flatMap.1 hu
 simp at hf
 rcases hf with rfl | rfl <;> rfl
def FldPost (w:World) (fs:List (ByteArray × ByteArray)) (e:Ending) (w':World):Prop:=∃ v,e=.returned v∧w'.ownsRow w.heap.size 99 2 v fs.length (fldC fs)∧Below w.heap.size w w'
set_option maxHeartbeats 800000 in
theorem cloneF_any (F:Option Addr) (fn fc:Nat) (fs:List (ByteArray × ByteArray)) (w:World) (hF:Reads w w.heap.size 2 F fn (fldC fs)) (hl:fs.length=fn) (hn:fn≤1048576) (hnil:F=none→fc=0) :
  Calls Tryz.prog 96 #[.slice F fn fc] w (FldPost w fs):=by
 obtain ⟨i0,hi0,hz0,hz1,hz2⟩:=info_parts fld_info
 by_cases h0:F=none
 ·subst h0
  obtain rfl:fc=0:=hnil rfl
  have hfn:fn=0:=by
   by_cases h : 0<fn
   ·obtain ⟨b,o,e,_⟩:=hF.2 h
    cases e
   ·omega
  subst hfn
  have hfs:fs=[]:=List.length_eq_zero_iff.1 hl
  subst hfs
  have hnl:=fun W:World=>Lib.run_eql_slice_nil (P:=Tryz.prog) W _ _ none 0 0 0 0 Tryz.underlying31
  clear hF hl hn hnil
  go_enter Tryz.func96,Tryz.ntmps96
  go_wp2
  go_ret
  exact ⟨_,rfl,World.ownsRow_nil _ _ _ _,Below.refl _ _⟩
 ·obtain ⟨a,rfl⟩:=Option.ne_none_iff_exists'.1 h0
  have hnl:=fun W:World=>Lib.run_eql_slice_nil (P:=Tryz.prog) W _ _ (some a) fn fc 0 0 Tryz.underlying31
  have HF:=zh hF
  have Hl:=zh hl
  clear hF hl h0 hnil
  go_enter Tryz.func96,Tryz.ntmps96
  go_wp2_with (at_builtin; refine wpList_append_own _ rfl _ _ 31 rfl w.heap.size 99 i0 _ 2 32 Tryz.underlying31 hi0 hz0 hz1 hz2 rfl (by decide) (.slice (some ⟨w.heap.size,0,none⟩) 0 0) 0 [] rfl ?hown a fn fc (fldC fs) rfl ?hl ?c1 ?c2 ?c3 ?c4 ?c5 ?_)
  case hown =>
   have h:=World.ownsRow_made (base:=w.heap.size) (e:=99) (size:=2) w #[] 0 (by simp) (by unfold maxLen; omega) rfl
   simpa using h
  case hl=>rw [fldC_len,Hl.out]
  case c1 =>
   intro j u hj
   have hjl:j<fn * 2:=by
    have:=(List.getElem?_eq_some_iff.1 hj).1
    rw [fldC_len,Hl.out] at this
    exact this
   obtain ⟨b,o,e,hb,hc⟩:=HF.out.2 (by omega)
   injection e with e
   subst e
   have hadd:(⟨b,o,none⟩:Addr).add j=⟨b,o+j,none⟩:=by unfold Addr.add; split <;> simp_all
   rw [hadd]
   have hp:=hc j u hj
   first
    | exact hp
    | exact (((Below.refl _ _).alloc (zG _) _:Below w.heap.size w _).cell (p:=⟨b,o+j,none⟩) hb).trans hp
  case c2=>exact fldC_one fs
  case c3=>unfold maxLen; omega
  case c4=>omega
  case c5=>simp
  intro v' w2 hown hgrow _
  have hbx:Below w.heap.size w w2:=((Below.refl _ _).alloc (zG _) _:Below w.heap.size w _).grown hgrow (by simp) (fun j hj=>by
   injection hj with hj
   have hj':w.heap.size=j:=hj
   omega)
  obtain ⟨A',c',rfl,_⟩:=own_shape hown
  have Hown:=zh hown
  have Hbx:=zh hbx
  clear hown hgrow hbx
  go_wp2
  go_ret
  exact ⟨_,rfl,by rw [Hl.out]; simpa using Hown.out,Hbx.out⟩
def DocRd (w:World) (ds:List Dc) (e:Ending) (w':World):Prop:=∃ A c,e=.returned (.slice A ds.length c)∧DocsAt w' w'.heap.size A ds.length ds∧ds.length≤c∧Below w.heap.size w w'
theorem DocsOwn.rd {w w0 wr:World} {v:Value} {ds:List Dc} (h:DocsOwn w wr v ds) (hb:Below w0.heap.size w0 wr):DocRd w0 ds (.returned v) wr:=by
 obtain ⟨vss,h1,h2,h3⟩:=h.ex
 obtain ⟨A,c,rfl,hR,hc,_⟩:=own_shape2 h2
 exact ⟨A,c,rfl,⟨rfl,vss,h1,hR,fun i a b=>(h3 i a b).1⟩,hc,hb⟩
def Small (ds:List Dc):Prop:=∀ d∈ds,d.fs.length≤1048576∧∀ f∈d.fs,f.2.size≤1048576
end Go.Proofs.YtlfpfkallgkjdaaGreat.Qy
end
