/- event.Terms: the collecting (printed by gen_evu.py). -/
import Derived.BigQuiet
import Derived.Deep.QuietTactic
import Derived.Maps.OwnIn
import Derived.Test.YtlfpfkallgkjdaaGreatQAlertBatchesRow33
import Derived.Test.YtlfpfkallgkjdaaGreatQAlertBatchesRow2
import Derived.Test.YtlfpfkallgkjdaaGreatQAlertBatchesRow0
set_option linter.unusedSimpArgs false
set_option linter.unusedVariables false
set_option maxRecDepth 100000
namespace Go.Proofs.YtlfpfkallgkjdaaGreat.Ev
open Go.RowKit Go.Shelf Ut Tk Qy Qp Ph
attribute [local go_sem] Oper.semAt_some
theorem term_info:(Tryz.prog.info? 105).map (fun i=>(i.zero,i.size,i.bytes))=some (some (.agg #[.string ByteArray.empty,.slice none 0 0]),2,40):=by kernel_rfl
def colS:ByteArray:=⟨#[58]⟩
theorem term_cat (a:ByteArray) (x:List UInt8):a ++ colS ++ str x=termT a x:=by
 unfold termT
 have e:∀ b:ByteArray,b=str b.data.toList:=fun b=>by simp [str]
 rw [e (a ++ colS ++ str x)]
 congr 1
 simp [term,colS,str,ByteArray.data_append,Array.toList_append]
set_option maxHeartbeats 400000 in
theorem based_in (n:Nat) (t:Int) (F:Option Addr) (fn fc:Nat) (w:World) :
  CallsIn Fence.wide n Tryz.prog 72 #[.agg #[.int .i64 t,.slice F fn fc]] w fun e w'=>e=.returned (.func (.func 107) #[] #[.pointer (some ⟨w.heap.size,0,none⟩)])∧w'=w.alloc (.cells #[.int .i64 t,.slice F fn fc] 33):=by
 refine callsIn_of_wp Tryz.func72 rfl trivial ?_ rfl
 simp only [Tryz.ntmps72,List.size_toArray,List.length_cons,List.length_nil,Nat.reduceAdd,Nat.reduceSub,Array.replicate_succ,Array.replicate_zero,List.push_toArray,List.append_toArray,List.nil_append,List.cons_append]
 gi_wp2
 go_ret
 exact ⟨rfl,rfl⟩
theorem based_stops (m:Nat) (hn : 1≤m) (tb n₀:Nat) (t:Int) (F:Option Addr) (fn fc:Nat) (fs:List Fl) (hok:∀ f∈fs,f.1.size≤32∧f.2.size≤4096) (hlen:fs.length≤16) (w:World) (hb:Blk w tb 33 #[.int .i64 t,.slice F fn fc]) (hF:Reads w n₀ 2 F fn (fldC fs)) (hfn:fs.length=fn) (hfc:fn≤fc) (hnW:n₀≤w.heap.size) :
  SeqStopsK Fence.wide m Tryz.prog 107 #[.pointer (some ⟨tb,0,none⟩)] (fun x:Xf=>#[.int .i64 (x.1.1:Nat),.agg #[.string x.1.2.1,.string x.1.2.2]]) (KE n₀) (fun ys=>ys.map (·.1)=basedL 0 fs) (fun pre=>pre.map (·.1) <+: basedL 0 fs) fs.length w :=
 fun l J Jx W hW hJ _ hY h0=>based1_in m hn l tb n₀ W.heap.size t F fn fc fs hok hlen J Jx hJ hY (fun pre X Y hx hxy=>hJ _ _ _ none hx (grow_of_below hxy none) (fun r e=>by cases e)) W (hb.below hW hb.lt) (hF.keep (fun b o hb=>hW.cell (p:=⟨b,o,none⟩) (Nat.lt_of_lt_of_le hb hnW))) hfn hfc (Nat.le_trans hnW hW.size) h0
structure TmAt (w:World) (n0:Nat) (A:Option Addr) (n:Nat) (l:List Tm):Prop where
 ex:∃ O:List Tr,O.map (fun x=>(x.1,x.2.2))=l∧ReadsS w (fun b=>n0≤b∧Tg w 105 b) 2 A n (O.flatMap encO)∧∀ x∈O,x.2.2≠[]∧∃ P pc,x.2.1=.slice P x.2.2.length pc∧x.2.2.length≤pc∧ReadsS w (fun b=>n0≤b∧Tg w 3 b) 1 P x.2.2.length (nC x.2.2)
 ln:l.length=n
def TermsPost (w:World) (l:List Tm) (e:Ending) (w':World):Prop:=∃ A n c,e=.returned (.slice A n c)∧n≤c∧n≤65536∧TmAt w' w.heap.size A n l∧Below w.heap.size w w'
theorem MS.fin {w W:World} {n2 g cg:Nat} {m:List El} {v8:Value} {O:List Tr} (h:MS w W w.heap.size n2 g cg m m.length v8 O) {l:List Tm} (hl:(m.map t1).foldl mrg []=l) (hn:l.length≤65536):TermsPost w l (.returned v8) W:=by
 obtain ⟨A,c,rfl,_,hc,_⟩:=own_shape2 h.out
 have his:=h.is
 rw [List.take_length,hl] at his
 have hlen:O.length=l.length:=by rw [← his,List.length_map]
 refine ⟨A,O.length,c,rfl,hc,by omega,⟨⟨O,his,(ReadsS.of_own h.out).mono (fun b hb=>⟨by have:=hb.1; have:=h.n0n2; omega,tg_own h.out hb.2.2⟩),fun x hx=>⟨(h.own x hx).2,?_⟩⟩,hlen.symm⟩,h.bel⟩
 have ho:=(h.own x hx).1
 obtain ⟨P,pc,e,_,hpc,_⟩:=own_shape2 ho
 refine ⟨P,pc,e,hpc,?_⟩
 rw [e] at ho
 exact (ReadsS.of_own ho).mono (fun b hb=>⟨hb.1,tg_own ho hb.2.2⟩)
theorem TermsPost.ck {w W W':World} {l:List Tm} {e:Ending} (h:TermsPost w l e W) (hk:CK W W') (hb:Below w.heap.size W W'):TermsPost w l e W':=by
 obtain ⟨A,n,c,he,h1,h2,⟨⟨O,q1,q2,q3⟩,q4⟩,h4⟩:=h
 have tg:∀ {T:TypeId} {b:Nat},Tg W T b→Tg W' T b∧W'.heap[b]?=W.heap[b]?:=fun {T b} ht=>by
  obtain ⟨cs,fr,e⟩:=ht
  have e2:=hk _ _ _ _ e
  exact ⟨⟨cs,fr,e2⟩,e2.trans e.symm⟩
 refine ⟨A,n,c,he,h1,h2,⟨⟨O,q1,q2.same (fun b hb=>⟨⟨hb.1,(tg hb.2).1⟩,(tg hb.2).2⟩),fun x hx=>?_⟩,q4⟩,h4.trans hb⟩
 obtain ⟨r1,P,pc,r2,r3,r4⟩:=q3 x hx
 exact ⟨r1,P,pc,r2,r3,r4.same (fun b hb=>⟨⟨hb.1,(tg hb.2).1⟩,(tg hb.2).2⟩)⟩
theorem TermsPost.mark {w W:World} {l:List Tm} {e:Ending} (h:TermsPost w l e W) {D:Nat} {o o':Obj} (hD:w.heap.size≤D) (ho:W.heap[D]?=some o) (hc:o.isCells=false):TermsPost w l e (W.putObj D o') :=
 h.ck (CK.grown (grownBy_putObj' W D o') (fun r e=>by cases e; exact ⟨o,ho,hc⟩)) ((Below.refl _ W).grown (grownBy_putObj' W D o') (by obtain ⟨_,_,_,_,_,_,_,hb⟩:=h; exact hb.size) (fun r e=>by cases e; exact hD))
structure Beg (w W0:World) (lb:Nat) (t:Int) (F:Option Addr) (fn fc:Nat) (fs:List Fl):Prop where
 bO:Boxed W0 lb 102 (.slice none 0 0)
 bE:Blk W0 (lb+1) 33 #[.int .i64 t,.slice F fn fc]
 bel:Below w.heap.size w W0
 sz:lb<W0.heap.size
 le:w.heap.size≤lb
set_option maxHeartbeats 8000000 in
theorem terms_walk (t:Int) (F:Option Addr) (fn fc:Nat) (fs:List Fl) (w:World) (h:FlAt w w.heap.size F fn fc fs) (hok:chkE fs=0) :
  CallsIn Fence.wide 3 Tryz.prog 40 #[.agg #[.int .i64 t,.slice F fn fc]] w (TermsPost w (addAll (raw fs))):=by
 obtain ⟨i0,hi,hz0,hz1,hz2⟩:=info_parts term_info
 obtain ⟨j0,hj,hy0,hy1,hy2⟩:=info_parts int_info2
 have hB1:Below w.heap.size w (w.alloc (.cells #[.int .i64 t,.slice F fn fc] 33)):=(Below.refl _ _).alloc (zG _) _
 have hX:=Blk.new w 33 #[.int .i64 t,.slice F fn fc]
 have c1:=check_any t F fn fc fs _ (h.grow hB1)
 rw [hok] at c1
 have C1:=zh c1
 have H:=zh (And.intro hX hB1)
 have hk:=chkE_ok hok
 have HFL:=zh h
 have HOK:=zh hk
 clear hX hB1 c1 h hk hok
 refine callsIn_of_wp_marks Tryz.func40 rfl trivial ?_ rfl
 simp only [Tryz.ntmps40,List.size_toArray,List.length_cons,List.length_nil,Nat.reduceAdd,Nat.reduceSub,Array.replicate_succ,Array.replicate_zero,List.push_toArray,List.append_toArray,List.nil_append,List.cons_append]
 gi_wp2_with fail
 refine ⟨trivial,(callsIn_wide.2 C1.out).mono ?_⟩
 rintro e wc ⟨rfl,hbc⟩
 have hX2:=H.out.1.below hbc H.out.1.lt
 have e0:=hX2.cell 0
 have e1:=hX2.cell 1
 simp only [zA,zB,zC] at e0 e1
 have hle:w.heap.size<wc.heap.size:=hX2.lt
 have hbwc:Hid (Below w.heap.size w wc):=zh (H.out.2.trans (hbc.mono H.out.2.size))
 clear hX2 C1 hbc
 gi_wp2_with fail
 refine ⟨trivial,(based_in _ t F fn fc _).mono ?_⟩
 rintro e w' ⟨rfl,rfl⟩
 gi_wp2_with fail
 obtain ⟨lb,hlb⟩:∃ lb,lb=wc.heap.size:=⟨_,rfl⟩
 have bg:Beg w ((wc.alloc (.cells #[.slice none 0 0] 102)).alloc (.cells #[.int .i64 t,.slice F fn fc] 33)) lb t F fn fc fs:=by
  subst hlb
  refine ⟨(Boxed.new wc 102 (.slice none 0 0)).alloc _,?_,(hbwc.out.alloc hbwc.out.size _).alloc (by simp; omega) _,by simp; omega,by omega⟩
  have:=Blk.new (wc.alloc (.cells #[.slice none 0 0] 102)) 33 #[.int .i64 t,.slice F fn fc]
  rw [World.size_alloc] at this
  exact this
 rw [← hlb]
 generalize ((wc.alloc (.cells #[.slice none 0 0] 102)).alloc (.cells #[.int .i64 t,.slice F fn fc] 33))=W0 at *
 have hn0:w.heap.size≤W0.heap.size:=bg.bel.size
 clear hlb e0 e1 hle hbwc
 have hC0:ColE w W0 w.heap.size lb []:=⟨_,[],bg.bO,World.ownsRow_nil _ _ _ _,fun x hx=>(nomatch hx),List.Pairwise.nil,rfl,bg.bel,fun _=>rfl⟩
 have HSB:=bg.sz
 have HLE:=bg.le
 refine wpIn_rangeFunc_ownH rfl (by omega) (gf:=107) (lb:=#[.pointer (some ⟨lb+1,0,none⟩)]) rfl trivial (enters_of Tryz.func107 (by kernel_rfl) rfl)
  (based_stops 2 (by omega) (lb+1) w.heap.size t F fn fc fs (fun f hf=>(HOK.out.2 f hf).2) HOK.out.1 W0 bg.bE ((HFL.out.rd.keep (fun b o hb=>bg.bel.cell (p:=⟨b,o,none⟩) hb))) HFL.out.len HFL.out.cap hn0) (fun h k=>h.trans k) (fun W l o o' hl ho h1 h2=>KE.putObj (w:=W0) hn0 W l o o' hl ho h1 h2) (Below.refl _ _) (fun _=>rfl)
  (fun pre W=>ColE w W w.heap.size lb (pre.flatMap (fun y:Xf=>rawO y.1)))
  (fun _ _ _=>False)
  (fun pre A B row hs hg hr=>hs.own (CK.grown hg (fun r e=>(hr r e).2)) ((Below.refl _ A).grown hg (by obtain ⟨v,L,q⟩:=hs; exact q.bel.size) (fun r e=>Nat.le_trans hn0 (hr r e).1)))
  (fun _ _ _ _ _ hs _ _=>hs)
  hC0
  (fun x a' W=>∃ Bx,Blk W Bx 99 #[.string x.1.2.1,.string x.1.2.2]∧a'={ tmps:=#[.agg #[.int .i64 t,.slice F fn fc],.pointer (some ⟨w.heap.size,0,none⟩),.slice none 0 0,.pointer (some ⟨lb,0,none⟩),.int .i64 (x.1.1:Nat),.pointer (some ⟨Bx,0,none⟩),undef,undef,undef,undef,undef,undef,.agg #[.int .i64 t,.slice F fn fc],.int .i64 0,.bool false,.agg #[.int .i64 t,.slice F fn fc],.func (.func 107) #[] #[.pointer (some ⟨lb+1,0,none⟩)],.int .i64 (x.1.1:Nat),.agg #[.string x.1.2.1,.string x.1.2.2],undef,undef,undef,undef,undef,undef,undef,undef,undef,undef,undef,undef,undef,undef,undef,undef,undef,undef,undef,undef,undef,undef,undef,undef,undef,undef,undef,undef,undef,undef,undef,undef,undef,undef,undef,undef,undef,undef,undef,undef,undef,undef,undef,undef,undef,undef,undef,undef,undef,undef,undef,undef,undef,undef,undef,undef,undef,undef,undef,undef,undef,undef,undef,undef,undef],defers:=[] })
  (fun x a' _ X Y row hs hg hr=>by obtain ⟨Bx,h2,h3⟩:=hs; exact ⟨Bx,(CK.grown hg (fun r e=>(hr r e).2)) _ _ _ _ h2,h3⟩)
  ?assign ?body ?done ?stop
 case assign =>
  rintro l pre x W K hC hK
  have hsz:w.heap.size≤W.heap.size:=by obtain ⟨v,L,q⟩:=hC; exact q.bel.size
  gi_wp2
  exact hK _ _ ((KeepsOthers.alloc _ _).from _) (KE.below ((Below.refl _ W).alloc (zG _) _) hsz) (hC.below ((Below.refl _ W).alloc (zG _) _) hsz) ⟨W.heap.size,Blk.new W _ _,rfl⟩
 case body =>
  rintro l pre ⟨⟨base,nm,tx⟩,hx1,hx2,hx3⟩ a' W hl ⟨r,hr⟩ hC ⟨Bx,bX,rfl⟩ hlt
  have hsz:w.heap.size≤W.heap.size:=by obtain ⟨v,L,q⟩:=hC; exact q.bel.size
  have c1:=tokens_any tx W (by simp only at hx3; omega)
  have hwl:=words_len tx
  have hpl:=pre_len pre
  have hpl2:pre.length≤15:=by have:=HOK.out.1; omega
  have hpl3:(pre.flatMap (fun y:Xf=>rawO y.1)).length≤61440:=by omega
  have HX:Hid (rawO (base,nm,tx)=rawO (base,nm,tx)):=zh rfl
  have Hfl:Hid ((pre ++ [(⟨(base,nm,tx),hx1,hx2,hx3⟩:Xf)]).flatMap (fun y:Xf=>rawO y.1)=pre.flatMap (fun y:Xf=>rawO y.1) ++ rawO (base,nm,tx)):=zh (by rw [List.flatMap_append]; simp)
  simp only at hx1 hx2 hx3 bX
  have x0:=bX.cell 0
  have x1:=bX.cell 1
  simp only [zA,zB,zC] at x0 x1
  have HC:=zh hC
  have HWW:=zh (words_word tx.data.toList)
  generalize hR:pre.flatMap (fun y:Xf=>rawO y.1)=R at *
  clear hR hC hr hpl
  gi_wp2_with fail
  refine ⟨trivial,(CallsIn.inRound l (callsIn_wide.2 c1)).mono ?_⟩
  rintro e W1 ⟨v1,rfl,hown,hb1⟩
  obtain ⟨A1,q1,rfl,hR1,hq1,hn1,hg1⟩:=own_shape2 hown
  have HR1:=zh (And.intro hR1 hg1)
  have HC1:Hid (ColE w W1 w.heap.size lb (R ++ (rawO (base,nm,tx)).take 0)):=zh (by simpa using HC.out.below hb1 hsz)
  have HN1:Hid (NT w.heap.size W W1):=zh (NT.below hb1 hsz)
  have bX1:=zh (Blk.below bX hb1 bX.lt)
  clear hown hR1 hg1 hn1 hb1 c1 HC x0 x1
  gi_wp2_with fail
  gi_loopw [23] (fun i wr=>∃ k:Nat,k≤(words tx.data.toList).length∧i=.int .i64 (k:Nat)∧Hid (ColE w wr w.heap.size lb (R ++ (rawO (base,nm,tx)).take k))∧Hid (NT w.heap.size W1 wr)) (fun i _=>(words tx.data.toList).length - (intOf i).toNat)
  case atStart=>exact ⟨0,Nat.zero_le _,rfl,HC1,zh (NT.refl _ _)⟩
  case round =>
   clear HC1
   obtain ⟨k,hk,rfl,hC,hN⟩:=hrel
   by_cases hlk:k<(words tx.data.toList).length
   ·have hkz:(k:Int)<((words tx.data.toList).length:Int):=by omega
    obtain ⟨g,eg,cur,hcur⟩:=HR1.out.2 (by omega)
    have hcr:=hN.out.cells hcur (by decide) (by decide)
    obtain ⟨b,o,eA,hbb,d0,d1⟩:=toks_at HR1.out.1 rfl hlk
    have ego:(⟨g,0,none⟩:Addr)=⟨b,o,none⟩:=Option.some.inj (eg.symm.trans eA)
    injection ego with eg1 eg2
    have esame:wr.heap[b]?=W1.heap[b]?:=by rw [← eg1,hcr,hcur]
    have d0r:=(cell_same esame _).trans d0
    have d1r:=(cell_same esame _).trans d1
    have hwk:=(HWW.out _ (List.getElem_mem hlk)).2
    have htk:=rawO_take (base,nm,tx) k hlk
    have hcat:=term_cat nm (words tx.data.toList)[k]
    have hsw:(str (words tx.data.toList)[k]).size≤32:=by unfold str; simpa [ByteArray.size] using hwk
    have Htk:=zh htk
    have Hcat:=zh hcat
    have hbx:=bX1.out
    have hbxr:Blk wr Bx 99 #[.string nm,.string tx]:=hN.out.cells hbx (by decide) (by decide)
    have y0:=hbxr.cell 0
    have hBx:=hbxr.lt
    simp only [zA,zB] at y0
    have hwr:w.heap.size≤wr.heap.size:=by obtain ⟨v,L,q⟩:=hC.out; exact q.bel.size
    subst eA
    simp only at Htk
    generalize (words tx.data.toList)[k]=wk at *
    clear htk hcat hcr hcur esame d0 d1 hwk eg eg1 eg2 hbx hbxr
    obtain ⟨v,L,hCol⟩:=hC.out
    have hLl:L.length=R.length+k:=by
     have:=congrArg List.length hCol.is
     rw [List.length_map,List.length_append,List.length_take,rawO_len] at this
     simp only at this
     omega
    have hLb:L.length≤70000:=by omega
    have hCq:=hCol.below ((Below.refl _ wr).alloc (zG _) (.cells #[.string (str wk),.int .i64 (k:Int)] 154)) hwr
    have hNq:NT w.heap.size wr (wr.alloc (.cells #[.string (str wk),.int .i64 (k:Int)] 154)):=NT.below ((Below.refl _ wr).alloc (zG _) _) hwr
    have hbl:=hCq.bx.cell
    have hbw:=hCol.bx.cell
    have Hown2:Hid ((((wr.alloc (.cells #[.string (str wk),.int .i64 (k:Int)] 154)).alloc (.cells #[.int .i64 ((base:Int)+(k:Int))] 3)).alloc (.cells #[.string (termT nm wk),.slice (some ⟨wr.heap.size+1,0,none⟩) 1 1] 105)).ownsRow w.heap.size 105 2 v L.length (L.flatMap encE)):=zh ((hCq.own.alloc _).alloc _)
    have HCq:=zh hCq
    have HNq:=zh hNq
    have hlw:=hCol.bx.lt
    have hcw:(nm ++ { data:=#[58] }:ByteArray) ++ str wk=termT nm wk:=Hcat.out
    clear hCol hLl hCq hNq Hcat hC
    gi_wp2_with (gi_at_builtin; refine wpListIn_append_own _ rfl _ _ 102 rfl w.heap.size 105 i0 _ 2 40 Tryz.underlying102 hi hz0 hz1 hz2 rfl (by decide) _ _ _ rfl Hown2.out ⟨wr.heap.size+1+1,0,none⟩ 1 1 [.string (termT nm wk),.slice (some ⟨wr.heap.size+1,0,none⟩) 1 1] rfl rfl ?d1 ?d2 ?d3 ?d4 ?d5 ?_)
    try (case d1=>exact World.news_of_block (cs:=#[.string (termT nm wk),.slice (some ⟨wr.heap.size+1,0,none⟩) 1 1]) (t:=105) (fr:=(0,0)) (by have:=heap_alloc_new ((wr.alloc (.cells #[.string (str wk),.int .i64 (k:Int)] 154)).alloc (.cells #[.int .i64 ((base:Int)+(k:Int))] 3)) (.cells #[.string (termT nm wk),.slice (some ⟨wr.heap.size+1,0,none⟩) 1 1] 105); simpa using this))
    case d2=>simp [Value.oneCell']
    case d3=>unfold maxLen; omega
    case d4=>omega
    case d5=>first | omega | (simp; omega)
    intro v' w3 hown3 hg3 _
    obtain ⟨g',q',rfl⟩:=own_succ hown3
    obtain ⟨k1,k2,k3⟩:=col_put (s:=termT nm wk) (p:=base+k) HCq.out HLE (by simp; omega) rfl hg3 (by rw [World.size_alloc]; exact hown3)
    have z0:=k3.cell
    have z1:=k3.frozen
    have Hn:Hid (ColE w (w3.setCell ⟨lb,0,none⟩ (.slice (some ⟨g',0,none⟩) (L.length+1) q')) w.heap.size lb (R ++ (rawO (base,nm,tx)).take (k+1))∧NT w.heap.size W1 (w3.setCell ⟨lb,0,none⟩ (.slice (some ⟨g',0,none⟩) (L.length+1) q'))):=zh ⟨⟨_,_,by rw [Htk.out,← List.append_assoc]; exact k1⟩,hN.out.trans (HNq.out.trans k2)⟩
    clear k1 k2 k3 hown3 hg3 Hown2 HCq HNq
    gi_wp2
    go_roundw
    case rel=>exact ⟨k+1,by omega,by go_num,zh Hn.out.1,zh Hn.out.2⟩
    case measure=>simp [intOf]; omega
   ·obtain rfl:k=(words tx.data.toList).length:=by omega
    have Fin:Hid (KeepsFrom W0.heap.size W wr∧KE w.heap.size W wr∧ColE w wr w.heap.size lb ((pre ++ [(⟨(base,nm,tx),hx1,hx2,hx3⟩:Xf)]).flatMap (fun y:Xf=>rawO y.1))):=zh ⟨(HN1.out.trans hN.out).others.from _,(HN1.out.trans hN.out).ke,by
     rw [Hfl.out]
     have:=hC.out
     rw [List.take_of_length_le (by rw [rawO_len]; exact zG _)] at this
     exact this⟩
    clear hC hN HN1
    gi_wp2
    exact Fin.out
 case done =>
  rintro D ys W hD hys hC hK
  have hR:ys.flatMap (fun y:Xf=>rawO y.1)=raw fs:=by unfold raw; rw [← hys,List.flatMap_map]
  rw [hR] at hC
  obtain ⟨v,L,hCol⟩:=hC
  have hup:L.Pairwise (fun x y=>x.p<y.p):=by
   have:=(raw_up fs 0).1
   rw [show (basedL 0 fs).flatMap rawO=raw fs from rfl,← hCol.is,List.pairwise_map] at this
   exact this
  have hLn:L.length≤65536:=by
   have h1:=congrArg List.length hCol.is
   have h2:=pre_len ys
   rw [hR] at h2
   have h3:=congrArg List.length hys
   rw [List.length_map,basedL_len] at h3
   have h4:=HOK.out.1
   rw [List.length_map] at h1
   omega
  have hc:=hCol.bx.cell
  have HD:=zh (And.intro hD hK)
  have HIS:=zh hCol.is
  have HUP:=zh hup
  clear hys hR hK hup
  by_cases hL0:L=[]
  ·subst hL0
   obtain rfl:=hCol.nl rfl
   have Fin:Hid (TermsPost w (addAll (raw fs)) (.returned (.slice none 0 0)) W):=zh (by
    have e:raw fs=[]:=HIS.out.symm
    rw [e]
    exact ⟨none,0,0,rfl,zG _,by omega,⟨⟨[],rfl,ReadsS.none_,fun x hx=>(nomatch hx)⟩,rfl⟩,hCol.bel⟩)
   clear hCol
   gi_wp2_with fail
   refine ⟨trivial,(callsIn_wide.2 (sortE_nil _ _)).mono ?_⟩
   rintro e w2 ⟨rfl,rfl⟩
   gi_wp2_with fail
   gi_loopw [8,47] (fun v i wr=>v=.slice none 0 0∧i=.int .i64 0∧wr=W) (fun _ _ _=>0)
   case atStart=>exact ⟨rfl,rfl,rfl⟩
   case round =>
    obtain ⟨rfl,rfl,rfl⟩:=hrel
    gi_wp2
    refine ⟨by simp,.inl ⟨_,_,rfl,run_takeDeferred HD.out.2,?_⟩⟩
    refine ⟨_,results_tmp rfl _ _ _,?_⟩
    exact (Fin.out.mark (Nat.le_trans hn0 HD.out.1) HD.out.2 rfl)
  ·have hLp : 0<L.length:=List.length_pos_iff.2 hL0
   obtain ⟨g,cg,cur,rfl,hgb,hgh,hgn,hgc,hgs,hgt⟩:∃ g cap cur,v=.slice (some ⟨g,0,none⟩) L.length cap∧w.heap.size≤g∧W.heap[g]?=some (.cells cur 105 (0,0))∧L.length≤cap∧cap≤maxLen∧cur.size=cap * 2∧cur.toList.take (L.length * 2)=L.flatMap encE:=by
    rcases hCol.own.2 with ⟨_,h0⟩ | h0
    ·omega
    ·exact h0
   have cS:=sortE_any w.heap.size g cg L cur W hgh hgt (by omega) hgb hgn hgc hgs HUP.out
   have CS:=zh cS
   have HG:=zh (And.intro hgb hgh)
   have HCOL:=zh hCol
   clear hL0 cS hgb hgh hgn hgc hgs hgt hCol
   gi_wp2_with fail
   refine ⟨trivial,(callsIn_wide.2 CS.out).mono ?_⟩
   rintro e W2 ⟨rfl,m,hm1,hm2,hm3,hm4⟩
   have hml:m.length=L.length:=hm1.length_eq
   obtain ⟨n2,hn2⟩:∃ n2,n2=W2.heap.size:=⟨_,rfl⟩
   have hms:MS w W2 w.heap.size n2 g cg m 0 (.slice none 0 0) []:=by
    have hW:W.heap.size≤W2.heap.size:=hm4.size
    have hgl:=(Array.getElem?_eq_some_iff.1 HG.out.2).1
    refine ⟨HCOL.out.bel.trans ((Below.refl _ W).grown hm4 HCOL.out.bel.size (fun b e=>by injection e with e; subst e; exact HG.out.1)),by omega,by have:=HCOL.out.bel.size; omega,by rw [hml]; exact hm3,by omega,World.ownsRow_nil _ _ _ _,fun x hx=>(nomatch hx),fun y hy=>?_,List.Pairwise.nil,fun x hx=>(nomatch hx),?_,rfl⟩
    ·have hy2:=HCOL.out.pos y (hm1.mem_iff.1 (by simpa using hy))
     refine ⟨hy2.1,(hm4.block _ (Array.getElem?_eq_some_iff.1 hy2.2).1 (fun e=>?_)).trans hy2.2⟩
     injection e with e
     rw [e,HG.out.2] at hy2
     have:=hy2.2
     injection this with this
     injection this with _ t2
     exact absurd t2 (by decide)
    ·rw [List.drop_zero]
     exact (hm1.pairwise_iff (fun {x y} h e=>h e.symm)).2 HCOL.out.ne
   have HMS:=zh hms
   have HK2:Hid (W2.heap[D]?=some (.deferred (some []))):=zh ((hm4.block D (Array.getElem?_eq_some_iff.1 HD.out.2).1 (fun e=>by
    injection e with e
    have:=HG.out.2
    rw [← e,HD.out.2] at this
    cases this)).trans HD.out.2)
   have HM2:=zh (And.intro hm2 hml)
   have hc2:W2.cell? ⟨lb,0,none⟩=some (.slice (some ⟨g,0,none⟩) L.length cg):=(cell_same (hm4.block lb HCOL.out.bx.lt (fun e=>by
    injection e with e
    have:=HG.out.2
    rw [← e,show W.heap[lb]?=_ from HCOL.out.bx] at this
    injection this with this
    injection this with _ t2
    exact absurd t2 (by decide))) 0).trans hc
   have hn2':n2≤W2.heap.size:=by omega
   clear hms hm1 hm2 hm3 hm4 hml hn2 CS HCOL HG
   clear hc
   gi_wp2_with fail
   gi_loopw [8,47] (fun v8 vi wr=>∃ (i:Nat) (O:List Tr),i≤L.length∧vi=.int .i64 (i:Nat)∧Hid (MS w wr w.heap.size n2 g cg m i v8 O)∧Hid (wr.heap[D]?=some (.deferred (some [])))) (fun _ vi _=>L.length - (intOf vi).toNat)
   case atStart=>exact ⟨0,[],Nat.zero_le _,rfl,HMS,HK2⟩
   case round =>
    clear HMS HK2 hc2
    obtain ⟨i,O,hil,rfl,hS,hK⟩:=hrel
    by_cases hlt:i<L.length
    ·have hiz:(i:Int)<(L.length:Int):=by omega
     have him:i<m.length:=by have:=HM2.out.2; omega
     have hS0:=hS.out
     have hsz:=hS0.n0W
     obtain ⟨b,o,eA,_,hcl⟩:=(Reads.of_own hS0.row).2 (by omega)
     injection eA with eA
     injection eA with eb eo
     have f0:=Ss.encs_get (enc:=encE) (k:=2) (fun _=>rfl) m i 0 him (by omega)
     have f1:=Ss.encs_get (enc:=encE) (k:=2) (fun _=>rfl) m i 1 him (by omega)
     have r0:=hcl _ _ (f0.trans rfl)
     have r1:=hcl _ _ (f1.trans rfl)
     rw [← eb,← eo,Nat.zero_add] at r0 r1
     rw [Nat.add_zero] at r0
     have hgl:g<wr.heap.size:=by have:=hS0.gl; have:=hS0.n2W; omega
     have hbx:=Blk.new wr 105 #[.string m[i].s,.slice (some ⟨m[i].b,0,none⟩) 1 1]
     have hbB:Below wr.heap.size wr (wr.alloc (.cells #[.string m[i].s,.slice (some ⟨m[i].b,0,none⟩) 1 1] 105)):=(Below.refl _ _).alloc (zG _) _
     have hS1:=zh (hS0.below hbB)
     have hK1:Hid ((wr.alloc (.cells #[.string m[i].s,.slice (some ⟨m[i].b,0,none⟩) 1 1] 105)).heap[D]?=some (.deferred (some []))):=zh ((hbB.block D (Array.getElem?_eq_some_iff.1 hK.out).1).trans hK.out)
     have hOl:O.length≤65536:=by
      have h1:=congrArg List.length hS0.is
      rw [List.length_map] at h1
      have h2:=mrg_len ((m.take i).map t1)
      rw [List.length_map,List.length_take] at h2
      omega
     have Hbx:=zh hbx
     have HLT8:=zh hS0.out.lt
     clear hcl f0 f1 hS hK hS0 eb eo hbB hbx
     refine wpIn_wide.2 ?_
     generalize hsm:m[i].s=sm at *
     generalize hbm:m[i].b=bm at *
     generalize hpm:m[i].p=pm at *
     have HNM:=zh (And.intro hsm (And.intro hbm hpm))
     clear hsm hbm hpm
     rcases List.eq_nil_or_concat O with rfl | ⟨O',x,hOO⟩
     ·obtain ⟨A8,c8,rfl,_,hc8,hn8,_⟩:=own_shape2 hS1.out.out
      go_wp2_with fail
      generalize hwB:wr.alloc (.cells #[.string sm,.slice (some ⟨bm,0,none⟩) 1 1] 105)=wB at *
      have b0:=Hbx.out.cell 0
      have b1:=Hbx.out.cell 1
      simp only [zA,zB,zC] at b0 b1
      go_quiet (fail)
      have HSS:=zh (hS1.out.below (below_dn wB nq))
      have HKK:Hid ((wB.drewN nq).heap[D]?=some (.deferred (some []))):=hK1
      have b0':(wB.drewN nq).cell? ⟨wr.heap.size,0,none⟩=some (.string sm):=b0
      have b1':(wB.drewN nq).cell? ⟨wr.heap.size,1,none⟩=some (.slice (some ⟨bm,0,none⟩) 1 1):=b1
      clear b0 b1 hS1 hK1 r0 r1 hwB Hbx
      generalize wB.drewN nq=wS at *
      have hOw:Hid ((wS.alloc (.cells #[.string sm,.slice (some ⟨bm,0,none⟩) 1 1] 105)).ownsRow n2 105 2 (.slice A8 0 c8) 0 (([]:List Tr).flatMap encO)):=zh (own_below HSS.out.out ((Below.refl _ _).alloc (zG _) _))
      have hbn:Below wS.heap.size wS (wS.alloc (.cells #[.string sm,.slice (some ⟨bm,0,none⟩) 1 1] 105)):=(Below.refl _ _).alloc (zG _) _
      have HS6:=zh (HSS.out.below hbn)
      have HK6:Hid ((wS.alloc (.cells #[.string sm,.slice (some ⟨bm,0,none⟩) 1 1] 105)).heap[D]?=some (.deferred (some []))):=zh ((hbn.block D (Array.getElem?_eq_some_iff.1 HKK.out).1).trans HKK.out)
      have hnw:=HSS.out.n2W
      have NE:Hid (∀ y:Tr,([]:List Tr).getLast?=some y→y.1≠m[i].s):=zh (fun y hy=>(nomatch hy))
      clear hbn HSS HKK
      go_wp2_with (at_builtin; refine wpList_append_own _ rfl _ _ 102 rfl n2 105 i0 _ 2 40 Tryz.underlying102 hi hz0 hz1 hz2 rfl (by decide) _ _ _ rfl hOw.out ⟨wS.heap.size,0,none⟩ 1 1 [.string sm,.slice (some ⟨bm,0,none⟩) 1 1] rfl rfl ?dA1 ?dA2 ?dA3 ?dA4 ?dA5 ?_)
      try (case dA1=>exact World.news_of_block (cs:=#[.string sm,.slice (some ⟨bm,0,none⟩) 1 1]) (t:=105) (fr:=(0,0)) (by have:=heap_alloc_new wS (.cells #[.string sm,.slice (some ⟨bm,0,none⟩) 1 1] 105); simpa using this))
      case dA2=>simp [Value.oneCell']
      case dA3=>unfold maxLen; omega
      case dA4=>omega
      case dA5=>first | omega | (simp; omega)
      intro v9 w9 hown9 hg9 _
      have hG:Hid (MS w w9 w.heap.size n2 g cg m (i+1) v9 (([]:List Tr) ++ [(m[i].s,.slice (some ⟨m[i].b,0,none⟩) 1 1,[m[i].p])])):=zh (HS6.out.more him NE.out hg9 (by rw [HNM.out.1,HNM.out.2.1]; exact hown9))
      have hK9:Hid (w9.heap[D]?=some (.deferred (some []))):=zh ((hg9.block D (Array.getElem?_eq_some_iff.1 HK6.out).1 (fun e=>by
       obtain ⟨cs,fr,h⟩:=tg_own hOw.out e.symm
       rw [HK6.out] at h
       cases h)).trans HK6.out)
      clear hown9 hg9 hOw HS6 HK6
      go_wp2
      go_roundw
      case rel=>exact ⟨i+1,_,by omega,by go_num,hG,hK9⟩
      case measure=>simp [intOf]; omega
     ·rw [List.concat_eq_append] at hOO
      subst hOO
      have hxo:=hS1.out.own x (by simp)
      obtain ⟨A8,c8,rfl,hR8,hc8,hn8,hg8⟩:=own_shape2 hS1.out.out
      have hlen8:(O' ++ [x]).length=O'.length+1:=by simp
      obtain ⟨gv,rfl,curv,hgv⟩:=hg8 (by omega)
      obtain ⟨b8,o8,e8,_,hcl8⟩:=hR8.2 (by omega)
      injection e8 with e8
      injection e8 with eb8 eo8
      have u0:=Ss.encs_get (enc:=encO) (k:=2) (fun _=>rfl) (O' ++ [x]) O'.length 0 (by omega) (by omega)
      have u1:=Ss.encs_get (enc:=encO) (k:=2) (fun _=>rfl) (O' ++ [x]) O'.length 1 (by omega) (by omega)
      rw [List.getElem_concat_length rfl] at u0 u1
      have s0:=hcl8 _ _ (u0.trans rfl)
      have s1:=hcl8 _ _ (u1.trans rfl)
      rw [← eb8,← eo8,Nat.zero_add] at s0 s1
      rw [Nat.add_zero] at s0
      obtain ⟨xb,xc,hxv,hxob,hxb,hxt⟩:=own_some hxo.1 (List.length_pos_iff.2 hxo.2)
      have hgn:gv≠wr.heap.size:=fun e=>by
       have:=(HLT8.out gv rfl).2
       omega
      clear hcl8 u0 u1 eb8 eo8 hR8 hg8
      go_wp2_with fail
      generalize hwB:wr.alloc (.cells #[.string sm,.slice (some ⟨bm,0,none⟩) 1 1] 105)=wB at *
      have b0:=Hbx.out.cell 0
      have b1:=Hbx.out.cell 1
      simp only [zA,zB,zC] at b0 b1
      have HL8:=zh hlen8
      have hOl2:O'.length≤65536:=by omega
      clear hlen8 r0 r1 hwB
      by_cases hq:x.1=sm
      ·have hbq:(x.1.toList == sm.toList)=true:=by rw [hq]; simp
       have HQ:=zh hq
       clear hq
       go_quiet (fail)
       have HSS:=zh (hS1.out.below (below_dn wB nq))
       have HKK:Hid ((wB.drewN nq).heap[D]?=some (.deferred (some []))):=hK1
       have hX8:Hid (Blk (wB.drewN nq) wr.heap.size 105 #[.string sm,.slice (some ⟨bm,0,none⟩) 1 1]):=Hbx
       have hG8:Hid ((wB.drewN nq).heap[gv]?=some (.cells curv 105 (0,0))):=zh hgv
       have z0:(wB.drewN nq).cell? ⟨gv,O'.length * 2+1,none⟩=some (.slice (some ⟨xb,0,none⟩) x.2.2.length xc):=by rw [← hxv]; exact s1
       have z1:(wB.drewN nq).cell? ⟨wr.heap.size,1,none⟩=some (.slice (some ⟨bm,0,none⟩) 1 1):=b1
       clear b0 b1 s0 s1 hS1 hK1 Hbx hgv
       generalize wB.drewN nq=wC at *
       go_wp2_with fail
       have hPL:x.2.2.length≤65536:=by
        have h1:=mrg_pos ((m.take i).map t1) (x.1,x.2.2) (by rw [← HSS.out.is]; simp)
        rw [List.length_map,List.length_take] at h1
        simp only at h1
        omega
       have hltb:(O'.length:Int)<(O'.length:Int)+1:=by omega
       refine wp_region_ph_tail 12 (specOf [(9,⟨Value,fun x=>x,fun v wx=>∃ Wp,MS w Wp w.heap.size n2 g cg m i (.slice (some ⟨gv,0,none⟩) (O' ++ [x]).length c8) (O' ++ [x])∧Wp.grownBy wx x.2.1.ownBlock∧wx.ownsRow w.heap.size 3 1 v (x.2.2.length+1) (nC x.2.2 ++ [.int .i64 (m[i].p:Nat)])∧(v.ownBlock=x.2.1.ownBlock∨v.ownBlock=some Wp.heap.size)∧wx.heap[D]?=some (.deferred (some []))⟩)])
        (fun wx=>wx.heap[gv]?=wC.heap[gv]?∧wx.heap[wr.heap.size]?=wC.heap[wr.heap.size]?) (fun wx=>MS w wx w.heap.size n2 g cg m i (.slice (some ⟨gv,0,none⟩) (O' ++ [x]).length c8) (O' ++ [x])∧wx.heap[D]?=some (.deferred (some []))) (by kernel_rfl) (by kernel_rfl) (turns_of (by kernel_rfl)) ⟨rfl,rfl⟩ ⟨HSS.out.below (below_dn wC 1),HKK.out⟩ ?_
       refine ph_fix 1 ?_ rfl (by rfl) (by rfl) (fun wx hC=>?_) ?_
       rotate_left
       ·obtain ⟨hC1,hC2⟩:=hC; have q0:=(cell_same hC1 _).trans z0; have q1:=(cell_same hC2 _).trans z1
        go_simp
        all_goals with_reducible rfl
       try simp only [Act.put,zD,zE,zF]
       refine ph_fix 2 ?_ rfl (by rfl) (by rfl) (fun wx hC=>?_) ?_
       rotate_left
       ·obtain ⟨hC1,hC2⟩:=hC; have q0:=(cell_same hC1 _).trans z0; have q1:=(cell_same hC2 _).trans z1
        go_simp
        all_goals with_reducible rfl
       try simp only [Act.put,zD,zE,zF]
       refine ph_fix 3 ?_ rfl (by rfl) (by rfl) (fun wx hC=>?_) ?_
       rotate_left
       ·obtain ⟨hC1,hC2⟩:=hC; have q0:=(cell_same hC1 _).trans z0; have q1:=(cell_same hC2 _).trans z1
        go_simp
        all_goals with_reducible rfl
       try simp only [Act.put,zD,zE,zF]
       refine ph_fix 4 ?_ rfl (by rfl) (by rfl) (fun wx hC=>?_) ?_
       rotate_left
       ·obtain ⟨hC1,hC2⟩:=hC; have q0:=(cell_same hC1 _).trans z0; have q1:=(cell_same hC2 _).trans z1
        go_simp
        all_goals with_reducible rfl
       try simp only [Act.put,zD,zE,zF]
       refine ph_fix 5 ?_ rfl (by rfl) (by rfl) (fun wx hC=>?_) ?_
       rotate_left
       ·obtain ⟨hC1,hC2⟩:=hC; have q0:=(cell_same hC1 _).trans z0; have q1:=(cell_same hC2 _).trans z1
        go_simp
        all_goals with_reducible rfl
       try simp only [Act.put,zD,zE,zF]
       refine ph_fix 6 ?_ rfl (by rfl) (by rfl) (fun wx hC=>?_) ?_
       rotate_left
       ·obtain ⟨hC1,hC2⟩:=hC; have q0:=(cell_same hC1 _).trans z0; have q1:=(cell_same hC2 _).trans z1
        go_simp
        all_goals with_reducible rfl
       try simp only [Act.put,zD,zE,zF]
       refine ph_fix 7 ?_ rfl (by rfl) (by rfl) (fun wx hC=>?_) ?_
       rotate_left
       ·obtain ⟨hC1,hC2⟩:=hC; have q0:=(cell_same hC1 _).trans z0; have q1:=(cell_same hC2 _).trans z1
        go_simp
        all_goals with_reducible rfl
       try simp only [Act.put,zD,zE,zF]
       refine ph_fix 8 ?_ rfl (by rfl) (by rfl) (fun wx hC=>?_) ?_
       rotate_left
       ·obtain ⟨hC1,hC2⟩:=hC; have q0:=(cell_same hC1 _).trans z0; have q1:=(cell_same hC2 _).trans z1
        go_simp
        all_goals with_reducible rfl
       try simp only [Act.put,zD,zE,zF]
       refine ph_fix 9 ?_ rfl (by rfl) (by rfl) (fun wx hC=>?_) ?_
       rotate_left
       ·obtain ⟨hC1,hC2⟩:=hC; have q0:=(cell_same hC1 _).trans z0; have q1:=(cell_same hC2 _).trans z1
        go_simp
        all_goals with_reducible rfl
       try simp only [Act.put,zD,zE,zF]
       refine ph_give 10 _ rfl (by rfl) (by rfl) (fun wx hC hI=>?_) (fun y=>?_)
       ·obtain ⟨hMx,hDx⟩:=hI
        have hox:=(hMx.own x (by simp)).1
        have hrx:=hMx.rest m[i] (by rw [drop_at2 him]; exact List.mem_cons_self ..)
        rw [HNM.out.2.1,HNM.out.2.2] at hrx
        refine give_append_at _ _ 38 rfl w.heap.size 3 j0 _ 1 8 Tryz.underlying38 hj hy0 hy1 hy2 rfl (by decide) (.slice (some ⟨xb,0,none⟩) x.2.2.length xc) x.2.2.length (nC x.2.2) rfl (by rw [← hxv]; exact hox) ⟨bm,0,none⟩ 1 1 [.int .i64 (pm:Nat)] rfl rfl ?e1 ?e2 ?e3 ?e4 ?e5 ?_
        case e1=>exact World.news_of_block (cs:=#[.int .i64 (pm:Nat)]) (t:=3) (fr:=(0,0)) hrx.2
        case e2=>simp [Value.oneCell']
        case e3=>unfold maxLen; omega
        case e4=>omega
        case e5=>exact hMx.n0W
        intro v7 w7 hown7 hg7 hat7
        have hxg:∀ b,Tg wx 105 b→w7.heap[b]?=wx.heap[b]?:=fun b hb=>hg7.block b hb.lt (fun e=>by
         injection e with e
         have e2:b=xb:=e
         subst e2
         exact absurd (hb.one (tg_own hox hxob)) (by decide))
        have tg1:Tg wx 105 gv:=⟨_,_,hC.1.trans hG8.out⟩
        have tg2:Tg wx 105 wr.heap.size:=⟨_,_,hC.2.trans hX8.out⟩
        refine ⟨⟨(hxg _ tg1).trans hC.1,(hxg _ tg2).trans hC.2⟩,v7,rfl,wx,hMx,by rw [hxv]; exact hg7,by rw [HNM.out.2.2]; exact hown7,by rw [hxv]; exact hat7,?_⟩
        refine (hg7.block D (Array.getElem?_eq_some_iff.1 hDx).1 (fun e=>?_)).trans hDx
        injection e with e
        obtain ⟨cs,fr,h⟩:=tg_own hox hxob
        rw [show xb=D from e.symm,hDx] at h
        cases h
       rename Value=>y7
       try simp only [Act.put,zD,zE,zF]
       refine ph_fix 11 ?_ rfl (by rfl) (by rfl) (fun wx hC=>?_) ?_
       rotate_left
       ·obtain ⟨hC1,hC2⟩:=hC; have q0:=(cell_same hC1 _).trans z0; have q1:=(cell_same hC2 _).trans z1
        go_simp
        all_goals with_reducible rfl
       try simp only [Act.put,zD,zE,zF]
       refine ph_fix 12 ?_ rfl (by rfl) (by rfl) (fun wx hC=>?_) ?_
       rotate_left
       ·obtain ⟨hC1,hC2⟩:=hC; have q0:=(cell_same hC1 _).trans z0; have q1:=(cell_same hC2 _).trans z1
        go_simp
        all_goals with_reducible rfl
       try simp only [Act.put,zD,zE,zF]
       refine ph_nil (fun w7 hC hI=>?_)
       obtain ⟨Wp,hMp,hgp,hop,hap,hDp⟩:=hI
       obtain ⟨gy,qy,rfl⟩:=own_succ hop
       have hAg:=hMp.again him (by rw [HNM.out.1]; exact HQ.out) hgp hop hap
       have hgC:w7.heap[gv]?=some (.cells curv 105 (0,0)):=hC.1.trans hG8.out
       have q0:=(cell_same hC.1 (O'.length * 2+1)).trans z0
       have q2:w7.frozen? ⟨gv,O'.length * 2+1,none⟩=false:=by simp [World.frozen?,hgC]
       have hK9:Hid ((w7.setCell ⟨gv,O'.length * 2+1,none⟩ (.slice (some ⟨gy,0,none⟩) (x.2.2.length+1) qy)).heap[D]?=some (.deferred (some []))):=zh ((Below.heap_setCell _ _ _ _ (fun e=>by
        have e2:D=gv:=e
        rw [e2,hgC] at hDp
        cases hDp)).trans hDp)
       have hG:Hid (MS w (w7.setCell ⟨gv,O'.length * 2+1,none⟩ (.slice (some ⟨gy,0,none⟩) (x.2.2.length+1) qy)) w.heap.size n2 g cg m (i+1) (.slice (some ⟨gv,0,none⟩) (O'.length+1) c8) (O' ++ [(x.1,.slice (some ⟨gy,0,none⟩) (x.2.2.length+1) qy,x.2.2 ++ [m[i].p])])):=zh (by
        have:=hAg
        rwa [show (O' ++ [(x.1,(.slice (some ⟨gy,0,none⟩) (x.2.2.length+1) qy:Value),x.2.2 ++ [m[i].p])]).length=O'.length+1 by simp] at this)
       clear hMp hgp hop hap hDp hAg hgC hC HSS HKK hX8 hG8
       go_wp2
       go_roundw
       case rel=>exact ⟨i+1,_,by omega,by go_num,hG,hK9⟩
       case measure=>simp [intOf]; omega
      ·have hbq:(x.1.toList == sm.toList)=false:=by
        simp only [beq_eq_false_iff_ne,ne_eq]
        exact fun e=>hq (toList_inj e)
       have HQ:=zh hq
       clear hq
       go_quiet (fail)
       have HSS:=zh (hS1.out.below (below_dn wB nq))
       have HKK:Hid ((wB.drewN nq).heap[D]?=some (.deferred (some []))):=hK1
       have b0':(wB.drewN nq).cell? ⟨wr.heap.size,0,none⟩=some (.string sm):=b0
       have b1':(wB.drewN nq).cell? ⟨wr.heap.size,1,none⟩=some (.slice (some ⟨bm,0,none⟩) 1 1):=b1
       clear b0 b1 s0 s1 hS1 hK1 Hbx hgv
       generalize wB.drewN nq=wS at *
       have hOw:Hid ((wS.alloc (.cells #[.string sm,.slice (some ⟨bm,0,none⟩) 1 1] 105)).ownsRow n2 105 2 (.slice (some ⟨gv,0,none⟩) (O'.length+1) c8) (O'.length+1) ((O' ++ [x]).flatMap encO)):=zh (own_below (by have:=HSS.out.out; rwa [HL8.out] at this) ((Below.refl _ _).alloc (zG _) _))
       have hbn:Below wS.heap.size wS (wS.alloc (.cells #[.string sm,.slice (some ⟨bm,0,none⟩) 1 1] 105)):=(Below.refl _ _).alloc (zG _) _
       have HS6:=zh (HSS.out.below hbn)
       have HK6:Hid ((wS.alloc (.cells #[.string sm,.slice (some ⟨bm,0,none⟩) 1 1] 105)).heap[D]?=some (.deferred (some []))):=zh ((hbn.block D (Array.getElem?_eq_some_iff.1 HKK.out).1).trans HKK.out)
       have hnw:=HSS.out.n2W
       have NE:Hid (∀ y:Tr,(O' ++ [x]).getLast?=some y→y.1≠m[i].s):=zh (fun y hy=>by
         rw [List.getLast?_concat] at hy
         injection hy with hy
         rw [← hy,HNM.out.1]
         exact HQ.out)
       clear hbn HSS HKK
       go_wp2_with (at_builtin; refine wpList_append_own _ rfl _ _ 102 rfl n2 105 i0 _ 2 40 Tryz.underlying102 hi hz0 hz1 hz2 rfl (by decide) _ _ _ rfl hOw.out ⟨wS.heap.size,0,none⟩ 1 1 [.string sm,.slice (some ⟨bm,0,none⟩) 1 1] rfl rfl ?dB1 ?dB2 ?dB3 ?dB4 ?dB5 ?_)
       try (case dB1=>exact World.news_of_block (cs:=#[.string sm,.slice (some ⟨bm,0,none⟩) 1 1]) (t:=105) (fr:=(0,0)) (by have:=heap_alloc_new wS (.cells #[.string sm,.slice (some ⟨bm,0,none⟩) 1 1] 105); simpa using this))
       case dB2=>simp [Value.oneCell']
       case dB3=>unfold maxLen; omega
       case dB4=>omega
       case dB5=>first | omega | (simp; omega)
       intro v9 w9 hown9 hg9 _
       have hG:Hid (MS w w9 w.heap.size n2 g cg m (i+1) v9 ((O' ++ [x]) ++ [(m[i].s,.slice (some ⟨m[i].b,0,none⟩) 1 1,[m[i].p])])):=zh (HS6.out.more him NE.out hg9 (by rw [HNM.out.1,HNM.out.2.1,HL8.out,List.flatMap_append]; simpa [List.append_assoc] using hown9))
       have hK9:Hid (w9.heap[D]?=some (.deferred (some []))):=zh ((hg9.block D (Array.getElem?_eq_some_iff.1 HK6.out).1 (fun e=>by
        obtain ⟨cs,fr,h⟩:=tg_own hOw.out e.symm
        rw [HK6.out] at h
        cases h)).trans HK6.out)
       clear hown9 hg9 hOw HS6 HK6
       go_wp2
       go_roundw
       case rel=>exact ⟨i+1,_,by omega,by go_num,hG,hK9⟩
       case measure=>simp [intOf]; omega
    ·have hiz:¬ (i:Int)<(L.length:Int):=by omega
     have Fin:Hid (TermsPost w (addAll (raw fs)) (.returned _) wr):=zh ((show i=m.length by have:=HM2.out.2; omega) ▸ hS.out |>.fin (l:=addAll (raw fs)) (by rw [HM2.out.1,HIS.out]) (by have h1:=addAll_len (raw fs); have h2:=congrArg List.length HIS.out; rw [List.length_map] at h2; omega))
     obtain ⟨A8,c8,hv8,_⟩:=own_shape2 hS.out.out
     subst hv8
     gi_wp2
     refine ⟨by simp,.inl ⟨_,_,rfl,run_takeDeferred hK.out,?_⟩⟩
     refine ⟨_,results_tmp rfl _ _ _,?_⟩
     exact (Fin.out.mark (Nat.le_trans hn0 HD.out.1) hK.out rfl)
 case stop =>
  rintro D c pre W _ _ h _
  exact h.elim
end Go.Proofs.YtlfpfkallgkjdaaGreat.Ev


