/- token.Phrase: the walk. -/
import Derived.Deep.DeepCutAuto
import Derived.Outline
import Derived.RangeFuncNested
import Derived.RangeFuncBox
import Derived.RangeFuncBound
import Derived.RangeFuncCalls
import Derived.RangeFuncLeaves
import Derived.Shelf.Abstract
import Derived.OwnWalkIn
import Derived.TacticsInMore
import Derived.LoopNIn
import Derived.LoopIn
import Derived.Maps.AppendAt
import Derived.Test.YtlfpfkallgkjdaaGreatQAlertRunsRow12
import Derived.Test.YtlfpfkallgkjdaaGreatQAlertRunsRow13
import Derived.Test.YtlfpfkallgkjdaaGreatQAlertRunsRow4
import Derived.Test.YtlfpfkallgkjdaaGreatQAlertRunsRow0
set_option linter.unusedSimpArgs false
set_option linter.unusedVariables false
set_option maxRecDepth 20000
section
namespace Go.Proofs.YtlfpfkallgkjdaaGreat.Qy
open Go.RowKit Ut Tk
def nv (l:List Nat):List Value:=l.map fun n:Nat=>Value.int .i64 (n:Int)
theorem nv_snoc (l:List Nat) (n:Nat):nv (l ++ [n])=nv l ++ [.int .i64 (n:Int)]:=by simp [nv]
structure Ints (w wr:World) (v:Value) (l:List Nat):Prop where
 own:wr.ownsRow w.heap.size 3 1 v l.length (nv l)
 bel:Below w.heap.size w wr
theorem Ints.below {w wr w2:World} {v:Value} {l:List Nat} (h:Ints w wr v l) (hb:Below wr.heap.size wr w2):Ints w w2 v l :=
 ⟨h.own.kept (grow_of_below hb none) (by cases hv:v.ownBlock <;> simp),h.bel.trans (hb.mono h.bel.size)⟩
theorem Ints.put {w wr w2:World} {v v':Value} {l:List Nat} {n:Nat} (h:Ints w wr v l) (hp:w2.ownsRow w.heap.size 3 1 v' (l.length+1) (nv l ++ [.int .i64 (n:Int)])) (hg:wr.grownBy w2 v.ownBlock):Ints w w2 v' (l ++ [n]):=by
 refine ⟨?_,h.bel.grown hg h.bel.size (fun k hk=>(h.own.lt k hk).1)⟩
 rw [nv_snoc,List.length_append]
 exact hp
theorem Ints.start (w:World):Ints w w (.slice none 0 0) []:=⟨World.ownsRow_nil _ _ _ _,Below.refl _ _⟩
def IntPost (w:World) (l:List Nat) (e:Ending) (w':World):Prop:=∃ v,e=.returned v∧Ints w w' v l
set_option maxHeartbeats 400000 in
theorem behind_any (k j:Nat) (h:k+j<4611686018427387904) (w:World):Calls Tryz.prog 159 #[.int .i64 (k:Int),.int .i64 ((k+j:Nat):Int),.int .i64 (j:Int)] w fun e w'=>e=.returned (.bool true)∧w=w':=by
 have h1:(k:Int)≤((k+j:Nat):Int):=by omega
 have h0:(0:Int)≤(k:Int):=by omega
 have h2:(0:Int)≤(j:Int):=by omega
 have h3:((k+j:Nat):Int) - (k:Int)=(j:Int):=by omega
 have h4:((k+j:Nat):Int)<4611686018427387904:=by omega
 have h5:(j:Int)<4611686018427387904:=by omega
 have h6:(k:Int)<4611686018427387904:=by omega
 generalize ((k+j:Nat):Int)=a at *
 generalize (k:Int)=b at *
 generalize (j:Int)=c at *
 go_enter Tryz.func159,Tryz.ntmps159
 go_wp2
 go_ret
 exact ⟨by simp,rfl⟩
set_option maxHeartbeats 1600000 in
theorem phrase_any (TA:Option Addr) (n tc:Nat) (T:List (List UInt8)) (WA:Option Addr) (m wc:Nat) (ws:List ByteArray) (w:World) (hT:Reads w w.heap.size 2 TA n (tokC (placed T))) (hn:T.length=n) (hn2:n≤1048576)
  (hW:Reads w w.heap.size 1 WA m (ws.map Value.string)) (hm:ws.length=m) (hm2:m≤8796093021952) :
  Calls Tryz.prog 125 #[.slice TA n tc,.slice WA m wc] w (IntPost w (phr T ws)):=by
 obtain ⟨i0,hi0,hz0,hz1,hz2⟩:=info_parts int_info2
 have HT:=zh hT
 have HW:=zh hW
 clear hT hW
 by_cases h0:m=0
 ·have hws:ws=[]:=List.length_eq_zero_iff.1 (by omega)
  have Fin:Hid (phr T ws=[]):=zh (by unfold phr; rw [if_pos hws])
  have h0':((m:Int) == 0)=true:=by rw [beq_iff_eq]; omega
  clear h0 hws hm
  go_enter Tryz.func125,Tryz.ntmps125
  go_wp2_with fail
  go_step3
  go_wp2
  rw [Exit.noGoto_ret]
  go_ret
  exact ⟨_,rfl,by rw [Fin.out]; exact Ints.start w⟩
 ·have hws:ws≠[]:=fun e=>h0 (by rw [← hm,e]; rfl)
  have Fin:Hid (phr T ws=phrTo T ws n):=zh (by unfold phr; rw [if_neg hws,hn])
  have h0':((m:Int) == 0)=false:=by rw [beq_eq_false_iff_ne]; omega
  have Hn:=zh hn
  have Hm:=zh hm
  clear h0 hws hm hn
  go_enter Tryz.func125,Tryz.ntmps125
  go_wp2_with fail
  go_step3
  go_wp2_with fail
  go_step3
  go_wp2_with fail
  go_loopw [5,16] (fun v i wr=>∃ k:Nat,k≤n∧i=.int .i64 k∧Ints w wr v (phrTo T ws k)) (fun _ i _=>n - (intOf i).toNat)
  case atStart=>exact ⟨0,Nat.zero_le _,rfl,Ints.start w⟩
  case round =>
   obtain ⟨k,hk,rfl,hI⟩:=hrel
   by_cases hlt:k<n
   ·obtain ⟨tb,tq,rfl,htb,hc1,hc2⟩:=toks_at HT.out Hn.out (k:=k) (by rw [Hn.out]; exact hlt)
    have hd1:=(hI.bel.cell (p:=⟨tb,tq+k * 2,none⟩) htb).trans hc1
    have hd2:=(hI.bel.cell (p:=⟨tb,tq+k * 2+1,none⟩) htb).trans hc2
    have HI:=zh hI
    have hz:=hI.bel.size
    have hpl:=phrTo_len T ws k
    clear hI hc1 hc2
    by_cases hs:n - k<m
    ·have hs':(n:Int) - (k:Int)<(m:Int):=by omega
     have Fin2:Hid (phrTo T ws n=phrTo T ws k):=zh (phrTo_short T ws k (by rw [Hn.out,Hm.out]; exact hs) n (by omega))
     have HI2:=zh (HI.out.below ((Below.refl _ _).alloc (zG _) (.cells #[.string (str (T[k]'(by rw [Hn.out]; exact hlt))),.int .i64 (k:Int)] 154)))
     generalize (str (T[k]'(by rw [Hn.out]; exact hlt)))=tk at *
     clear hs
     go_wp2
     rw [Exit.noGoto_ret]
     go_ret
     exact ⟨_,rfl,by rw [Fin.out,Fin2.out]; exact HI2.out⟩
    ·have hs':(m:Int)≤(n:Int) - (k:Int):=by omega
     have HB7:=zh ((Blk.new wr 154 #[.string (str (T[k]'(by rw [Hn.out]; exact hlt))),.int .i64 (k:Int)]))
     generalize (str (T[k]'(by rw [Hn.out]; exact hlt)))=tk at *
     obtain ⟨wo,rfl⟩:∃ wo:World,wo=wr:=⟨_,rfl⟩
     have hmn:m≤n - k:=by omega
     clear hs
     go_wp2_with fail
     go_loopw [30] (fun i wq=>∃ j:Nat,j≤m∧i=.int .i64 j∧standsTo T ws k j=true∧Below (wo.alloc (.cells #[.string tk,.int .i64 (k:Int)] 154)).heap.size (wo.alloc (.cells #[.string tk,.int .i64 (k:Int)] 154)) wq) (fun i _=>m - (intOf i).toNat)
     case atStart=>exact ⟨0,Nat.zero_le _,rfl,standsTo_zero _ _ _,Below.refl _ _⟩
     case round =>
      obtain ⟨j,hj,rfl,hst,hbq⟩:=hrel
      have HIq:=zh ((HI.out.below ((Below.refl _ _).alloc (zG _) (.cells #[.string tk,.int .i64 (k:Int)] 154))).below hbq)
      have h7:=HB7.out.below hbq (by simp)
      have h7a:=h7.cell 0
      have h7b:=h7.cell 1
      simp at h7a h7b
      have Hbq:=zh hbq
      have Hst:=zh hst
      have hzq:=hbq.size
      simp at hzq
      clear h7 hbq hst
      by_cases hjm:j<m
      ·obtain ⟨xb,xo,e1,hxb,hx1,hx2⟩:=toks_at HT.out Hn.out (k:=k+j) (by rw [Hn.out]; omega)
       injection e1 with e1
       injection e1 with e1 e2
       subst e1 e2
       obtain ⟨ab,ao,hkl,rfl,hab,hcw⟩:=HW.out.at_map hjm
       have hbw:=HIq.out.bel
       have hy1:=(hbw.cell (p:=⟨tb,tq+(k+j) * 2,none⟩) htb).trans hx1
       have hy2:=(hbw.cell (p:=⟨tb,tq+(k+j) * 2+1,none⟩) htb).trans hx2
       have hyw:=(hbw.cell (p:=⟨ab,ao+j,none⟩) hab).trans hcw
       have hss:=standsTo_succ T ws k j (by rw [Hn.out]; omega) (by rw [Hm.out]; omega)
       have hbe:=str_beq (T[k+j]'(by rw [Hn.out]; omega)) ws[j]
       rw [Hst.out,Bool.true_and,← hbe] at hss
       have Hss:=zh hss
       have hi0:(0:Int)≤(k:Int)+(j:Int):=by omega
       have hi1:(k:Int)+(j:Int)<(n:Int):=by omega
       have hi2:((k:Int)+(j:Int)).toNat=k+j:=by omega
       have Hno:Hid (standsTo T ws k (j+1)=false→phrTo T ws (k+1)=phrTo T ws k):=zh (fun e=>by
        rw [phrTo_succ,standsTo_no T ws k (j+1) (by rw [Hm.out]; omega) e]; simp)
       clear hbw hx1 hx2 hcw hss hbe
       generalize (str (T[k+j]'(by rw [Hn.out]; omega)))=x at *
       generalize ws[j]=y at *
       by_cases hxy:(x.toList == y.toList)=true
       ·have hxy':(x.toList != y.toList)=false:=by rw [bne,hxy]; rfl
        have Hs2:Hid (standsTo T ws k (j+1)=true):=zh (by rw [Hss.out,hxy])
        have c1:=fun wx=>behind_any k j (by omega) wx
        have h7c:=fun o=>(World.cell?_alloc_lt wr o ⟨wo.heap.size,1,none⟩ (by show wo.heap.size < _; omega)).trans h7b
        have hbx:=Hbq.out.alloc Hbq.out.size (.cells #[.string x,.int .i64 ((k+j:Nat):Int)] 154)
        have Hbx:=zh hbx
        have C1:=zh c1
        clear hbx c1
        have e1:((k+j:Nat):Int)=(k:Int)+(j:Int):=by omega
        rw [e1] at C1
        have E1:=zh e1
        clear e1
        go_wp2_with (go_at_call 159; refine (C1.out _).mono ?_; rintro e w' ⟨rfl,rfl⟩)
        go_roundw
        case rel=>exact ⟨j+1,by omega,by go_num,Hs2.out,Hbx.out⟩
        case measure=>simp [intOf]; omega
       ·have hxy':(x.toList != y.toList)=true:=by rw [bne,Bool.eq_false_iff.2 hxy]; rfl
        have Hs2:=zh (Hno.out (by rw [Hss.out]; exact Bool.eq_false_iff.2 hxy))
        have hxf:(x.toList == y.toList)=false:=Bool.eq_false_iff.2 hxy
        have HIx:=zh (HIq.out.below ((Below.refl _ _).alloc (zG _) (.cells #[.string x,.int .i64 ((k+j:Nat):Int)] 154)))
        clear hxy
        go_wp2
        go_roundw
        case rel=>exact ⟨k+1,by omega,by go_num,by rw [Hs2.out]; exact HIx.out⟩
        case measure=>simp [intOf]; omega
      ·obtain rfl:j=m:=by omega
       have hst2:=Hst.out
       have hmm:=Hm.out
       subst hmm
       rw [standsTo_all] at hst2
       have Hph:Hid (phrTo T ws (k+1)=phrTo T ws k ++ [k]):=zh (by rw [phrTo_succ,hst2]; rfl)
       have hown:=HIq.out.own
       have hbsz:=HIq.out.bel.size
       clear hst2
       generalize phrTo T ws k=P at *
       go_wp2_with (at_builtin; refine wpList_append_own _ rfl _ _ 38 rfl w.heap.size 3 i0 _ 1 8 Tryz.underlying38 hi0 hz0 hz1 hz2 rfl (by decide) _ _ _ rfl (hown.alloc _) ⟨wr.heap.size,0,none⟩ 1 1 [.int .i64 (k:Int)] rfl rfl ?d1 ?d2 ?d3 ?d4 ?d5 ?_)
       case d2=>first | rfl | (intro u hu; simp at hu; subst hu; rfl)
       case d3=>unfold maxLen; omega
       case d4=>omega
       case d5=>first | omega | (simp; omega)
       intro v' w5 hown5 hg5 _
       have HI5:=zh ((HIq.out.below ((Below.refl _ _).alloc (zG _) _)).put hown5 hg5)
       clear hown5 hg5 hown
       go_wp2
       go_roundw
       case rel=>exact ⟨k+1,by omega,by go_num,by rw [Hph.out]; exact HI5.out⟩
       case measure=>simp [intOf]; omega
   ·obtain rfl:k=n:=by omega
    have HI:=zh hI
    clear hI
    go_wp2
    rw [Exit.noGoto_ret]
    go_ret
    exact ⟨_,rfl,by rw [Fin.out]; exact HI.out⟩
end Go.Proofs.YtlfpfkallgkjdaaGreat.Qy
end

section
namespace Go.Proofs.YtlfpfkallgkjdaaGreat.Ev
open Go.RowKit Go.Shelf Ut Tk Qy
attribute [local go_sem] Oper.semAt_some
def KE (n₀:Nat) (W W':World):Prop:=Below n₀ W W'∧∀ (b:Nat) (cs:Array Value) (T:TypeId) (fr:Nat × Nat),(T=33∨T=99)→W.heap[b]?=some (.cells cs T fr)→W'.heap[b]?=some (.cells cs T fr)
theorem KE.trans {n₀:Nat} {A B C:World} (h:KE n₀ A B) (k:KE n₀ B C):KE n₀ A C:=⟨h.1.trans k.1,fun b cs T fr hT hb=>k.2 b cs T fr hT (h.2 b cs T fr hT hb)⟩
theorem KE.below {n₀:Nat} {A B:World} (h:Below A.heap.size A B) (hn:n₀≤A.heap.size):KE n₀ A B:=⟨h.mono hn,fun b cs T fr hT hb=>(h.block b (Array.getElem?_eq_some_iff.1 hb).1).trans hb⟩
theorem KE.putObj {n₀:Nat} {w:World} (h:n₀≤w.heap.size) (W:World) (l:Nat) (o o':Obj) (hn:w.heap.size≤l) (hl:W.heap[l]?=some o) (hc:o.isCells=false) (hw:o.isWalk=false):KE n₀ W (W.putObj l o'):=by
 refine ⟨belowK_b h W l o o' hn hl hc hw,fun b cs T fr hT hb=>?_⟩
 refine (World.putObj_heap_other (fun e=>?_)).trans hb
 subst e
 rw [hl] at hb
 injection hb with hb
 subst hb
 cases hc
abbrev Xf:={ x:Nat × Fl // x.1≤100000∧x.2.1.size≤32∧x.2.2.size≤4096 }
structure BasedIn (t:Int) (F:Option Addr) (fn fc:Nat) (n₀ tb:Nat) (fs:List Fl) (J:List Xf→World→Prop) (wr:World) (k base:Nat) (pre:List Xf):Prop where
 le:k≤fs.length
 all:pre.map (·.1) ++ basedL base (fs.drop k)=basedL 0 fs
 bb:base≤k * 4160
 j:J pre wr
 bx:Blk wr tb 33 #[.int .i64 t,.slice F fn fc]
 rd:Reads wr n₀ 2 F fn (fldC fs)
 n0:n₀≤wr.heap.size
set_option maxRecDepth 100000 in
set_option maxHeartbeats 4000000 in
theorem based1_in (m:Nat) (hn : 1≤m) (l tb n₀ B:Nat) (t:Int) (F:Option Addr) (fn fc:Nat) (fs:List Fl) (hok:∀ f∈fs,f.1.size≤32∧f.2.size≤4096) (hlen:fs.length≤16) (J Jx:List Xf→World→Prop) (hJ:AbidesFrom B J)
  (hY:∀ pre (x:Xf) W,J pre W→pre.length<fs.length→YieldAt Fence.wide (m - 1) Tryz.prog l #[.int .i64 (x.1.1:Nat),.agg #[.string x.1.2.1,.string x.1.2.2]] W fun e W' =>
   (e=.returned (.bool true)∧J (pre ++ [x]) W'∧KE n₀ W W')∨(e=.returned (.bool false)∧Jx (pre ++ [x]) W'))
  (hJs:∀ pre W W',J pre W→Below W.heap.size W W'→J pre W')
  (W:World) (hb:Blk W tb 33 #[.int .i64 t,.slice F fn fc]) (hF:Reads W n₀ 2 F fn (fldC fs)) (hfn:fs.length=fn) (hfc:fn≤fc) (hnW:n₀≤W.heap.size) (h0:J [] W) :
  CallsIn Fence.wide m Tryz.prog 107 #[.func (.yield l) #[] #[],.pointer (some ⟨tb,0,none⟩)] W fun e W'=>(∃ v,e=.returned v) ∧
   ((∃ ys:List Xf,ys.map (·.1)=basedL 0 fs∧J ys W')∨(∃ pre:List Xf,pre.map (·.1) <+: basedL 0 fs∧Jx pre W')):=by
 have st:BasedIn t F fn fc n₀ tb fs J W 0 0 []:=⟨Nat.zero_le _,by simp,by omega,h0,hb,hF,hnW⟩
 have St:=zh st
 have HJs:=zh hJs
 have HY:=zh hY
 have HOK:=zh hok
 have HLN:=zh hfn
 have hl1:fn≤16:=by omega
 have hl2:fs.length≤fn:=by omega
 have hl3:fn≤fs.length:=by omega
 have c0:=hb.cell 1
 simp only [zA,zB,zC] at c0
 clear st h0 hb hJ hY hok hF hJs hfn hlen
 refine callsIn_of_wp Tryz.func107 rfl trivial ?_ rfl
 simp only [Tryz.ntmps107,List.size_toArray,List.length_cons,List.length_nil,Nat.reduceAdd,Nat.reduceSub,Array.replicate_succ,Array.replicate_zero,List.push_toArray,List.append_toArray,List.nil_append,List.cons_append]
 gi_wp2
 clear c0
 gi_loopw [3,9] (fun b i wr=>∃ (k base:Nat) (pre:List Xf),i=.int .i64 (k:Nat)∧b=.int .i64 (base:Nat)∧BasedIn t F fn fc n₀ tb fs J wr k base pre)
  (fun b i wr=>fs.length - (intOf i).toNat)
 case atStart=>exact ⟨0,0,[],rfl,rfl,St.out⟩
 case round =>
  clear St
  obtain ⟨k,base,pre,rfl,rfl,hR⟩:=hrel
  have hk:=hR.le
  have hbb:=hR.bb
  by_cases hlt:k<fs.length
  ·have hkf:k<fn:=by omega
   obtain ⟨fb,fo,eF,hfb,cn,ct⟩:=fields_at hR.rd hlt
   have hok:=HOK.out _ (List.getElem_mem hlt)
   have hk1:(k:Int)<(fn:Int):=by omega
   have hdr:fs.drop k=fs[k] :: fs.drop (k+1):=List.drop_eq_getElem_cons hlt
   have hal:=hR.all
   rw [hdr] at hal
   have hpl:pre.length<fs.length:=by
    have:=congrArg List.length hal
    rw [List.length_append,List.length_map,basedL_len,basedL_len] at this
    simp at this
    omega
   have hwl:=words_len fs[k].2
   have HR:=zh hR
   have Hal:=zh hal
   have HA:Hid (F=some ⟨fb,fo,none⟩):=zh eF
   subst eF
   generalize hfk:fs[k]=f at *
   obtain ⟨nm,tx⟩:=f
   have x0:base≤100000:=by omega
   obtain ⟨hn1,hn2⟩:=hok
   simp only at hn1 hn2 cn ct hwl
   have Hpl:=zh hpl
   have HFK:=zh hfk
   clear hal hR hdr hpl hfk
   gi_wp2_with fail
   have hbox:=Blk.new wr 99 #[.string nm,.string tx]
   have hbW:Below wr.heap.size wr (wr.alloc (.cells #[.string nm,.string tx] 99)):=(Below.refl _ _).alloc (zG _) _
   generalize hw1:wr.alloc (.cells #[.string nm,.string tx] 99)=w1 at *
   have hJ1:Hid (J pre w1):=zh (HJs.out pre wr w1 HR.out.j hbW)
   have Q1:Hid (Blk w1 tb 33 #[.int .i64 t,.slice (some ⟨fb,fo,none⟩) fn fc]∧Reads w1 n₀ 2 (some ⟨fb,fo,none⟩) fn (fldC fs)∧n₀≤w1.heap.size):=zh ⟨HR.out.bx.below hbW HR.out.bx.lt,HR.out.rd.keep (fun b o hb=>hbW.cell (p:=⟨b,o,none⟩) (Nat.lt_of_lt_of_le hb HR.out.n0)),Nat.le_trans HR.out.n0 hbW.size⟩
   obtain ⟨fn',tmps,assign,body,hy,hRd⟩:=HY.out pre ⟨(base,(nm,tx)),x0,hn1,hn2⟩ w1 hJ1.out Hpl.out
   dsimp only at hy
   have b0:=hbox.cell 0
   have b1:=hbox.cell 1
   simp only [zA,zB,zC] at b0 b1
   have HB:=zh hbox
   have HBW:=zh hbW
   clear hbox hbW cn ct hJ1
   rw [hy]
   gi_wp2
   refine hRd.mono ?_
   rintro e W3 (⟨rfl,hJ3,hk3⟩ | ⟨rfl,hJx3⟩)
   ·have hbx:Blk W3 tb 33 #[.int .i64 t,.slice (some ⟨fb,fo,none⟩) fn fc]:=hk3.2 _ _ _ _ (.inl rfl) Q1.out.1
    have hbf:Blk W3 wr.heap.size 99 #[.string nm,.string tx]:=hk3.2 _ _ _ _ (.inr rfl) HB.out
    have hrd3:Reads W3 n₀ 2 (some ⟨fb,fo,none⟩) fn (fldC fs):=Q1.out.2.1.keep (fun b o hb=>hk3.1.cell (p:=⟨b,o,none⟩) hb)
    have hn3:n₀≤W3.heap.size:=Nat.le_trans Q1.out.2.2 hk3.1.size
    have d1:=hbf.cell 1
    simp only [zA,zB,zC] at d1
    have c1:=tokens_any tx W3 (by omega)
    have C1:=zh c1
    have Hn:Hid (∀ W4,Below W3.heap.size W3 W4→BasedIn t (some ⟨fb,fo,none⟩) fn fc n₀ tb fs J W4 (k+1) (base+(64+(words tx.data.toList).length)) (pre ++ [⟨(base,(nm,tx)),x0,hn1,hn2⟩])):=zh (fun W4 hb4=>⟨by omega,by
      have:=Hal.out
      rw [← this]
      simp [basedL,List.map_append],by omega,HJs.out _ _ _ hJ3 hb4,hbx.below hb4 hbx.lt,hrd3.keep (fun b o hb=>hb4.cell (p:=⟨b,o,none⟩) (Nat.lt_of_lt_of_le hb hn3)),Nat.le_trans hn3 hb4.size⟩)
    clear hJ3 hk3 hy hbx hbf hrd3 hn3 c1 Hal HR HJs HFK
    gi_wp2_with fail
    refine ⟨trivial,(callsIn_wide.2 C1.out).mono ?_⟩
    rintro e W4 ⟨v,rfl,hown,hb4⟩
    obtain ⟨A4,c4,rfl,_⟩:=own_shape hown
    have Nx:=zh (Hn.out W4 hb4)
    have hx1:base≤100000:=x0
    have hx2:(words tx.data.toList).length≤4096:=by omega
    clear Hn hown hb4 C1
    gi_wp2
    go_roundw
    case rel=>exact ⟨k+1,base+(64+(words tx.data.toList).length),pre ++ [⟨(base,(nm,tx)),x0,hn1,hn2⟩],by go_num,by go_num,Nx.out⟩
    case measure=>simp [intOf]; omega
   ·have hpx:(pre ++ [⟨(base,(nm,tx)),x0,hn1,hn2⟩]:List Xf).map (·.1) <+: basedL 0 fs:=⟨basedL (base+(64+(words tx.data.toList).length)) (fs.drop (k+1)),by
     have:=Hal.out
     rw [← this]
     simp [basedL,List.map_append]⟩
    have Hpx:=zh hpx
    have Hjx:=zh hJx3
    clear hpx hJx3 hy
    gi_wp2
    refine bodyPost_ret (results_none rfl _ _ _) rfl ?_
    exact ⟨⟨_,rfl⟩,.inr ⟨_,Hpx.out,Hjx.out⟩⟩
  ·have hke:k=fs.length:=by omega
   have hal:=hR.all
   rw [hke,List.drop_length] at hal
   have Hal:Hid (pre.map (·.1)=basedL 0 fs):=zh (by simpa [basedL] using hal)
   have Hjr:=zh hR.j
   have hk2:¬ (k:Int)<(fn:Int):=by omega
   clear hal hR hke
   gi_wp2
   go_end0
   exact ⟨⟨_,rfl⟩,.inl ⟨pre,Hal.out,Hjr.out⟩⟩
end Go.Proofs.YtlfpfkallgkjdaaGreat.Ev
end
