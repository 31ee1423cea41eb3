/- loggialaw32.step, whatever the call. -/
import Derived.Test.YtlfpfkallgkjdaaGreatQAlertBatchesRow43
import Derived.Test.YtlfpfkallgkjdaaGreatQAlertBatchesRow44
import Derived.Test.YtlfpfkallgkjdaaGreatQAlertBatchesRow42
import Derived.Test.YtlfpfkallgkjdaaGreatQAlertBatchesRow21
import Derived.Test.YtlfpfkallgkjdaaGreatQAlertBatchesRow28
import Derived.Test.YtlfpfkallgkjdaaGreatQAlertBatchesRow3
import Derived.Test.YtlfpfkallgkjdaaGreatQAlertBatchesRow0
import Derived.Test.YtlfpfkallgkjdaaGreatQAlertBatchesRow1
set_option linter.unusedSimpArgs false
set_option linter.unusedVariables false
set_option maxRecDepth 40000
section
namespace Go.Proofs.YtlfpfkallgkjdaaGreat.Al
open Go.RowKit Go.Maps Ut Tk Qy Qp Ev Mv
theorem step_any {n0:Nat} {w:World} {Bb K:Nat} {l:List (Int × Kp)} (o:Opr) (I:Option Addr) (m mc:Nat) (hS:St n0 w Bb K l) (hn0:n0≤w.heap.size) (hK:K≤100000) (hO:OpV w o I m mc) :
  Calls Tryz.prog 24 #[.pointer (some ⟨Bb,0,none⟩),.agg #[.int .u8 o.d,.int .i64 o.id,.string o.s,.slice I m mc]] w (StepP n0 w Bb K l o):=by
 by_cases h3:o.d % 5=3
 ·exact step_drop o I m mc hS hn0 hK hO h3
 ·by_cases h4:o.d % 5=4
  ·exact step_fork o I m mc hS hn0 hK hO h4
  ·exact step_put o I m mc hS hn0 hK hO h3 h4
end Go.Proofs.YtlfpfkallgkjdaaGreat.Al
end

section
namespace Go.Proofs.YtlfpfkallgkjdaaGreat.Al
open Go.RowKit Go.Maps Ut Tk Qy Qp Ev Mv
theorem StepR.len {l l':List (Int × Kp)} {o:Opr} (h:StepR l o l') (hu:UpI l):l'.length≤l.length+1:=by
 cases h with
 | drop h=>have:=(dropsL_few (cutI o.ids) l hu).1; omega
 | fork h=>omega
 | put h3 h4 hp =>
  cases hp with
  | arg h=>omega
  | bad h hp=>omega
  | many h hp hg hm=>omega
  | ok h hp hm=>rw [put_len hu]; split <;> omega
def BehP (w:World) (e:Ending) (w':World):Prop:=∃ Bb K l,e=.returned (.tuple #[.pointer (some ⟨Bb,0,none⟩),.bool true])∧K≤40000∧l.length≤30∧St w.heap.size w' Bb K l∧Below w.heap.size w w'
set_option maxHeartbeats 12800000 in
theorem behind_any (A:Option Addr) (n c:Nat) (L:List Opr) (w:World) (hO:OpsAt w A n c L) :
  Calls Tryz.prog 15 #[.slice A n c] w (BehP w):=by
 have hlen:=hO.ln
 have hfew:=hO.few
 have hcap:=hO.cap
 have HO:=zh hO
 have CN:=zh (new_n w)
 clear hO
 go_enter Tryz.func15,Tryz.ntmps15
 go_wp2_with fail
 refine CN.out.mono ?_
 rintro e w1 ⟨X,rfl,hX1,hb1,hXn⟩
 have hs1:=hb1.size
 have hb2:Below w1.heap.size w1 (w1.alloc (.cells #[.pointer (some ⟨X,0,none⟩),.slice none 0 0] 43)):=(Below.refl _ _).alloc (zG _) _
 have hS:St w.heap.size (w1.alloc (.cells #[.pointer (some ⟨X,0,none⟩),.slice none 0 0] 43)) w1.heap.size 0 []:=⟨⟨X,none,0,0,[],Blk.new w1 _ _,hX1.new_below hb2,RAt.nil _,rfl⟩,by simp,by omega⟩
 have HS:=zh hS
 have HB:=zh (hb1.trans (hb2.mono hs1))
 clear hS hX1 hb1 hb2 CN
 go_wp2_with fail
 go_loopw [5] (fun i wr=>∃ (k:Nat) (l:List (Int × Kp)),k≤n∧k≤30∧l.length≤k∧i=.int .i64 k∧Hid (St w.heap.size wr w1.heap.size (1001 * k) l)∧Hid (Below w.heap.size w wr)) (fun i _=>n - (intOf i).toNat)
 case atStart=>exact ⟨0,[],Nat.zero_le _,by omega,zG _,rfl,HS,HB⟩
 case round =>
  obtain ⟨k,l,hk,hk30,hlk,rfl,hS,hB⟩:=hrel
  have hsB:=hB.out.size
  by_cases hlt:k<n∧k<30
  ·obtain ⟨hkn,hk3⟩:=hlt
   have hk1:(k:Int)<(n:Int):=by omega
   have hk2:(k:Int)<30:=by omega
   have hkl:k<L.length:=by omega
   obtain ⟨b,o,I,m,mc,rfl,hbl,y0,y1,y2,y3,hop⟩:=(HO.out.below hB.out).at_ hkl
   obtain ⟨X1,A1,n1,c1,O1,g1,g2,g3,g4⟩:=hS.out.ex
   have x0:=g1.cell 0
   simp only [zA,zB] at x0
   have hup:=g2.up
   have CS:=zh (step_any L[k] I m mc hS.out hsB (by omega) hop)
   clear g1 g2 g3 g4 hop
   generalize L[k]=op at *
   go_wp2_with fail
   refine CS.out.mono ?_
   rintro e w2 ⟨l2,hst,rfl,hS2,hb2⟩
   have HS5:Hid (St w.heap.size w2 w1.heap.size (1001 * (k+1)) l2):=zh (hS2.more (by omega))
   have HB5:Hid (Below w.heap.size w w2):=zh (hB.out.trans hb2)
   have hl2:=hst.len hup
   clear hst hS2 hb2 CS y0 y1 y2 y3
   go_wp2_with fail
   go_roundw
   case rel=>exact ⟨k+1,l2,by omega,by omega,by omega,by go_num,HS5,HB5⟩
   case measure=>simp [intOf]; omega
  ·obtain ⟨X1,A1,n1,c1,O1,g1,g2,g3,g4⟩:=hS.out.ex
   have x0:=g1.cell 0
   simp only [zA,zB] at x0
   clear g1 g2 g3 g4
   by_cases hkn:k<n
   ·have hk1:(k:Int)<(n:Int):=by omega
    have hk2:¬ (k:Int)<30:=by omega
    go_wp2_with fail
    go_quiet (fail)
    have HS6:=zh (hS.out.below (Mx.below_dN (Below.refl wr.heap.size wr) nq))
    have HB6:=zh (Mx.below_dN hB.out nq)
    go_wp2
    go_ret2
    exact ⟨_,1001 * k,l,rfl,by omega,by omega,HS6.out,HB6.out⟩
   ·have hk1:¬ (k:Int)<(n:Int):=by omega
    go_wp2_with fail
    go_quiet (fail)
    have HS6:=zh (hS.out.below (Mx.below_dN (Below.refl wr.heap.size wr) nq))
    have HB6:=zh (Mx.below_dN hB.out nq)
    go_wp2
    go_ret2
    exact ⟨_,1001 * k,l,rfl,by omega,by omega,HS6.out,HB6.out⟩
end Go.Proofs.YtlfpfkallgkjdaaGreat.Al
end

section
namespace Go.Proofs.YtlfpfkallgkjdaaGreat.Al
open Go.RowKit Go.Maps Ut Tk Qy Qp Ev Mv
section
variable {n0:Nat} {w w':World} {X K:Nat} {l:List (Int × Kp)}
def AskV (fs:List Fl) (l:List (Int × Kp)):List Int:=if chkE fs=0 then (l.filter (fun x=>matchB fs x.2.q)).map (·.1) else []
theorem ask_n (h:AlN n0 w X K l) (hll:l.length≤1000) (t:Int) (F:Option Addr) (fn fc:Nat) (fs:List Fl) (hF:FlAt w w.heap.size F fn fc fs) :
  Calls Tryz.prog 17 #[.pointer (some ⟨X,0,none⟩),.agg #[.int .i64 t,.slice F fn fc]] w (NumsP w (AskV fs l)):=by
 obtain ⟨cn,M1,M2,F1,F2,h1,h2,h3⟩:=h.ex
 exact ask_any t F fn fc fs hF h2 hll
theorem ask_few (fs:List Fl) (h:l.length≤1000):(AskV fs l).length≤1000:=by
 unfold AskV
 split
 ·rw [List.length_map]; exact Nat.le_trans (List.length_filter_le _ _) h
 ·simp
theorem nums_rows {wx:World} {L:List Int} {v:Value} (h:w'.ownsRow w.heap.size 3 1 v L.length (itv L)) (hb:Below w'.heap.size w' wx):∃ A c,v=.slice A L.length c∧Reads wx wx.heap.size 1 A L.length (itv L):=by
 obtain ⟨A,c,rfl,hR,hc,hn,_⟩:=Ev.own_shape2 h
 exact ⟨A,c,rfl,(hR.keep fun _ _ hp=>hb.cell hp).more hb.size⟩
end
end Go.Proofs.YtlfpfkallgkjdaaGreat.Al
end

section
namespace Go.Proofs.YtlfpfkallgkjdaaGreat.Al
open Go.RowKit Go.Maps Ut Tk Qy Qp Ev Mv
def htv (L:List (Int × Int)):List Value:=L.flatMap (fun x=>[.int .i64 x.1,.int .i64 x.2])
theorem htv_snoc (L:List (Int × Int)) (a b:Int):htv (L ++ [(a,b)])=htv L ++ [.int .i64 a,.int .i64 b]:=by simp [htv]
def hitsD (f:List Fl→List Int) (ds:List Dc):List (Int × Int):=ds.flatMap (fun d=>(f d.fs).map (fun i=>(i,d.seq)))
theorem hitsD_snoc (f:List Fl→List Int) (ds:List Dc) (d:Dc):hitsD f (ds ++ [d])=hitsD f ds ++ (f d.fs).map (fun i=>(i,d.seq)):=by simp [hitsD]
theorem hitsD_few (f:List Fl→List Int) (hf:∀ fs,(f fs).length≤1000):∀ ds:List Dc,(hitsD f ds).length≤ds.length * 1000:=fun ds=>by
 induction ds with
 | nil=>simp [hitsD]
 | cons d ds ih=>have:=hf d.fs; simp [hitsD] at ih ⊢; omega
def HitsP (T:TypeId) (w:World) (c:Int) (L:List (Int × Int)) (e:Ending) (w':World):Prop:=∃ v,e=.returned (.tuple #[v,.int .i64 c])∧w'.ownsRow w.heap.size T 2 v L.length (htv L)∧Below w.heap.size w w'
theorem map_snoc (N:List Int) (s:Int) (m:Nat) (h:m<N.length):(N.take (m+1)).map (fun i=>(i,s))=(N.take m).map (fun i=>(i,s)) ++ [(N[m],s)]:=by
 rw [List.take_succ_eq_append_getElem h,List.map_append]; rfl
theorem hit_info:(Tryz.prog.info? 80).map (fun i=>(i.zero,i.size,i.bytes))=some (some (.agg #[.int .i64 0,.int .i64 0]),2,16):=by kernel_rfl
set_option maxHeartbeats 12800000 in
theorem batch_n {n0:Nat} {w:World} {X K:Nat} {l:List (Int × Kp)} (h:AlN n0 w X K l) (hll:l.length≤1000) (seq:Int) (A:Option Addr) (n c:Nat) (E:List Evn) (hE:EvsAt w w.heap.size A n c E) :
  Calls Tryz.prog 30 #[.pointer (some ⟨X,0,none⟩),.agg #[.int .i64 seq,.slice A n c]] w (HitsP 80 w (chkB seq E) (if chkB seq E=0 then hitsD (fun fs=>AskV fs l) (mkD seq E) else [])):=by
 obtain ⟨i0,hi0,hz0,hz1,hz2⟩:=info_parts hit_info
 have hb1:Below w.heap.size w (w.alloc (.cells #[.int .i64 seq,.slice A n c] 69)):=(Below.refl _ _).alloc (zG _) _
 have HX1:=zh (Blk.new w 69 #[.int .i64 seq,.slice A n c])
 have HA:=zh h
 have HE:=zh hE
 have HB1:=zh hb1
 have HF:Hid (∀ fs,(AskV fs l).length≤1000):=zh (fun fs=>ask_few fs hll)
 obtain ⟨RR,hRR⟩:∃ RR,(if chkB seq E=0 then hitsD (fun fs=>AskV fs l) (mkD seq E) else [])=RR:=⟨_,rfl⟩
 rw [hRR]
 have HRR:=zh hRR
 obtain ⟨cc,hcc⟩:∃ cc,chkB seq E=cc:=⟨_,rfl⟩
 have CK:Hid (∀ wx,Below w.heap.size w wx→Calls Tryz.prog 57 #[.agg #[.int .i64 seq,.slice A n c]] wx fun e w'=>e=.returned (.int .i64 cc)∧Below wx.heap.size wx w'):=zh (fun wx hb=>by rw [← hcc]; exact checkBatch_any seq A n c E wx (HE.out.grow hb))
 rw [hcc]
 have HCC:=zh hcc
 clear hb1 h hE hRR hcc
 go_enter Tryz.func30,Tryz.ntmps30
 go_upto_region 1 with (fail)
 generalize w.alloc (.cells #[.int .i64 seq,.slice A n c] 69)=w1 at *
 obtain ⟨cn,M1,M2,F1,F2,q1,q2,q3⟩:=(HA.out.new_below HB1.out).ex
 have x0:=q2.blk.cell 0
 simp only [zA,zB,zC] at x0
 have CN:=zh (none_no x0)
 have CC:=zh (CK.out w1 HB1.out)
 have e0:=HX1.out.cell 0
 have e1:=HX1.out.cell 1
 simp only [zA,zB,zC] at e0 e1
 clear q1 q2 q3 x0
 go_wp2_with fail
 refine CN.out.mono ?_
 rintro e w2 ⟨rfl,rfl⟩
 go_wp2_with fail
 refine CC.out.mono ?_
 rintro e w2 ⟨rfl,hb2⟩
 have HB2:=zh (HB1.out.trans (hb2.mono HB1.out.size))
 have HX2:=zh (HX1.out.below hb2 HX1.out.lt)
 clear hb2 CC CN CK e0 e1
 by_cases hc0:cc=0
 ·subst hc0
  have CD:=zh (docs_any seq A n c E w2 (HE.out.grow HB2.out) HCC.out)
  have hn64:E.length≤64:=(chkB_ok HCC.out).2.1
  have e0:=HX2.out.cell 0
  have e1:=HX2.out.cell 1
  simp only [zA,zB,zC] at e0 e1
  have HRD:Hid (RR=hitsD (fun fs=>AskV fs l) (mkD seq E)):=zh (by rw [← HRR.out,if_pos HCC.out])
  have hdl:(mkD seq E).length≤64:=by rw [mkD_len]; exact hn64
  go_wp2_with fail
  refine CD.out.mono ?_
  rintro e w3 ⟨v3,rfl,hD,hb3⟩
  obtain ⟨A3,c3,rfl,hR3,hc3,_⟩:=hD.read
  have HB3:=zh (HB2.out.trans (hb3.mono HB2.out.size))
  have HR3:=zh hR3
  have HSZ:Hid (∀ d∈mkD seq E,∀ f∈d.fs,f.1.size≤140737488351232∧f.2.size≤140737488351232):=zh (fun d hd f hf=>by
   obtain ⟨i,hi,rfl⟩:=List.mem_iff_getElem.1 hd
   have hi':i<E.length:=by simpa [mkD_len] using hi
   simp only [mkD,List.getElem_mapIdx] at hf
   obtain ⟨_,_,_,_,_,_,_,_,_,g⟩:=HE.out.at_ hi'
   exact g.sz f hf)
  clear hD hR3 hb3 CD e0 e1 HX1 HX2
  generalize mkD seq E=ds at *
  obtain ⟨f,hf⟩:∃ f:List Fl→List Int,(fun fs=>AskV fs l)=f:=⟨_,rfl⟩
  have HFE:Hid (∀ fs,AskV fs l=f fs):=zh (fun fs=>congrFun hf fs)
  rw [hf] at HRD
  clear hf
  go_wp2_with fail
  go_loopw [7,22] (fun v i wr=>∃ (u:Value) (k:Nat) (L:List (Int × Int)),u=v∧k≤ds.length∧i=.int .i64 k∧L.length≤k * 1000∧Hid (L=hitsD f (ds.take k))∧Hid (wr.ownsRow w3.heap.size 80 2 u L.length (htv L))∧Hid (Below w3.heap.size w3 wr)) (fun _ i _=>ds.length - (intOf i).toNat)
  case atStart=>exact ⟨_,0,[],rfl,Nat.zero_le _,rfl,zG _,zh rfl,zh (World.ownsRow_nil _ _ _ _),zh (Below.refl _ _)⟩
  case round =>
   obtain ⟨u,k,L,rfl,hk,rfl,hLk,hLe,hO,hB⟩:=hrel
   have hsw:=hB.out.size
   have hs3:=HB3.out.size
   have HBW:=zh (HB3.out.trans (hB.out.mono hs3))
   by_cases hlt:k<ds.length
   ·have hki:(k:Int)<(ds.length:Int):=by omega
    have hki0:(0:Int)≤(k:Int):=by omega
    obtain ⟨b,o,F,fn,fc,rfl,hbb,a0,a1,a2,g1,g2,g3,g4,g5⟩:=HR3.out.at_ hlt
    have t0:=(hB.out.cell (p:=⟨b,o+k * 3,none⟩) hbb.2).trans a0
    have t1:=(hB.out.cell (p:=⟨b,o+k * 3+1,none⟩) hbb.2).trans a1
    have t2:=(hB.out.cell (p:=⟨b,o+k * 3+2,none⟩) hbb.2).trans a2
    have hfl:FlAt w3 w3.heap.size F fn fc ds[k].fs:=⟨g1.mono (fun b hb=>hb.2.lt),g2,g3,g4,HSZ.out _ (List.getElem_mem hlt),g5⟩
    have hbd:Below wr.heap.size wr (wr.alloc (.cells #[.int .i64 ds[k].seq,.int .i64 ds[k].at_,.slice F fn fc] 132)):=(Below.refl _ _).alloc (zG _) _
    have HBD:=zh hbd
    have HXD:=zh (Blk.new wr 132 #[.int .i64 ds[k].seq,.int .i64 ds[k].at_,.slice F fn fc])
    have CA:=zh (ask_n ((HA.out.new_below HBW.out).new_below hbd) hll ds[k].at_ F fn fc ds[k].fs (flgrow hfl (hB.out.trans (hbd.mono hsw))))
    rw [HFE.out] at CA
    have hN:=HF.out ds[k].fs
    rw [HFE.out] at hN
    have HTS:Hid (hitsD f (ds.take (k+1))=L ++ (f ds[k].fs).map (fun i=>(i,ds[k].seq))):=zh (by rw [List.take_succ_eq_append_getElem hlt,hitsD_snoc,hLe.out])
    clear g1 g2 g3 g4 g5 a0 a1 a2 hfl hbd hbb
    generalize f ds[k].fs=N at *
    generalize ds[k].seq=sq at *
    generalize ds[k].at_=ta at *
    obtain ⟨wo,rfl⟩:∃ wo:World,wo=wr:=⟨_,rfl⟩
    go_wp2_with fail
    refine CA.out.mono ?_
    rintro e w5 ⟨v5,rfl,ho5,hb5⟩
    obtain ⟨A5,c5,rfl,_⟩:=nums_rows ho5 (Below.refl _ w5)
    have HO5:=zh ho5
    have HOL:=zh ((hO.out.kept (grow_of_below HBD.out none) (by cases hv:u.ownBlock <;> simp)).kept (grow_of_below hb5 none) (by cases hv:u.ownBlock <;> simp))
    have HXD5:=zh (HXD.out.below hb5 HXD.out.lt)
    have HB5:=zh (hB.out.trans ((HBD.out.trans (hb5.mono HBD.out.size)).mono hsw))
    clear ho5 hb5 CA hO hB HXD HBD t0 t1 t2
    go_wp2_with fail
    go_loopw [7,31] (fun v j wr=>∃ (u:Value) (m:Nat) (L2:List (Int × Int)),u=v∧m≤N.length∧j=.int .i64 m∧Hid (L2.length=L.length+m)∧Hid (L2=L ++ (N.take m).map (fun i=>(i,sq)))∧Hid (wr.ownsRow w3.heap.size 80 2 u L2.length (htv L2))∧Hid (Below w3.heap.size w3 wr)∧Hid (∃ B5,wr.ownsRow B5 3 1 (.slice A5 N.length c5) N.length (itv N))∧Hid (Blk wr wo.heap.size 132 #[.int .i64 sq,.int .i64 ta,.slice F fn fc])) (fun _ j _=>N.length - (intOf j).toNat)
    case atStart=>exact ⟨_,0,L,rfl,Nat.zero_le _,rfl,zh rfl,zh (by simp),HOL,HB5,zh ⟨_,HO5.out⟩,HXD5⟩
    case round =>
     clear HOL HB5 HO5 HXD5
     obtain ⟨u,m,L2,rfl,hm,rfl,hL2,hL2e,hO,hB,hO5,hX⟩:=hrel
     by_cases hml:m<N.length
     ·have hmi:(m:Int)<(N.length:Int):=by omega
      have hmi0:(0:Int)≤(m:Int):=by omega
      have hL2b:L2.length≤65000:=by have:=hL2.out; omega
      obtain ⟨B5,h5⟩:=hO5.out
      obtain ⟨A6,c6,e6,hR6,hc6,hn6,_⟩:=Ev.own_shape2 h5
      injection e6 with ea6 _ ec6
      subst ea6 ec6
      obtain ⟨nb,no,rfl,hnb,hnc⟩:=hR6.2 (by omega)
      have y0:=hnc m _ (itv_get N m hml)
      have z0:=hX.out.cell 0
      simp only [zA,zB,zC] at z0
      have HST:Hid (L2 ++ [(N[m],sq)]=L ++ (N.take (m+1)).map (fun i=>(i,sq))):=zh (by rw [map_snoc N sq m hml,hL2e.out,List.append_assoc])
      have HIT:Hid (htv (L2 ++ [(N[m],sq)])=htv L2 ++ [.int .i64 N[m],.int .i64 sq]∧(L2 ++ [(N[m],sq)]).length=L2.length+1):=zh ⟨htv_snoc _ _ _,by simp⟩
      have H5:=zh h5
      have hxl:=hX.out.lt
      clear hR6 hc6 hn6 hnc h5 hO5 hL2e
      generalize N[m]=x at *
      generalize hzl:htv L2=zs at *
      clear hzl
      go_wp2_with (first
       | (at_builtin; refine wpList_append_own_at _ rfl _ _ 73 rfl w3.heap.size 80 i0 _ 2 16 Tryz.underlying73 hi0 hz0 hz1 hz2 rfl (by decide) _ L2.length zs rfl (hO.out.alloc _) ⟨wr.heap.size,0,none⟩ 1 1 [.int .i64 x,.int .i64 sq] rfl rfl (World.news_of_block (cs:=#[.int .i64 x,.int .i64 sq]) (t:=80) (fr:=(0,0)) (heap_alloc_new wr _)) (by simp [Value.oneCell']) ?k1 ?k2 ?k3 ?_)
       | fail)
      case k1=>unfold maxLen; omega
      case k2=>omega
      try (case k3=>first | omega | (rw [World.size_alloc]; omega))
      intro v4 w6 ho4 hg4 _ _
      have HO6:Hid (w6.ownsRow w3.heap.size 80 2 v4 (L2 ++ [(x,sq)]).length (htv (L2 ++ [(x,sq)]))):=zh (by rw [HIT.out.1,HIT.out.2]; exact ho4)
      have HB6:=zh ((hB.out.alloc hB.out.size (.cells #[.int .i64 x,.int .i64 sq] 80)).grown hg4 (by rw [World.size_alloc]; have:=hB.out.size; omega) (fun j hj=>(hO.out.lt j hj).1))
      have H56:=zh (own_apart (H5.out.alloc (.cells #[.int .i64 x,.int .i64 sq] 80)) (hO.out.alloc (.cells #[.int .i64 x,.int .i64 sq] 80)) (by decide) hg4)
      have HX6:=zh ((hX.out.alloc (.cells #[.int .i64 x,.int .i64 sq] 80)).grown hg4 (fun e=>absurd ((tg_own hO.out e.symm).one ⟨_,_,hX.out⟩) (by decide)))
      have hl1:=HIT.out.2
      clear ho4 hg4 y0 z0
      go_wp2_with fail
      go_roundw
      case rel=>exact ⟨_,m+1,L2 ++ [(x,sq)],rfl,by omega,by go_num,zh (by have:=hL2.out; omega),HST,HO6,HB6,zh ⟨_,H56.out⟩,HX6⟩
      case measure=>simp [intOf]; omega
     ·obtain rfl:m=N.length:=by omega
      have hmz:¬ (N.length:Int)<(N.length:Int):=by omega
      have hL2b:L2.length≤(k+1) * 1000:=by have:=hL2.out; omega
      have HLE:Hid (L2=hitsD f (ds.take (k+1))):=zh (by rw [HTS.out,hL2e.out,List.take_length])
      go_wp2_with fail
      go_roundw
      case rel=>exact ⟨_,k+1,L2,rfl,by omega,by go_num,by omega,HLE,hO,hB⟩
      case measure=>simp [intOf]; omega
   ·obtain rfl:k=ds.length:=by omega
    have hkz:¬ (ds.length:Int)<(ds.length:Int):=by omega
    have FIN:Hid (wr.ownsRow w.heap.size 80 2 u RR.length (htv RR)):=zh (by
     have:=hO.out
     rw [hLe.out,List.take_length,← HRD.out] at this
     exact own_mono this hs3)
    go_wp2
    go_ret2
    exact ⟨_,rfl,FIN.out,HBW.out⟩
 ·have hcb:(cc == 0)=false:=beq_eq_false_iff_ne.2 hc0
  have hrr:RR=[]:=by rw [← HRR.out,HCC.out,if_neg hc0]
  subst hrr
  go_wp2
  go_ret2
  exact ⟨_,rfl,World.ownsRow_nil _ _ _ _,HB2.out⟩
end Go.Proofs.YtlfpfkallgkjdaaGreat.Al
end

section
namespace Go.Proofs.YtlfpfkallgkjdaaGreat.Al
open Go.RowKit Go.Maps Ut Tk Qy Qp Ev Mv
theorem rhit_info:(Tryz.prog.info? 81).map (fun i=>(i.zero,i.size,i.bytes))=some (some (.agg #[.int .i64 0,.int .i64 0]),2,16):=by kernel_rfl
set_option maxHeartbeats 12800000 in
theorem rbatch_any (A:Option Addr) (n c:Nat) (O:List Rk) (l:List (Int × Kp)) (seq:Int) (EA:Option Addr) (en ec:Nat) (E:List Evn) (w:World) (h:RAt w A n c O) (hl:RIs O l) (hok:∀ x∈l,KOk x.2) (hn:n≤1000) (hE:EvsAt w w.heap.size EA en ec E) :
  Calls Tryz.prog 31 #[.agg #[.slice A n c],.agg #[.int .i64 seq,.slice EA en ec]] w (HitsP 81 w (chkB seq E) (if chkB seq E=0 then hitsD (fun fs=>AskV fs l) (mkD seq E) else [])):=by
 obtain ⟨i0,hi0,hz0,hz1,hz2⟩:=info_parts rhit_info
 have hb1:Below w.heap.size w (w.alloc (.cells #[.slice A n c] 41)):=(Below.refl _ _).alloc (zG _) _
 have hb2:Below (w.alloc (.cells #[.slice A n c] 41)).heap.size (w.alloc (.cells #[.slice A n c] 41)) ((w.alloc (.cells #[.slice A n c] 41)).alloc (.cells #[.int .i64 seq,.slice EA en ec] 69)):=(Below.refl _ _).alloc (zG _) _
 have hx1:=(Blk.new w 41 #[.slice A n c]).below hb2 (by simp)
 have hx2:=Blk.new (w.alloc (.cells #[.slice A n c] 41)) 69 #[.int .i64 seq,.slice EA en ec]
 have hsz:(w.alloc (.cells #[.slice A n c] 41)).heap.size=w.heap.size+1:=by simp
 rw [hsz] at hx2
 have HX:=zh hx1
 have HY:=zh hx2
 have HB1:=zh (hb1.trans (hb2.mono (by omega)))
 have HR:=zh h
 have HI:=zh hl
 have HOK:=zh hok
 have HE:=zh hE
 have hlm:l.length=n:=by rw [← h.ln,← hl.len]
 have hel:=hE.ln
 have HF:Hid (∀ fs,(AskV fs l).length≤1000):=zh (fun fs=>ask_few fs (by omega))
 obtain ⟨RR,hRR⟩:∃ RR,(if chkB seq E=0 then hitsD (fun fs=>AskV fs l) (mkD seq E) else [])=RR:=⟨_,rfl⟩
 rw [hRR]
 have HRR:=zh hRR
 obtain ⟨cc,hcc⟩:∃ cc,chkB seq E=cc:=⟨_,rfl⟩
 have CK:Hid (∀ wx,Below w.heap.size w wx→Calls Tryz.prog 59 #[.agg #[.int .i64 seq,.slice EA en ec]] wx fun e w'=>e=.returned (.int .i64 cc)∧Below wx.heap.size wx w'):=zh (fun wx hb=>by rw [← hcc]; exact rcheckBatch_any seq EA en ec E wx (HE.out.grow hb))
 rw [hcc]
 have HCC:=zh hcc
 clear hb1 hb2 h hl hok hE hRR hcc hx1 hx2 hsz
 go_enter Tryz.func31,Tryz.ntmps31
 go_upto_region 1 with (fail)
 generalize ((w.alloc (.cells #[.slice A n c] 41)).alloc (.cells #[.int .i64 seq,.slice EA en ec] 69))=w1 at *
 have CC:=zh (CK.out w1 HB1.out)
 have e0:=HY.out.cell 0
 have e1:=HY.out.cell 1
 simp only [zA,zB,zC] at e0 e1
 go_wp2_with fail
 refine CC.out.mono ?_
 rintro e w2 ⟨rfl,hb2⟩
 have HB2:=zh (HB1.out.trans (hb2.mono HB1.out.size))
 have HX2:=zh (HX.out.below hb2 HX.out.lt)
 have HY2:=zh (HY.out.below hb2 HY.out.lt)
 clear hb2 CC CK e0 e1 HX HY
 by_cases hc0:cc=0
 ·subst hc0
  have hok':=chkB_ok HCC.out
  have hn64:en≤64:=by have:=hok'.2.1; omega
  have hs1 : 1≤seq:=hok'.2.2.2.2.1
  have hs2:seq≤1099511627777:=by have:=hok'.2.2.2.2.2; omega
  have HRD:Hid (RR=hitsD (fun fs=>AskV fs l) (mkD seq E)):=zh (by rw [← HRR.out,if_pos HCC.out])
  clear hok' HRR
  obtain ⟨f,hf⟩:∃ f:List Fl→List Int,(fun fs=>AskV fs l)=f:=⟨_,rfl⟩
  have HFE:Hid (∀ fs,AskV fs l=f fs):=zh (fun fs=>congrFun hf fs)
  rw [hf] at HRD
  clear hf
  go_wp2_with fail
  go_loopw [7,8] (fun v i wr=>∃ (u:Value) (k:Nat) (L:List (Int × Int)),u=v∧k≤en∧i=.int .i64 k∧L.length≤k * 1000∧Hid (L=hitsD f (mkD seq (E.take k)))∧Hid (wr.ownsRow w2.heap.size 81 2 u L.length (htv L))∧Hid (Below w2.heap.size w2 wr)) (fun _ i _=>en - (intOf i).toNat)
  case atStart=>exact ⟨_,0,[],rfl,Nat.zero_le _,rfl,zG _,zh rfl,zh (World.ownsRow_nil _ _ _ _),zh (Below.refl _ _)⟩
  case round =>
   obtain ⟨u,k,L,rfl,hk,rfl,hLk,hLe,hO,hB⟩:=hrel
   have hsw:=hB.out.size
   have hs2w:=HB2.out.size
   have HBW:=zh (HB2.out.trans (hB.out.mono hs2w))
   have HXr:=zh (HX2.out.below hB.out HX2.out.lt)
   have HYr:=zh (HY2.out.below hB.out HY2.out.lt)
   have e1:=HYr.out.cell 1
   simp only [zA,zB,zC] at e1
   by_cases hlt:k<en
   ·have hki:(k:Int)<(en:Int):=by omega
    have hki0:(0:Int)≤(k:Int):=by omega
    have hkl:k<E.length:=by omega
    obtain ⟨b,o,F,fn,fc,rfl,hbb,a0,a1,hfl⟩:=(HE.out.grow HBW.out).at_ hkl
    have CA:Hid (∀ wx,Below wr.heap.size wr wx→Calls Tryz.prog 20 #[.agg #[.slice A n c],.agg #[.int .i64 E[k].1,.slice F fn fc]] wx (NumsP wx (f E[k].2))):=zh (fun wx hb=>by
     rw [← HFE.out]
     exact rask_any A n c O l E[k].1 F fn fc E[k].2 wx (HR.out.below (HBW.out.trans (hb.mono HBW.out.size))) HI.out HOK.out hn (flgrow hfl hb))
    have Hc8:Hid (∀ wx,Below wr.heap.size wr wx→wx.cell? ⟨w.heap.size,0,none⟩=some (.slice A n c)∧wx.cell? ⟨w.heap.size+1,1,none⟩=some (.slice (some ⟨b,o,none⟩) en ec)∧wx.cell? ⟨b,o+k * 2,none⟩=some (.int .i64 E[k].1)∧wx.cell? ⟨b,o+k * 2+1,none⟩=some (.slice F fn fc)):=zh (fun wx hb=>by
     have r0:=(HXr.out.below hb HXr.out.lt).cell 0
     have r1:=(HYr.out.below hb HYr.out.lt).cell 1
     simp only [zA,zB,zC] at r0 r1
     exact ⟨r0,r1,(hb.cell (p:=⟨b,o+k * 2,none⟩) hbb).trans a0,(hb.cell (p:=⟨b,o+k * 2+1,none⟩) hbb).trans a1⟩)
    have hN:(f E[k].2).length≤1000:=by rw [← HFE.out]; exact HF.out _
    have hwr:IntKind.i64.wrap (seq+(k:Int))=seq+(k:Int):=by rw [IntKind.wrap_i64]; omega
    have HTS:Hid (hitsD f (mkD seq (E.take (k+1)))=L ++ (f E[k].2).map (fun i=>(i,seq+(k:Int)))):=zh (by rw [mkD_take seq E k hkl,hitsD_snoc,hLe.out])
    clear a0 a1 hfl
    generalize E[k].1=ta at *
    generalize f E[k].2=N at *
    generalize hsq:seq+(k:Int)=sq at *
    obtain ⟨wo,rfl⟩:∃ wo:World,wo=wr:=⟨_,rfl⟩
    go_upto_region 8 with (fail)
    refine wp_region_grow (specOf [(6,⟨Option Addr × Nat,fun x=>.slice x.1 N.length x.2,fun x wz=>∃ B5,wz.ownsRow B5 3 1 (.slice x.1 N.length x.2) N.length (itv N)⟩)]) (fun wx=>Below (World.heap wo).size wo wx) (fun w1 w2=>Below w1.heap.size w1 w2) (by kernel_rfl) (by kernel_rfl) (stab_cons (fun x wa wb hg h=>by obtain ⟨B5,h⟩:=h; exact ⟨B5,h.kept (grow_of_below hg none) (by cases hv:(Value.slice x.1 N.length x.2).ownBlock <;> simp)⟩) (stab_nil)) (Below.refl _ _).drew ?_
    iterate 6
     refine grow_fix _ ?_ rfl (by rfl) (by rfl) (fun wx hC hD=>?_) ?_
     rotate_left
     ·have hSw:=Hc8.out wx hC
      go_simp
      all_goals with_reducible rfl
     try simp only [Act.put,zD,zE,zF]
    refine grow_give 7 _ rfl (by rfl) (by rfl) (fun wx hC hD=>?_) (fun x=>?_)
    ·refine give_enter (f:=?_) (args:=?_) ?_ ?_
     rotate_left 2
     ·have hSw:=Hc8.out wx hC
      go_simp
      all_goals first | with_reducible rfl | (refine ⟨?_,?_⟩ <;> with_reducible rfl)
     refine (CA.out wx hC).mono ?_
     rintro e w9 ⟨v9,rfl,ho9,hb9⟩
     obtain ⟨A9,c9,rfl,_⟩:=nums_rows ho9 (Below.refl _ w9)
     exact ⟨_,rfl,hb9,hC.trans (hb9.mono hC.size),(A9,c9),rfl,⟨_,ho9⟩⟩
    obtain ⟨A5,c5⟩:=x
    try simp only [Act.put,zD,zE,zF]
    refine grow_fix 8 ?_ rfl (by rfl) (by rfl) (fun wx hC hD=>?_) ?_
    rotate_left
    ·have hSw:=Hc8.out wx hC
     go_simp
     all_goals with_reducible rfl
    try simp only [Act.put,zD,zE,zF]
    refine grow_nil (fun w5 hC hF=>?_)
    have HN5:Hid (∃ B5,w5.ownsRow B5 3 1 (.slice A5 N.length c5) N.length (itv N)):=zh (upd_hit (hF 6) (by decide))
    have HB5:=zh (hB.out.trans (hC.mono hsw))
    have HOL:=zh (hO.out.kept (grow_of_below hC none) (by cases hv:u.ownBlock <;> simp))
    have HY5:=zh (HYr.out.below hC HYr.out.lt)
    clear hF hC hO hB HXr HYr CA Hc8 e1
    go_wp2_with fail
    go_loopw [7,10] (fun v j wr=>∃ (u:Value) (m:Nat) (L2:List (Int × Int)),u=v∧m≤N.length∧j=.int .i64 m∧Hid (L2.length=L.length+m)∧Hid (L2=L ++ (N.take m).map (fun i=>(i,sq)))∧Hid (wr.ownsRow w2.heap.size 81 2 u L2.length (htv L2))∧Hid (Below w2.heap.size w2 wr)∧Hid (∃ B5,wr.ownsRow B5 3 1 (.slice A5 N.length c5) N.length (itv N))∧Hid (Blk wr (w.heap.size+1) 69 #[.int .i64 seq,.slice (some ⟨b,o,none⟩) en ec])) (fun _ j _=>N.length - (intOf j).toNat)
    case atStart=>exact ⟨_,0,L,rfl,Nat.zero_le _,rfl,zh rfl,zh (by simp),HOL,HB5,HN5,HY5⟩
    case round =>
     clear HOL HB5 HN5 HY5
     obtain ⟨u,m,L2,rfl,hm,rfl,hL2,hL2e,hO,hB,hO5,hX⟩:=hrel
     by_cases hml:m<N.length
     ·have hmi:(m:Int)<(N.length:Int):=by omega
      have hmi0:(0:Int)≤(m:Int):=by omega
      have hL2b:L2.length≤65000:=by have:=hL2.out; omega
      obtain ⟨B5,h5⟩:=hO5.out
      obtain ⟨A6,c6,e6,hR6,hc6,hn6,_⟩:=Ev.own_shape2 h5
      injection e6 with ea6 _ ec6
      subst ea6 ec6
      obtain ⟨nb,no,rfl,hnb,hnc⟩:=hR6.2 (by omega)
      have y0:=hnc m _ (itv_get N m hml)
      have Hc12:Hid (∀ wx,Below wr.heap.size wr wx→wx.cell? ⟨nb,no+m,none⟩=some (.int .i64 N[m])∧wx.cell? ⟨w.heap.size+1,0,none⟩=some (.int .i64 seq)):=zh (fun wx hb=>by
       have r0:=(hX.out.below hb hX.out.lt).cell 0
       simp only [zA,zB,zC] at r0
       exact ⟨(hb.cell (p:=⟨nb,no+m,none⟩) hnb).trans y0,r0⟩)
      have HST:Hid (L2 ++ [(N[m],sq)]=L ++ (N.take (m+1)).map (fun i=>(i,sq))):=zh (by rw [map_snoc N sq m hml,hL2e.out,List.append_assoc])
      have HIT:Hid (htv (L2 ++ [(N[m],sq)])=htv L2 ++ [.int .i64 N[m],.int .i64 sq]∧(L2 ++ [(N[m],sq)]).length=L2.length+1):=zh ⟨htv_snoc _ _ _,by simp⟩
      have H5:=zh h5
      have hxl:=hX.out.lt
      clear hR6 hc6 hn6 hnc h5 hO5 hL2e y0
      generalize N[m]=x at *
      generalize hzl:htv L2=zs at *
      clear hzl
      go_upto_region 12 with (fail)
      refine wp_region_grow_tail 11 (specOf [(10,⟨Nat,fun x=>.slice (some ⟨x,0,none⟩) 1 1,fun g wx=>Blk wx g 81 #[.int .i64 x,.int .i64 sq]∧wr.heap.size≤g⟩)]) (fun wx=>Below wr.heap.size wr wx) (fun w1 w2=>Below w1.heap.size w1 w2) (by kernel_rfl) (by kernel_rfl) (stab_cons (fun x w1 w2 hg h=>⟨h.1.below hg h.1.lt,h.2⟩) (stab_nil)) ((Below.refl _ _).drew) ?_
      simp only [List.take_succ_cons,List.take_zero,List.drop_succ_cons,List.drop_zero]
      iterate 10
       refine grow_fix _ ?_ rfl (by rfl) (by rfl) (fun wx hC hD=>?_) ?_
       rotate_left
       ·have hSw:=Hc12.out wx hC
        go_simp
        all_goals with_reducible rfl
       try simp only [Act.put,zD,zE,zF]
      refine grow_give 11 _ rfl (by rfl) (by rfl) (fun wx hC hD=>?_) (fun x=>?_)
      ·refine give_value (u:=?_) (w':=?_) ?_ ?_ ?_
       rotate_left 2
       ·have hSw:=Hc12.out wx hC
        go_simp
        all_goals first | with_reducible rfl | (refine ⟨?_,?_⟩ <;> with_reducible rfl)
       ·exact ((Below.refl _ _).alloc (zG _) _)
       ·exact ⟨hC.alloc hC.size _,wx.heap.size,rfl,Blk.new _ _ _,hC.size⟩
      rename Nat=>x9
      try simp only [Act.put,zD,zE,zF]
      refine grow_nil (fun w7 hC hF=>?_)
      have HBL:=zh (upd_hit (hF 10) (by decide)).1
      have hzc:=hC.size
      have HO4:=zh (hO.out.kept (grow_of_below hC none) (by cases hv:u.ownBlock <;> simp))
      have HB4:=zh (hB.out.trans (hC.mono hB.out.size))
      have H54:=zh (H5.out.kept (grow_of_below hC none) (by cases hv:(Value.slice (some ⟨nb,no,none⟩) N.length c5).ownBlock <;> simp))
      have HX4:=zh (hX.out.below hC hX.out.lt)
      have hs27:w2.heap.size≤w7.heap.size:=HB4.out.size
      clear hF hC hO hB H5 hX Hc12
      go_wp2_with (first
       | (at_builtin; refine wpList_append_own_at _ rfl _ _ 76 rfl w2.heap.size 81 i0 _ 2 16 Tryz.underlying76 hi0 hz0 hz1 hz2 rfl (by decide) _ L2.length zs rfl HO4.out ⟨x9,0,none⟩ 1 1 [.int .i64 x,.int .i64 sq] rfl rfl (World.news_of_block (cs:=#[.int .i64 x,.int .i64 sq]) (t:=81) (fr:=(0,0)) HBL.out) (by simp [Value.oneCell']) ?k1 ?k2 ?k3 ?_)
       | fail)
      case k1=>unfold maxLen; omega
      case k2=>omega
      try (case k3=>first | omega | (rw [World.size_alloc]; omega))
      intro v4 w6 ho4 hg4 _ _
      have HO6:Hid (w6.ownsRow w2.heap.size 81 2 v4 (L2 ++ [(x,sq)]).length (htv (L2 ++ [(x,sq)]))):=zh (by rw [HIT.out.1,HIT.out.2]; exact ho4)
      have HB6:=zh (HB4.out.grown hg4 HB4.out.size (fun j hj=>(HO4.out.lt j hj).1))
      have H56:=zh (own_apart H54.out HO4.out (by decide) hg4)
      have HX6:=zh (HX4.out.grown hg4 (fun e=>absurd ((tg_own HO4.out e.symm).one ⟨_,_,HX4.out⟩) (by decide)))
      have hl1:=HIT.out.2
      clear ho4 hg4
      go_wp2_with fail
      go_roundw
      case rel=>exact ⟨_,m+1,L2 ++ [(x,sq)],rfl,by omega,by go_num,zh (by have:=hL2.out; omega),HST,HO6,HB6,zh ⟨_,H56.out⟩,HX6⟩
      case measure=>simp [intOf]; omega
     ·obtain rfl:m=N.length:=by omega
      have hmz:¬ (N.length:Int)<(N.length:Int):=by omega
      have hL2b:L2.length≤(k+1) * 1000:=by have:=hL2.out; omega
      have HLE:Hid (L2=hitsD f (mkD seq (E.take (k+1)))):=zh (by rw [HTS.out,hL2e.out,List.take_length])
      go_wp2_with fail
      go_roundw
      case rel=>exact ⟨_,k+1,L2,rfl,by omega,by go_num,by omega,HLE,hO,hB⟩
      case measure=>simp [intOf]; omega
   ·obtain rfl:k=en:=by omega
    have hkz:¬ (k:Int)<(k:Int):=by omega
    have FIN:Hid (wr.ownsRow w.heap.size 81 2 u RR.length (htv RR)):=zh (by
     have:=hO.out
     rw [hLe.out,← hel,List.take_length,← HRD.out] at this
     exact own_mono this hs2w)
    go_wp2
    go_ret2
    exact ⟨_,rfl,FIN.out,HBW.out⟩
 ·have hcb:(cc == 0)=false:=beq_eq_false_iff_ne.2 hc0
  have hrr:RR=[]:=by rw [← HRR.out,HCC.out,if_neg hc0]
  subst hrr
  go_wp2
  go_ret2
  exact ⟨_,rfl,World.ownsRow_nil _ _ _ _,HB2.out⟩
end Go.Proofs.YtlfpfkallgkjdaaGreat.Al
end

section
namespace Go.Proofs.YtlfpfkallgkjdaaGreat.Al
open Go.RowKit Go.Maps Ut Tk Qy Qp Ev Mv
theorem htv_get:∀ (L:List (Int × Int)) (i:Nat) (h:i<L.length),(htv L)[i * 2]?=some (.int .i64 L[i].1)∧(htv L)[i * 2+1]?=some (.int .i64 L[i].2)
 | x :: L,0,_=>by simp [htv]
 | x :: L,i+1,h=>by
  have:=htv_get L i (by simpa using h)
  rw [Nat.add_mul]
  simpa [htv] using this
set_option maxHeartbeats 12800000 in
theorem batches_any (A:Option Addr) (n c:Nat) (L:List Opr) (seq:Int) (EA:Option Addr) (en ec:Nat) (E:List Evn) (w:World) (hO:OpsAt w A n c L) (hE:EvsAt w w.heap.size EA en ec E) :
  Calls Tryz.prog 7 #[.slice A n c,.agg #[.int .i64 seq,.slice EA en ec]] w fun e w'=>e=.returned (.bool true)∧Below w.heap.size w w':=by
 have hb1:Below w.heap.size w (w.alloc (.cells #[.int .i64 seq,.slice EA en ec] 69)):=(Below.refl _ _).alloc (zG _) _
 have HE1:=zh (Blk.new w 69 #[.int .i64 seq,.slice EA en ec])
 have HB1:=zh hb1
 have HO:=zh hO
 have HE:=zh hE
 clear hb1 hO hE
 go_enter Tryz.func7,Tryz.ntmps7
 go_upto_region 1 with (fail)
 generalize w.alloc (.cells #[.int .i64 seq,.slice EA en ec] 69)=w1 at *
 have e0:=HE1.out.cell 0
 have e1:=HE1.out.cell 1
 simp only [zA,zB,zC] at e0 e1
 have hb2:Below w1.heap.size w1 (w1.alloc (.cells #[.int .i64 seq,.slice EA en ec] 69)):=(Below.refl _ _).alloc (zG _) _
 have hx2:=Blk.new w1 69 #[.int .i64 seq,.slice EA en ec]
 have HB2:=zh (HB1.out.trans (hb2.mono HB1.out.size))
 have CF:=zh (Gi.fewL_any (some ⟨w1.heap.size,0,none⟩) 1 1 [(seq,E)] (w1.alloc (.cells #[.int .i64 seq,.slice EA en ec] 69)) ⟨rfl,zG _,[[.int .i64 seq,.slice EA en ec]],rfl,⟨rfl,fun _=>⟨_,_,rfl,hx2.lt,fun j u hu=>by
  have hj:j<2:=by simpa using (List.getElem?_eq_some_iff.1 hu).1
  have hcl:=hx2.cell (0+j)
  rw [hcl]
  rcases (by omega:j=0∨j=1) with rfl | rfl <;> simpa using hu⟩⟩,fun i h1 h2=>by
   obtain rfl:i=0:=by simp at h1; omega
   exact ⟨_,_,_,rfl,HE.out.grow HB2.out⟩⟩ (by omega))
 clear hb2 hx2
 go_wp2_with fail
 refine CF.out.mono ?_
 rintro e w2 hF
 generalize w1.alloc (.cells #[.int .i64 seq,.slice EA en ec] 69)=w0 at *
 rcases hF with ⟨rfl,hb3⟩ | ⟨v,rfl,hV,_,hb3⟩
 ·have HB3:=zh (HB2.out.trans (hb3.mono HB2.out.size))
  have CB:=zh (behind_any A n c L w2 (HO.out.below HB3.out))
  clear hb3 CF e0 e1
  go_wp2_with fail
  refine CB.out.mono ?_
  rintro e w3 ⟨Bb,K,l,rfl,hK,hl30,hS,hb4⟩
  have HB4:=zh (HB3.out.trans (hb4.mono HB3.out.size))
  have CA:=zh (awake_any w3)
  clear hb4 hS CB
  go_wp2_with fail
  refine CA.out.mono ?_
  rintro e w4 ⟨rfl,hb5⟩
  have HB5:=zh (HB4.out.trans (hb5.mono HB4.out.size))
  clear hb5
  go_wp2
  go_ret
  exact ⟨rfl,HB5.out⟩
 ·obtain ⟨A2,c2,rfl,hR⟩:=hV.read
  obtain ⟨b,o,E2,m2,k2,rfl,hbb,a0,a1,hev⟩:=hR.at_ (i:=0) (by simp)
  have HB3:=zh (HB2.out.trans (hb3.mono HB2.out.size))
  have HBB:=zh hbb.2
  have HA0:=zh a0
  have HA1:=zh a1
  have HEV:Hid (EvsAt w2 w2.heap.size E2 m2 k2 E):=zh (hev.more hb3.size)
  have CB:=zh (behind_any A n c L w2 (HO.out.below HB3.out))
  have hone:(([(seq,E)]:List Mx.Bt).take 8).length=1:=rfl
  rw [hone]
  clear hb3 CF e0 e1 hV hR hbb a0 a1 hev hone
  go_wp2_with fail
  refine CB.out.mono ?_
  rintro e w3 ⟨Bb,K,l,rfl,hK,hl30,hS,hb4⟩
  obtain ⟨X2,AR,n2,cr,O2,g1,g2,g3,g4⟩:=hS.ex
  have hl2:=hS.few
  have hn2:n2=l.length:=by rw [← g3.ln,g4.len]
  subst hn2
  have HB4:=zh (HB3.out.trans (hb4.mono HB3.out.size))
  have HG:=zh g1
  have HA:=zh g2
  have HR:=zh g3
  have HI:=zh g4
  have HEV4:=zh (HEV.out.grow hb4)
  have Hc:Hid (∀ wx,Below w3.heap.size w3 wx→wx.cell? ⟨Bb,0,none⟩=some (.pointer (some ⟨X2,0,none⟩))∧wx.cell? ⟨Bb,1,none⟩=some (.slice AR l.length cr)∧wx.cell? ⟨b,o,none⟩=some (.int .i64 seq)∧wx.cell? ⟨b,o+1,none⟩=some (.slice E2 m2 k2)):=zh (fun wx hb=>by
   have r0:=(HG.out.below hb HG.out.lt).cell 0
   have r1:=(HG.out.below hb HG.out.lt).cell 1
   simp only [zA,zB,zC] at r0 r1
   have hb':=hb4.trans (hb.mono hb4.size)
   have t0:=(hb'.cell (p:=⟨b,o+0 * 2,none⟩) HBB.out).trans HA0.out
   have t1:=(hb'.cell (p:=⟨b,o+0 * 2+1,none⟩) HBB.out).trans HA1.out
   exact ⟨r0,r1,by simpa using t0,by simpa using t1⟩)
  have C7:Hid (∀ wx,Below w3.heap.size w3 wx→Calls Tryz.prog 30 #[.pointer (some ⟨X2,0,none⟩),.agg #[.int .i64 seq,.slice E2 m2 k2]] wx (HitsP 80 wx (chkB seq E) (if chkB seq E=0 then hitsD (fun fs=>AskV fs l) (mkD seq E) else []))):=zh (fun wx hb=>batch_n (HA.out.new_below hb) hl2 seq E2 m2 k2 E (HEV4.out.grow hb))
  have C8:Hid (∀ wx,Below w3.heap.size w3 wx→Calls Tryz.prog 31 #[.agg #[.slice AR l.length cr],.agg #[.int .i64 seq,.slice E2 m2 k2]] wx (HitsP 81 wx (chkB seq E) (if chkB seq E=0 then hitsD (fun fs=>AskV fs l) (mkD seq E) else []))):=zh (fun wx hb=>rbatch_any AR l.length cr O2 l seq E2 m2 k2 E wx (HR.out.below hb) HI.out HA.out.ok hl2 (HEV4.out.grow hb))
  clear hb4 hS g1 g2 g3 g4 CB HEV HA0 HA1
  have hRR:(if chkB seq E=0 then hitsD (fun fs=>AskV fs l) (mkD seq E) else []).length≤65000:=by
   split
   ·rename_i h0
    have h1:=hitsD_few (fun fs=>AskV fs l) (fun fs=>ask_few fs hl2) (mkD seq E)
    rw [mkD_len] at h1
    have:=(chkB_ok h0).2.1
    omega
   ·simp
  generalize chkB seq E=cc at *
  generalize (if cc=0 then hitsD (fun fs=>AskV fs l) (mkD seq E) else [])=RR at *
  go_upto_region 7 with (fail)
  refine wp_region_grow (specOf [(7,⟨Option Addr × Nat,fun x=>.tuple #[.slice x.1 RR.length x.2,.int .i64 cc],fun x wz=>∃ B5,wz.ownsRow B5 80 2 (.slice x.1 RR.length x.2) RR.length (htv RR)⟩)]) (fun wx=>Below (World.heap w3).size w3 wx) (fun w1 w2=>Below w1.heap.size w1 w2) (by kernel_rfl) (by kernel_rfl) (stab_cons (fun x wa wb hg h=>by obtain ⟨B5,h⟩:=h; exact ⟨B5,h.kept (grow_of_below hg none) (by cases hv:(Value.slice x.1 RR.length x.2).ownBlock <;> simp)⟩) (stab_nil)) (Below.refl _ _).drew ?_
  iterate 7
   refine grow_fix _ ?_ rfl (by rfl) (by rfl) (fun wx hC hD=>?_) ?_
   rotate_left
   ·have hSw:=Hc.out wx hC
    go_simp
    all_goals with_reducible rfl
   try simp only [Act.put,zD,zE,zF]
  refine grow_give 8 _ rfl (by rfl) (by rfl) (fun wx hC hD=>?_) (fun x=>?_)
  ·refine give_enter (f:=?_) (args:=?_) ?_ ?_
   rotate_left 2
   ·have hSw:=Hc.out wx hC
    go_simp
    all_goals first | with_reducible rfl | (refine ⟨?_,?_⟩ <;> with_reducible rfl)
   refine (C7.out wx hC).mono ?_
   rintro e w9 ⟨v9,rfl,ho9,hb9⟩
   obtain ⟨A9,c9,rfl,_⟩:=Ev.own_shape2 ho9
   exact ⟨_,rfl,hb9,hC.trans (hb9.mono hC.size),(A9,c9),rfl,⟨_,ho9⟩⟩
  obtain ⟨A7,c7⟩:=x
  try simp only [Act.put,zD,zE,zF]
  iterate 5
   refine grow_fix _ ?_ rfl (by rfl) (by rfl) (fun wx hC hD=>?_) ?_
   rotate_left
   ·have hSw:=Hc.out wx hC
    go_simp
    all_goals with_reducible rfl
   try simp only [Act.put,zD,zE,zF]
  refine grow_nil (fun w5 hC hF=>?_)
  have HH5:=zh (upd_hit (hF 7) (by decide))
  have HB5:=zh (HB4.out.trans (hC.mono HB4.out.size))
  have Hc5:Hid (∀ wx,Below w5.heap.size w5 wx→_):=zh (fun wx hb=>Hc.out wx (hC.trans (hb.mono hC.size)))
  have C85:Hid (∀ wx,Below w5.heap.size w5 wx→_):=zh (fun wx hb=>C8.out wx (hC.trans (hb.mono hC.size)))
  clear hF hC C7 C8 Hc
  go_upto_region 8 with (fail)
  refine wp_region_grow (specOf [(7,⟨Option Addr × Nat,fun x=>.tuple #[.slice x.1 RR.length x.2,.int .i64 cc],fun x wz=>∃ B5,wz.ownsRow B5 81 2 (.slice x.1 RR.length x.2) RR.length (htv RR)⟩)]) (fun wx=>Below (World.heap w5).size w5 wx) (fun w1 w2=>Below w1.heap.size w1 w2) (by kernel_rfl) (by kernel_rfl) (stab_cons (fun x wa wb hg h=>by obtain ⟨B5,h⟩:=h; exact ⟨B5,h.kept (grow_of_below hg none) (by cases hv:(Value.slice x.1 RR.length x.2).ownBlock <;> simp)⟩) (stab_nil)) (Below.refl _ _).drew ?_
  iterate 7
   refine grow_fix _ ?_ rfl (by rfl) (by rfl) (fun wx hC hD=>?_) ?_
   rotate_left
   ·have hSw:=Hc5.out wx hC
    go_simp
    all_goals with_reducible rfl
   try simp only [Act.put,zD,zE,zF]
  refine grow_give 8 _ rfl (by rfl) (by rfl) (fun wx hC hD=>?_) (fun x=>?_)
  ·refine give_enter (f:=?_) (args:=?_) ?_ ?_
   rotate_left 2
   ·have hSw:=Hc5.out wx hC
    go_simp
    all_goals first | with_reducible rfl | (refine ⟨?_,?_⟩ <;> with_reducible rfl)
   refine (C85.out wx hC).mono ?_
   rintro e w9 ⟨v9,rfl,ho9,hb9⟩
   obtain ⟨A9,c9,rfl,_⟩:=Ev.own_shape2 ho9
   exact ⟨_,rfl,hb9,hC.trans (hb9.mono hC.size),(A9,c9),rfl,⟨_,ho9⟩⟩
  obtain ⟨A8,c8⟩:=x
  try simp only [Act.put,zD,zE,zF]
  iterate 5
   refine grow_fix _ ?_ rfl (by rfl) (by rfl) (fun wx hC hD=>?_) ?_
   rotate_left
   ·have hSw:=Hc5.out wx hC
    go_simp
    all_goals with_reducible rfl
   try simp only [Act.put,zD,zE,zF]
  refine grow_nil (fun w6 hC hF=>?_)
  have HW6:=zh (upd_hit (hF 7) (by decide))
  have HH6:Hid (∃ B5,w6.ownsRow B5 80 2 (.slice A7 RR.length c7) RR.length (htv RR)):=zh (by
   obtain ⟨B5,h⟩:=HH5.out
   exact ⟨B5,h.kept (grow_of_below hC none) (by cases hv:(Value.slice A7 RR.length c7).ownBlock <;> simp)⟩)
  have HB6:=zh (HB5.out.trans (hC.mono HB5.out.size))
  clear hF hC C85 Hc5 HH5
  have hne:(cc != cc)=false:=bne_self_eq_false cc
  have hln:(((RR.length:Nat):Int) != ((RR.length:Nat):Int))=false:=bne_self_eq_false _
  go_wp2_with fail
  go_loopw [13] (fun i wr=>∃ k:Nat,k≤RR.length∧i=.int .i64 k∧Hid (Below w6.heap.size w6 wr)) (fun i _=>RR.length - (intOf i).toNat)
  case atStart=>exact ⟨0,Nat.zero_le _,rfl,zh (Below.refl _ _)⟩
  case round =>
   obtain ⟨k,hk,rfl,hB⟩:=hrel
   by_cases hlt:k<RR.length
   ·have hki:(k:Int)<(RR.length:Int):=by omega
    have hki0:(0:Int)≤(k:Int):=by omega
    obtain ⟨p1,h1⟩:=HH6.out
    obtain ⟨p2,h2⟩:=HW6.out
    obtain ⟨A9,c9,e9,r9,_⟩:=Ev.own_shape2 h1
    obtain ⟨A10,c10,e10,r10,_⟩:=Ev.own_shape2 h2
    injection e9 with ea9 _ ec9
    injection e10 with ea10 _ ec10
    subst ea9 ec9 ea10 ec10
    obtain ⟨b1,o1,rfl,hb1,hc1⟩:=r9.2 (by omega)
    obtain ⟨b2,o2,rfl,hb2,hc2⟩:=r10.2 (by omega)
    have t0:=(hB.out.cell (p:=⟨b1,o1+k * 2,none⟩) hb1).trans (by simpa [Nat.add_assoc] using hc1 (k * 2) _ (htv_get RR k hlt).1)
    have t1:=(hB.out.cell (p:=⟨b1,o1+k * 2+1,none⟩) hb1).trans (by simpa [Nat.add_assoc] using hc1 (k * 2+1) _ (htv_get RR k hlt).2)
    have t2:=(hB.out.cell (p:=⟨b2,o2+k * 2,none⟩) hb2).trans (by simpa [Nat.add_assoc] using hc2 (k * 2) _ (htv_get RR k hlt).1)
    have t3:=(hB.out.cell (p:=⟨b2,o2+k * 2+1,none⟩) hb2).trans (by simpa [Nat.add_assoc] using hc2 (k * 2+1) _ (htv_get RR k hlt).2)
    clear h1 h2 r9 r10 hc1 hc2
    generalize RR[k].1=x1 at *
    generalize RR[k].2=x2 at *
    have hx1:(x1 != x1)=false:=bne_self_eq_false x1
    have hx2:(x2 != x2)=false:=bne_self_eq_false x2
    go_wp2_with fail
    go_quiet (fail)
    have HB7:=zh (Mx.below_dN hB.out nq)
    go_wp2_with fail
    go_roundw
    case rel=>exact ⟨k+1,by omega,by go_num,HB7⟩
    case measure=>simp [intOf]; omega
   ·obtain rfl:k=RR.length:=by omega
    have hkz:¬ (RR.length:Int)<(RR.length:Int):=by omega
    have HB7:=zh (HB6.out.trans (hB.out.mono HB6.out.size))
    have CA:=zh (awake_any wr)
    clear hB
    go_wp2_with fail
    refine CA.out.mono ?_
    rintro e w8 ⟨rfl,hb8⟩
    have HB8:=zh (HB7.out.trans (hb8.mono HB7.out.size))
    clear hb8
    go_wp2
    go_ret
    exact ⟨rfl,HB8.out⟩
end Go.Proofs.YtlfpfkallgkjdaaGreat.Al
end
