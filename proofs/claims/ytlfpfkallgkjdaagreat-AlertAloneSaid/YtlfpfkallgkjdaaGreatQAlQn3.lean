/- loggiaref32.near: the walk (printed by gen_aly.py). -/
import Derived.Test.YtlfpfkallgkjdaaGreatQAlertRunsRow40
import Derived.Test.YtlfpfkallgkjdaaGreatQAlQn2
import Derived.Test.YtlfpfkallgkjdaaGreatQAlQn0
import Derived.Test.YtlfpfkallgkjdaaGreatQAlertRunsRow34
import Derived.Test.YtlfpfkallgkjdaaGreatQAlertRunsRow1
import Derived.Test.YtlfpfkallgkjdaaGreatQAlertRunsRow0
import Derived.Test.YtlfpfkallgkjdaaGreatQAlQn1
set_option linter.unusedSimpArgs false
set_option linter.unusedVariables false
set_option maxRecDepth 40000
section
namespace Go.Proofs.YtlfpfkallgkjdaaGreat.Al
open Go.RowKit Go.Maps Ut Tk Qy Qp Ev Mv
theorem filt_one {α β:Type} (p : α→Bool) (f : α→β) (x : α):([x].filter p).map f=if p x=true then [f x] else []:=by
 by_cases h:p x=true
 ·rw [if_pos h,List.filter_cons_of_pos h]; rfl
 ·rw [if_neg h,List.filter_cons_of_neg h]; rfl
theorem hasT_of {fs:List Fl} {O:List Tr} (h:O.map prj=addAll (raw fs)) (s:ByteArray):hasT fs s=O.any (fun x=>decide (x.1=s)):=by
 unfold hasT
 rw [← h,List.any_map]
 rfl
set_option maxHeartbeats 6400000 in
theorem rnear_any (q:Q) (qk:Int) (qn:ByteArray) (A1:Option Addr) (n1 c1:Nat) (A2:Option Addr) (n2 c2:Nat) (t:Int) (F:Option Addr) (fn fc:Nat) (fs:List Fl) (w:World) (hq:QOk q) (hQ:QAt w w.heap.size q [.int .i64 qk,.string qn,.slice A1 n1 c1,.slice A2 n2 c2]) (hF:FlAt w w.heap.size F fn fc fs) (hck:chkE fs=0) :
  Calls Tryz.prog 47 #[.agg #[.int .i64 qk,.string qn,.slice A1 n1 c1,.slice A2 n2 c2],.agg #[.int .i64 t,.slice F fn fc]] w fun e w'=>e=.returned (.bool ((needs q).all (hasT fs)))∧Below w.heap.size w w':=by
 have hb1:Below w.heap.size w (w.alloc (.cells #[.int .i64 qk,.string qn,.slice A1 n1 c1,.slice A2 n2 c2] 52)):=(Below.refl _ _).alloc (zG _) _
 have hb2:Below (w.alloc (.cells #[.int .i64 qk,.string qn,.slice A1 n1 c1,.slice A2 n2 c2] 52)).heap.size (w.alloc (.cells #[.int .i64 qk,.string qn,.slice A1 n1 c1,.slice A2 n2 c2] 52)) ((w.alloc (.cells #[.int .i64 qk,.string qn,.slice A1 n1 c1,.slice A2 n2 c2] 52)).alloc (.cells #[.int .i64 t,.slice F fn fc] 33)):=(Below.refl _ _).alloc (zG _) _
 have hx1:=(Blk.new w 52 #[.int .i64 qk,.string qn,.slice A1 n1 c1,.slice A2 n2 c2]).below hb2 (by simp)
 have hx2:=Blk.new (w.alloc (.cells #[.int .i64 qk,.string qn,.slice A1 n1 c1,.slice A2 n2 c2] 52)) 33 #[.int .i64 t,.slice F fn fc]
 have hsz:(w.alloc (.cells #[.int .i64 qk,.string qn,.slice A1 n1 c1,.slice A2 n2 c2] 52)).heap.size=w.heap.size+1:=by simp
 rw [hsz] at hx2
 have hb:=hb1.trans (hb2.mono (by omega))
 have HX1:=zh hx1
 have HX2:=zh hx2
 have HB:=zh hb
 have HQ:=zh hQ
 have HF:=zh hF
 have HCK:=zh hck
 have HQO:=zh hq
 clear hb1 hb2 hx1 hx2 hb hQ hF hck hq hsz
 have hnl:(needs q).length≤1048576:=Nat.le_trans (needs_len q) HQO.out.wq
 have CN:Hid (∀ wx,Below w.heap.size w wx→Calls Tryz.prog 85 #[.agg #[.int .i64 qk,.string qn,.slice A1 n1 c1,.slice A2 n2 c2]] wx (BsPost wx (needs q))):=zh (fun wx hb=>rneeds_any q HQO.out.tx wx _ _ _ _ (HQ.out.grow hb) HQO.out.wq)
 generalize needs q=N at *
 obtain ⟨RR,hRR⟩:∃ RR,N.all (hasT fs)=RR:=⟨_,rfl⟩
 rw [hRR]
 have HRR:=zh hRR
 clear hRR
 go_enter Tryz.func47,Tryz.ntmps47
 go_upto_region 1 with (fail)
 generalize ((w.alloc (.cells #[.int .i64 qk,.string qn,.slice A1 n1 c1,.slice A2 n2 c2] 52)).alloc (.cells #[.int .i64 t,.slice F fn fc] 33))=w1 at *
 have g0:=HX1.out.cell 0
 have g1:=HX1.out.cell 1
 have g2:=HX1.out.cell 2
 have g3:=HX1.out.cell 3
 simp only [zA,zB,zC] at g0 g1 g2 g3
 have k1:=CN.out w1 HB.out
 have hs1:=HB.out.size
 clear CN
 go_wp2_with fail
 refine k1.mono ?_
 rintro e w2 ⟨v,rfl,hown,hb2⟩
 obtain ⟨A,c,rfl,hR,_,_,_⟩:=Ev.own_shape2 hown
 have HR:=zh hR
 have HB2:=zh (HB.out.trans (hb2.mono hs1))
 have hx2:=HX2.out.below hb2 HX2.out.lt
 have e0:=hx2.cell 0
 have e1:=hx2.cell 1
 simp only [zA,zB,zC] at e0 e1
 have k2:=rterms_any t F fn fc fs w2 (flgrow HF.out HB2.out) HCK.out
 clear k1 hown hR hb2 hx2 g0 g1 g2 g3
 go_wp2_with fail
 refine k2.mono ?_
 rintro e w3 ⟨A3,n3,c3,O,rfl,hO,hTm,hb3⟩
 have hn3:=hTm.ln
 have hO2:=congrArg List.length hO
 rw [List.length_map] at hO2
 have hol:O.length≤4294967296:=by
  have hk:=chkE_ok HCK.out
  have h1:=rawN_len fs (fun f hf=>(hk.2 f hf).2.2) fs.length (zG _)
  rw [rawN_all] at h1
  have:=addAll_len (raw fs)
  omega
 have HHT:=zh (fun s=>hasT_of hO s)
 have HTM:=zh hTm
 have HB3:=zh (HB2.out.trans (hb3.mono HB2.out.size))
 have HR3:Hid (Reads w3 w3.heap.size 1 A N.length (bsv N)):=zh ((HR.out.keep fun _ _ hp=>hb3.cell hp).more hb3.size)
 clear k2 hTm hO hO2 hb3 e0 e1 HR
 go_wp2_with fail
 go_loopw [7] (fun i wr=>∃ k:Nat,k≤N.length∧i=.int .i64 k∧Hid ((N.take k).all (hasT fs)=true)∧Hid (Below w3.heap.size w3 wr)) (fun i _=>N.length - (intOf i).toNat)
 case atStart=>exact ⟨0,Nat.zero_le _,rfl,zh rfl,zh (Below.refl _ _)⟩
 case round =>
  obtain ⟨k,hk,rfl,hA,hB⟩:=hrel
  by_cases hlt:k<N.length
  ·have hki:(k:Int)<(N.length:Int):=by omega
   obtain ⟨nb,no,rfl,hnb,hnc⟩:=HR3.out.2 (by omega)
   have y0:=(hB.out.cell (p:=⟨nb,no+k,none⟩) hnb).trans (hnc k _ (bsv_get N k hlt))
   have HA1:Hid (hasT fs N[k]=true→(N.take (k+1)).all (hasT fs)=true):=zh (fun h=>by rw [List.take_succ_eq_append_getElem hlt,List.all_append,hA.out]; simp [h])
   have HA0:Hid (hasT fs N[k]=false→RR=false):=zh (fun h=>by
    rw [← HRR.out]
    exact Bool.eq_false_iff.2 (fun h2=>by
     have:=List.all_eq_true.1 h2 _ (List.getElem_mem hlt)
     rw [h] at this; cases this))
   have HSO:=zh (HHT.out N[k])
   have Hnc:Hid (∀ wx,Below w3.heap.size w3 wx→wx.cell? ⟨nb,no+k,none⟩=some (.string N[k])):=zh (fun wx hb=>(hb.cell (p:=⟨nb,no+k,none⟩) hnb).trans (hnc k _ (bsv_get N k hlt)))
   clear hnc y0 hA
   generalize N[k]=s at *
   generalize hasT fs s=hs at *
   obtain ⟨wo,rfl⟩:∃ wo:World,wo=wr:=⟨_,rfl⟩
   go_wp2_with fail
   go_loopw [8,9] (fun h j wr=>∃ jn:Nat,jn≤O.length∧j=.int .i64 jn∧h=.bool ((O.take jn).any (fun x=>decide (x.1=s)))∧Hid (Below w3.heap.size w3 wr)) (fun _ j _=>O.length - (intOf j).toNat)
   case atStart=>exact ⟨0,Nat.zero_le _,rfl,rfl,hB⟩
   case round =>
    obtain ⟨jn,hj,rfl,rfl,hQ⟩:=hrel
    by_cases hjl:jn<O.length
    ·have hjz:(jn:Int)<(n3:Int):=by omega
     have hj0:(0:Int)≤(jn:Int):=by omega
     have hkk0:(0:Int)≤(k:Int):=by omega
     have hjn:jn<n3:=by omega
     obtain ⟨tb,tq,rfl,htb,d0,d1⟩:=(HTM.out.grow hQ.out hQ.out.size).at_ hjl
     have y0:=Hnc.out _ hQ.out
     have HST:Hid ((O.take (jn+1)).any (fun x=>decide (x.1=s))=((O.take jn).any (fun x=>decide (x.1=s)) || decide (O[jn].1=s))):=zh (by rw [List.take_succ_eq_append_getElem hjl,List.any_append]; simp)
     generalize (O.take jn).any (fun x=>decide (x.1=s))=hv at *
     have hbd:=beq_dec O[jn].1 s
     have HBD:=zh hbd
     clear d1 hbd
     generalize O[jn].1=x at *
     cases hv
     ·go_wp2_with fail
      go_quiet (fail)
      have HB5:=zh (Mx.below_dN hQ.out nq)
      go_wp2_with fail
      go_roundw
      case rel=>exact ⟨jn+1,by omega,by go_num,by rw [HST.out,HBD.out]; rfl,HB5⟩
      case measure=>simp [intOf]; omega
     ·go_wp2_with fail
      go_quiet (fail)
      have HB5:=zh (Mx.below_dN hQ.out nq)
      go_wp2_with fail
      go_roundw
      case rel=>exact ⟨jn+1,by omega,by go_num,by rw [HST.out]; rfl,HB5⟩
      case measure=>simp [intOf]; omega
    ·obtain rfl:jn=O.length:=by omega
     have e1:(O.take O.length).any (fun x=>decide (x.1=s))=hs:=by rw [List.take_length]; exact HSO.out.symm
     rw [e1]
     clear e1
     cases hs with
     | true =>
      have HA2:=zh (HA1.out rfl)
      go_wp2_with fail
      go_roundw
      case rel=>exact ⟨k+1,by omega,by go_num,HA2,hQ⟩
      case measure=>simp [intOf]; omega
     | false =>
      have hrr:=HA0.out rfl
      subst hrr
      have HBF:=zh (HB3.out.trans (hQ.out.mono HB3.out.size))
      go_wp2
      go_ret
      exact ⟨rfl,HBF.out⟩
  ·obtain rfl:k=N.length:=by omega
   have hrr:RR=true:=by rw [← HRR.out,← hA.out,List.take_length]
   subst hrr
   have HBF:=zh (HB3.out.trans (hB.out.mono HB3.out.size))
   go_wp2
   go_ret
   exact ⟨rfl,HBF.out⟩
end Go.Proofs.YtlfpfkallgkjdaaGreat.Al
end

section
namespace Go.Proofs.YtlfpfkallgkjdaaGreat.Al
open Go.RowKit Go.Maps Ut Tk Qy Qp Ev Mv
set_option maxHeartbeats 6400000 in
theorem rnearL_any (A:Option Addr) (n c:Nat) (O:List Rk) (l:List (Int × Kp)) (t:Int) (F:Option Addr) (fn fc:Nat) (fs:List Fl) (w:World) (h:RAt w A n c O) (hl:RIs O l) (hok:∀ x∈l,KOk x.2) (hn:n≤1000) (hF:FlAt w w.heap.size F fn fc fs) :
  Calls Tryz.prog 19 #[.agg #[.slice A n c],.agg #[.int .i64 t,.slice F fn fc]] w (NumsP w (if chkE fs=0 then (l.filter (fun x=>nearB (hasT fs) x.2)).map (·.1) else [])):=by
 obtain ⟨i0,hi0,hz0,hz1,hz2⟩:=info_parts int_info
 have hb1:Below w.heap.size w (w.alloc (.cells #[.slice A n c] 41)):=(Below.refl _ _).alloc (zG _) _
 have hb2:Below (w.alloc (.cells #[.slice A n c] 41)).heap.size (w.alloc (.cells #[.slice A n c] 41)) ((w.alloc (.cells #[.slice A n c] 41)).alloc (.cells #[.int .i64 t,.slice F fn fc] 33)):=(Below.refl _ _).alloc (zG _) _
 have hx1:=(Blk.new w 41 #[.slice A n c]).below hb2 (by simp)
 have hx2:=Blk.new (w.alloc (.cells #[.slice A n c] 41)) 33 #[.int .i64 t,.slice F fn fc]
 have hsz:(w.alloc (.cells #[.slice A n c] 41)).heap.size=w.heap.size+1:=by simp
 rw [hsz] at hx2
 have hb:=hb1.trans (hb2.mono (by omega))
 have HX:=zh hx1
 have HE:=zh hx2
 have HB:=zh hb
 have H:=zh h
 have HF:=zh hF
 have hln:=h.ln
 have hsw2:w.heap.size+2≤((w.alloc (.cells #[.slice A n c] 41)).alloc (.cells #[.int .i64 t,.slice F fn fc] 33)).heap.size:=by simp
 have HOK:Hid (∀ x∈O,KOk x.1.2):=zh (fun x hx=>by
  have e:O.map (·.1)=l:=hl
  exact hok x.1 (by rw [← e]; exact List.mem_map.2 ⟨x,hx,rfl⟩))
 have HL:Hid ((l.filter (fun x=>nearB (hasT fs) x.2)).map (·.1)=(O.filter (fun y=>(fun x:Int × Kp=>nearB (hasT fs) x.2) y.1)).map (fun x=>x.1.1)):=zh (by
  rw [← show O.map (·.1)=l from hl,List.filter_map,List.map_map]; rfl)
 clear h hl hb1 hb2 hx1 hx2 hb hsz hok hF
 obtain ⟨RR,hRR⟩:∃ RR,(if chkE fs=0 then (l.filter (fun x=>nearB (hasT fs) x.2)).map (·.1) else [])=RR:=⟨_,rfl⟩
 rw [hRR]
 have HRR:=zh hRR
 clear hRR
 have CK:Hid (∀ wx,Below w.heap.size w wx→Calls Tryz.prog 22 #[.agg #[.int .i64 t,.slice F fn fc]] wx fun e w'=>e=.returned (.int .i64 (chkE fs))∧Below wx.heap.size wx w'):=zh (fun wx hb=>rcheck_any t F fn fc fs wx (flgrow HF.out hb))
 obtain ⟨cc,hcc⟩:∃ cc,chkE fs=cc:=⟨_,rfl⟩
 rw [hcc] at CK
 have HCC:=zh hcc
 clear hcc
 go_enter Tryz.func19,Tryz.ntmps19
 go_upto_region 1 with (fail)
 generalize ((w.alloc (.cells #[.slice A n c] 41)).alloc (.cells #[.int .i64 t,.slice F fn fc] 33))=w1 at *
 go_wp2_with fail
 go_loopw [5,6] (fun v i wr=>∃ (u:Value) (k:Nat) (L:List Int),u=v∧k≤n∧i=.int .i64 k∧(k=0∨cc=0)∧L.length≤k∧Hid (L=((O.take k).filter (fun y=>(fun x:Int × Kp=>nearB (hasT fs) x.2) y.1)).map (fun x=>x.1.1))∧Hid (wr.ownsRow (w.heap.size+2) 3 1 u L.length (itv L))∧Hid (Below w.heap.size w wr)∧Hid (Blk wr w.heap.size 41 #[.slice A n c])∧Hid (Blk wr (w.heap.size+1) 33 #[.int .i64 t,.slice F fn fc])) (fun _ i _=>n - (intOf i).toNat)
 case atStart=>exact ⟨_,0,[],rfl,Nat.zero_le _,rfl,.inl rfl,zG _,zh rfl,zh (World.ownsRow_nil _ _ _ _),HB,HX,HE⟩
 case round =>
  obtain ⟨u,k,L,rfl,hk,rfl,hkc,hLk,hLe,hO,hB,hX,hE⟩:=hrel
  have hbw:=hB.out
  have hsw:=hbw.size
  have q0:=hX.out.cell 0
  have e0:=hE.out.cell 0
  have e1:=hE.out.cell 1
  simp only [zA,zB,zC] at q0 e0 e1
  by_cases hlt:k<n
  ·have hkl:k<O.length:=by omega
   have hki:(k:Int)<(n:Int):=by omega
   have hki0:(0:Int)≤(k:Int):=by omega
   have CK1:=zh (CK.out wr hbw)
   by_cases hck:cc=0
   ·subst hck
    obtain ⟨tb,tq,rfl,htb,d0,d1,d2,d3,d4,d5⟩:=(H.out.below hbw).at_ hkl
    have hqs:=(H.out.below hbw).qs _ (List.getElem_mem hkl)
    have hqat:QAt wr wr.heap.size O[k].1.2.q [.int .i64 O[k].1.2.q.kind,.string O[k].1.2.q.name,.slice O[k].2.1.1 O[k].2.1.2.1 O[k].2.1.2.2,.slice O[k].2.2.1 O[k].2.2.2.1 O[k].2.2.2.2]:=hqs.at_ (fun b hb=>hb.lt)
    have hko:=HOK.out _ (List.getElem_mem hkl)
    have CQ:Hid (∀ wx,Below wr.heap.size wr wx→Calls Tryz.prog 47 #[.agg #[.int .i64 O[k].1.2.q.kind,.string O[k].1.2.q.name,.slice O[k].2.1.1 O[k].2.1.2.1 O[k].2.1.2.2,.slice O[k].2.2.1 O[k].2.2.2.1 O[k].2.2.2.2],.agg #[.int .i64 t,.slice F fn fc]] wx fun e w'=>e=.returned (.bool ((fun x:Int × Kp=>nearB (hasT fs) x.2) O[k].1))∧Below wx.heap.size wx w'):=zh (fun wx hb=>by
     have hfl:=flgrow HF.out (hbw.trans (hb.mono hsw))
     exact (by have e:nearB (hasT fs) O[k].1.2=(needs O[k].1.2.q).all (hasT fs):=(by unfold nearB; rw [hko.nd]); show Calls _ _ _ _ (fun e w'=>e=.returned (.bool (nearB (hasT fs) O[k].1.2))∧_); rw [e]; exact rnear_any O[k].1.2.q _ _ _ _ _ _ _ _ t F fn fc fs wx hko.q (hqat.grow hb) hfl HCC.out))
    have HTS:Hid (((O.take (k+1)).filter (fun y=>(fun x:Int × Kp=>nearB (hasT fs) x.2) y.1)).map (fun x=>x.1.1)=((O.take k).filter (fun y=>(fun x:Int × Kp=>nearB (hasT fs) x.2) y.1)).map (fun x=>x.1.1) ++ if (fun x:Int × Kp=>nearB (hasT fs) x.2) O[k].1=true then [O[k].1.1] else []):=zh (by
     rw [List.take_succ_eq_append_getElem hkl,List.filter_append,List.map_append]
     congr 1
     exact filt_one (fun y:Rk=>(fun x:Int × Kp=>nearB (hasT fs) x.2) y.1) (fun x:Rk=>x.1.1) O[k])
    have Hc5:Hid (∀ wx,Below wr.heap.size wr wx→wx.cell? ⟨w.heap.size,0,none⟩=some (.slice (some ⟨tb,tq,none⟩) n c)∧wx.cell? ⟨w.heap.size+1,0,none⟩=some (.int .i64 t)∧wx.cell? ⟨w.heap.size+1,1,none⟩=some (.slice F fn fc)∧wx.cell? ⟨tb,tq+k * 6,none⟩=some (.int .i64 O[k].1.1)∧wx.cell? ⟨tb,tq+k * 6+2,none⟩=some (.int .i64 O[k].1.2.q.kind) ∧
      wx.cell? ⟨tb,tq+k * 6+3,none⟩=some (.string O[k].1.2.q.name)∧wx.cell? ⟨tb,tq+k * 6+4,none⟩=some (.slice O[k].2.1.1 O[k].2.1.2.1 O[k].2.1.2.2)∧wx.cell? ⟨tb,tq+k * 6+5,none⟩=some (.slice O[k].2.2.1 O[k].2.2.2.1 O[k].2.2.2.2)):=zh (fun wx hb =>
     ⟨(hb.cell (p:=⟨w.heap.size,0,none⟩) hX.out.lt).trans q0,(hb.cell (p:=⟨w.heap.size+1,0,none⟩) hE.out.lt).trans e0,(hb.cell (p:=⟨w.heap.size+1,1,none⟩) hE.out.lt).trans e1,(hb.cell (p:=⟨tb,tq+k * 6,none⟩) htb).trans d0,
      (hb.cell (p:=⟨tb,tq+k * 6+2,none⟩) htb).trans d2,(hb.cell (p:=⟨tb,tq+k * 6+3,none⟩) htb).trans d3,(hb.cell (p:=⟨tb,tq+k * 6+4,none⟩) htb).trans d4,(hb.cell (p:=⟨tb,tq+k * 6+5,none⟩) htb).trans d5⟩)
    clear hbw hqs hqat hko d0 d1 d2 d3 d4 d5
    generalize O[k].2.1.1=s1 at *
    generalize O[k].2.1.2.1=s2 at *
    generalize O[k].2.1.2.2=s3 at *
    generalize O[k].2.2.1=s4 at *
    generalize O[k].2.2.2.1=s5 at *
    generalize O[k].2.2.2.2=s6 at *
    generalize (fun x:Int × Kp=>nearB (hasT fs) x.2) O[k].1=pb at *
    generalize O[k].1.2.q.kind=qk at *
    generalize O[k].1.2.q.name=qn at *
    generalize O[k].1.1=xi at *
    go_upto_region 5 with (first
     | (go_at_call 22; refine CK1.out.mono ?_; rintro e w2 ⟨rfl,hb2⟩)
     | go_in)
    have HB2:=zh hb2
    have Hc6:Hid (∀ wx,Below w2.heap.size w2 wx→_):=zh (fun wx hb=>Hc5.out wx (HB2.out.trans (hb.mono HB2.out.size)))
    have CQ2:Hid (∀ wx,Below w2.heap.size w2 wx→_):=zh (fun wx hb=>CQ.out wx (HB2.out.trans (hb.mono HB2.out.size)))
    clear hb2 CK1 CQ Hc5 q0 e0 e1
    refine wp_region_grow (specOf [(7,⟨Unit,fun _=>.bool pb,fun _ _=>True⟩)]) (fun wx=>Below (World.heap w2).size w2 wx) (fun w1 w2=>Below w1.heap.size w1 w2) (by kernel_rfl) (by kernel_rfl) (stab_cons (fun x wa wb hg h=>trivial) (stab_nil)) (Below.refl _ _).drew ?_
    iterate 7
     refine grow_fix _ ?_ rfl (by rfl) (by rfl) (fun wx hC hD=>?_) ?_
     rotate_left
     ·have hSw:=Hc6.out wx hC
      go_simp
      all_goals with_reducible rfl
     try simp only [Act.put,zD,zE,zF]
    refine grow_give 8 _ rfl (by rfl) (by rfl) (fun wx hC hD=>?_) (fun x=>?_)
    ·refine give_enter (f:=?_) (args:=?_) ?_ ?_
     rotate_left 2
     ·have hSw:=Hc6.out wx hC
      go_simp
      all_goals first | with_reducible rfl | (refine ⟨?_,?_⟩ <;> with_reducible rfl)
     refine (CQ2.out wx hC).mono ?_
     rintro e w9 ⟨rfl,hb9⟩
     exact ⟨_,rfl,hb9,hC.trans (hb9.mono hC.size),(),rfl,trivial⟩
    obtain ⟨⟩:=x
    try simp only [Act.put,zD,zE,zF]
    refine grow_nil (fun w5 hC hF=>?_)
    have HB3:=zh (HB2.out.trans (hC.mono HB2.out.size))
    have HB4:=zh (hB.out.trans (HB3.out.mono hsw))
    have HO4:=zh (own_keep hO.out HB3.out)
    have HX4:=zh (hX.out.below HB3.out hX.out.lt)
    have HE4:=zh (hE.out.below HB3.out hE.out.lt)
    have hs4:=HB4.out.size
    obtain ⟨y0,_,_,y3,_⟩:=Hc6.out w5 hC
    clear hF hC CQ2 Hc6 hB hO hX hE
    cases pb with
    | false =>
     have HLE:Hid (L=((O.take (k+1)).filter (fun y=>(fun x:Int × Kp=>nearB (hasT fs) x.2) y.1)).map (fun x=>x.1.1)):=zh (by rw [HTS.out,hLe.out]; simp)
     go_wp2_with fail
     go_roundw
     case rel=>exact ⟨_,k+1,L,rfl,by omega,by go_num,(by first | exact .inr rfl | exact .inr trivial),by omega,HLE,HO4,HB4,HX4,HE4⟩
     case measure=>simp [intOf]; omega
    | true =>
     have HLE:Hid (L ++ [xi]=((O.take (k+1)).filter (fun y=>(fun x:Int × Kp=>nearB (hasT fs) x.2) y.1)).map (fun x=>x.1.1)):=zh (by rw [HTS.out,hLe.out]; simp)
     have HIT:Hid (itv (L ++ [xi])=itv L ++ [.int .i64 xi]∧(L ++ [xi]).length=L.length+1):=zh ⟨by simp [itv],by simp⟩
     clear HTS hLe
     generalize hzl:itv L=zs at *
     clear hzl
     have hxl:=HX4.out.lt
     have hel:=HE4.out.lt
     go_wp2_with (first
      | (at_builtin; refine wpList_append_own_at _ rfl _ _ 38 rfl (w.heap.size+2) 3 i0 _ 1 8 Tryz.underlying38 hi0 hz0 hz1 hz2 rfl (by decide) _ L.length zs rfl (HO4.out.alloc _) ⟨w5.heap.size,0,none⟩ 1 1 [.int .i64 xi] rfl rfl (World.news_of_block (cs:=#[.int .i64 xi]) (t:=3) (fr:=(0,0)) (heap_alloc_new w5 _)) (by simp [Value.oneCell']) ?k1 ?k2 ?k3 ?_)
      | go_in)
     case k1=>unfold maxLen; omega
     case k2=>omega
     try (case k3=>first | omega | (rw [World.size_alloc]; omega))
     intro v4 w6 ho4 hg4 _ _
     have HO6:Hid (w6.ownsRow (w.heap.size+2) 3 1 v4 (L ++ [xi]).length (itv (L ++ [xi]))):=zh (by rw [HIT.out.1,HIT.out.2]; exact ho4)
     have HB6:=zh ((HB4.out.alloc hs4 (.cells #[.int .i64 xi] 3)).grown hg4 (by rw [World.size_alloc]; omega) (fun j hj=>by have:=(HO4.out.lt j hj).1; omega))
     have HX6:=zh ((HX4.out.alloc (.cells #[.int .i64 xi] 3)).grown hg4 (fun e=>by have:=(HO4.out.lt _ e.symm).1; omega))
     have HE6:=zh ((HE4.out.alloc (.cells #[.int .i64 xi] 3)).grown hg4 (fun e=>by have:=(HO4.out.lt _ e.symm).1; omega))
     have hl1:=HIT.out.2
     clear ho4 hg4
     go_wp2_with fail
     go_roundw
     case rel=>exact ⟨_,k+1,L ++ [xi],rfl,by omega,by go_num,(by first | exact .inr rfl | exact .inr trivial),by omega,HLE,HO6,HB6,HX6,HE6⟩
     case measure=>simp [intOf]; omega
   ·have hk0:k=0:=by
     rcases hkc with h | h
     ·exact h
     ·exact absurd h hck
    have hcb:(cc == 0)=false:=beq_eq_false_iff_ne.2 hck
    have hrr:RR=[]:=by rw [← HRR.out,HCC.out,if_neg hck]
    have hL0:L=[]:=by
     subst hk0
     exact List.length_eq_zero_iff.1 (by omega)
    go_wp2_with (first
     | (go_at_call 22; refine CK1.out.mono ?_; rintro e w2 ⟨rfl,hb2⟩)
     | go_in)
    have FIN:Hid (NumsP w RR (.returned u) w2):=zh ⟨u,rfl,by rw [hrr,← hL0]; exact own_mono (own_keep hO.out hb2) (by omega),hB.out.trans (hb2.mono hsw)⟩
    clear hb2 CK1
    go_wp2
    go_ret
    exact FIN.out
  ·obtain rfl:k=n:=by omega
   have hrr:L=RR:=by
    rw [← HRR.out,HCC.out]
    rcases hkc with h | h
    ·have h1:L=[]:=List.length_eq_zero_iff.1 (by omega)
     have h2:O=[]:=List.length_eq_zero_iff.1 (by omega)
     rw [h1]
     split
     ·rw [HL.out,h2]; rfl
     ·rfl
    ·rw [if_pos h,HL.out,hLe.out,← hln,List.take_length]
   have FIN:Hid (NumsP w RR (.returned u) wr):=zh ⟨u,rfl,by rw [← hrr]; exact own_mono hO.out (by omega),hB.out⟩
   clear hO
   go_wp2
   go_ret
   exact FIN.out
end Go.Proofs.YtlfpfkallgkjdaaGreat.Al
end

section
namespace Go.Proofs.YtlfpfkallgkjdaaGreat.Al
open Go.RowKit Go.Maps Ut Tk Qy Qp Ev Mv
set_option maxHeartbeats 6400000 in
theorem rask_any (A:Option Addr) (n c:Nat) (O:List Rk) (l:List (Int × Kp)) (t:Int) (F:Option Addr) (fn fc:Nat) (fs:List Fl) (w:World) (h:RAt w A n c O) (hl:RIs O l) (hok:∀ x∈l,KOk x.2) (hn:n≤1000) (hF:FlAt w w.heap.size F fn fc fs) :
  Calls Tryz.prog 20 #[.agg #[.slice A n c],.agg #[.int .i64 t,.slice F fn fc]] w (NumsP w (if chkE fs=0 then (l.filter (fun x=>matchB fs x.2.q)).map (·.1) else [])):=by
 obtain ⟨i0,hi0,hz0,hz1,hz2⟩:=info_parts int_info
 have hb1:Below w.heap.size w (w.alloc (.cells #[.slice A n c] 41)):=(Below.refl _ _).alloc (zG _) _
 have hb2:Below (w.alloc (.cells #[.slice A n c] 41)).heap.size (w.alloc (.cells #[.slice A n c] 41)) ((w.alloc (.cells #[.slice A n c] 41)).alloc (.cells #[.int .i64 t,.slice F fn fc] 33)):=(Below.refl _ _).alloc (zG _) _
 have hx1:=(Blk.new w 41 #[.slice A n c]).below hb2 (by simp)
 have hx2:=Blk.new (w.alloc (.cells #[.slice A n c] 41)) 33 #[.int .i64 t,.slice F fn fc]
 have hsz:(w.alloc (.cells #[.slice A n c] 41)).heap.size=w.heap.size+1:=by simp
 rw [hsz] at hx2
 have hb:=hb1.trans (hb2.mono (by omega))
 have HX:=zh hx1
 have HE:=zh hx2
 have HB:=zh hb
 have H:=zh h
 have HF:=zh hF
 have hln:=h.ln
 have hsw2:w.heap.size+2≤((w.alloc (.cells #[.slice A n c] 41)).alloc (.cells #[.int .i64 t,.slice F fn fc] 33)).heap.size:=by simp
 have HOK:Hid (∀ x∈O,KOk x.1.2):=zh (fun x hx=>by
  have e:O.map (·.1)=l:=hl
  exact hok x.1 (by rw [← e]; exact List.mem_map.2 ⟨x,hx,rfl⟩))
 have HL:Hid ((l.filter (fun x=>matchB fs x.2.q)).map (·.1)=(O.filter (fun y=>(fun x:Int × Kp=>matchB fs x.2.q) y.1)).map (fun x=>x.1.1)):=zh (by
  rw [← show O.map (·.1)=l from hl,List.filter_map,List.map_map]; rfl)
 clear h hl hb1 hb2 hx1 hx2 hb hsz hok hF
 obtain ⟨RR,hRR⟩:∃ RR,(if chkE fs=0 then (l.filter (fun x=>matchB fs x.2.q)).map (·.1) else [])=RR:=⟨_,rfl⟩
 rw [hRR]
 have HRR:=zh hRR
 clear hRR
 have CK:Hid (∀ wx,Below w.heap.size w wx→Calls Tryz.prog 22 #[.agg #[.int .i64 t,.slice F fn fc]] wx fun e w'=>e=.returned (.int .i64 (chkE fs))∧Below wx.heap.size wx w'):=zh (fun wx hb=>rcheck_any t F fn fc fs wx (flgrow HF.out hb))
 obtain ⟨cc,hcc⟩:∃ cc,chkE fs=cc:=⟨_,rfl⟩
 rw [hcc] at CK
 have HCC:=zh hcc
 clear hcc
 go_enter Tryz.func20,Tryz.ntmps20
 go_upto_region 1 with (fail)
 generalize ((w.alloc (.cells #[.slice A n c] 41)).alloc (.cells #[.int .i64 t,.slice F fn fc] 33))=w1 at *
 go_wp2_with fail
 go_loopw [5,6] (fun v i wr=>∃ (u:Value) (k:Nat) (L:List Int),u=v∧k≤n∧i=.int .i64 k∧(k=0∨cc=0)∧L.length≤k∧Hid (L=((O.take k).filter (fun y=>(fun x:Int × Kp=>matchB fs x.2.q) y.1)).map (fun x=>x.1.1))∧Hid (wr.ownsRow (w.heap.size+2) 3 1 u L.length (itv L))∧Hid (Below w.heap.size w wr)∧Hid (Blk wr w.heap.size 41 #[.slice A n c])∧Hid (Blk wr (w.heap.size+1) 33 #[.int .i64 t,.slice F fn fc])) (fun _ i _=>n - (intOf i).toNat)
 case atStart=>exact ⟨_,0,[],rfl,Nat.zero_le _,rfl,.inl rfl,zG _,zh rfl,zh (World.ownsRow_nil _ _ _ _),HB,HX,HE⟩
 case round =>
  obtain ⟨u,k,L,rfl,hk,rfl,hkc,hLk,hLe,hO,hB,hX,hE⟩:=hrel
  have hbw:=hB.out
  have hsw:=hbw.size
  have q0:=hX.out.cell 0
  have e0:=hE.out.cell 0
  have e1:=hE.out.cell 1
  simp only [zA,zB,zC] at q0 e0 e1
  by_cases hlt:k<n
  ·have hkl:k<O.length:=by omega
   have hki:(k:Int)<(n:Int):=by omega
   have hki0:(0:Int)≤(k:Int):=by omega
   have CK1:=zh (CK.out wr hbw)
   by_cases hck:cc=0
   ·subst hck
    obtain ⟨tb,tq,rfl,htb,d0,d1,d2,d3,d4,d5⟩:=(H.out.below hbw).at_ hkl
    have hqs:=(H.out.below hbw).qs _ (List.getElem_mem hkl)
    have hqat:QAt wr wr.heap.size O[k].1.2.q [.int .i64 O[k].1.2.q.kind,.string O[k].1.2.q.name,.slice O[k].2.1.1 O[k].2.1.2.1 O[k].2.1.2.2,.slice O[k].2.2.1 O[k].2.2.2.1 O[k].2.2.2.2]:=hqs.at_ (fun b hb=>hb.lt)
    have hko:=HOK.out _ (List.getElem_mem hkl)
    have CQ:Hid (∀ wx,Below wr.heap.size wr wx→Calls Tryz.prog 23 #[.agg #[.int .i64 O[k].1.2.q.kind,.string O[k].1.2.q.name,.slice O[k].2.1.1 O[k].2.1.2.1 O[k].2.1.2.2,.slice O[k].2.2.1 O[k].2.2.2.1 O[k].2.2.2.2],.agg #[.int .i64 t,.slice F fn fc]] wx fun e w'=>e=.returned (.bool ((fun x:Int × Kp=>matchB fs x.2.q) O[k].1))∧Below wx.heap.size wx w'):=zh (fun wx hb=>by
     have hfl:=flgrow HF.out (hbw.trans (hb.mono hsw))
     exact (rmatch_any fs O[k].1.2.q hko.q.sz wx _ _ _ _ t F fn fc (hqat.grow hb) (flEvt hfl HCC.out)))
    have HTS:Hid (((O.take (k+1)).filter (fun y=>(fun x:Int × Kp=>matchB fs x.2.q) y.1)).map (fun x=>x.1.1)=((O.take k).filter (fun y=>(fun x:Int × Kp=>matchB fs x.2.q) y.1)).map (fun x=>x.1.1) ++ if (fun x:Int × Kp=>matchB fs x.2.q) O[k].1=true then [O[k].1.1] else []):=zh (by
     rw [List.take_succ_eq_append_getElem hkl,List.filter_append,List.map_append]
     congr 1
     exact filt_one (fun y:Rk=>(fun x:Int × Kp=>matchB fs x.2.q) y.1) (fun x:Rk=>x.1.1) O[k])
    have Hc5:Hid (∀ wx,Below wr.heap.size wr wx→wx.cell? ⟨w.heap.size,0,none⟩=some (.slice (some ⟨tb,tq,none⟩) n c)∧wx.cell? ⟨w.heap.size+1,0,none⟩=some (.int .i64 t)∧wx.cell? ⟨w.heap.size+1,1,none⟩=some (.slice F fn fc)∧wx.cell? ⟨tb,tq+k * 6,none⟩=some (.int .i64 O[k].1.1)∧wx.cell? ⟨tb,tq+k * 6+2,none⟩=some (.int .i64 O[k].1.2.q.kind) ∧
      wx.cell? ⟨tb,tq+k * 6+3,none⟩=some (.string O[k].1.2.q.name)∧wx.cell? ⟨tb,tq+k * 6+4,none⟩=some (.slice O[k].2.1.1 O[k].2.1.2.1 O[k].2.1.2.2)∧wx.cell? ⟨tb,tq+k * 6+5,none⟩=some (.slice O[k].2.2.1 O[k].2.2.2.1 O[k].2.2.2.2)):=zh (fun wx hb =>
     ⟨(hb.cell (p:=⟨w.heap.size,0,none⟩) hX.out.lt).trans q0,(hb.cell (p:=⟨w.heap.size+1,0,none⟩) hE.out.lt).trans e0,(hb.cell (p:=⟨w.heap.size+1,1,none⟩) hE.out.lt).trans e1,(hb.cell (p:=⟨tb,tq+k * 6,none⟩) htb).trans d0,
      (hb.cell (p:=⟨tb,tq+k * 6+2,none⟩) htb).trans d2,(hb.cell (p:=⟨tb,tq+k * 6+3,none⟩) htb).trans d3,(hb.cell (p:=⟨tb,tq+k * 6+4,none⟩) htb).trans d4,(hb.cell (p:=⟨tb,tq+k * 6+5,none⟩) htb).trans d5⟩)
    clear hbw hqs hqat hko d0 d1 d2 d3 d4 d5
    generalize O[k].2.1.1=s1 at *
    generalize O[k].2.1.2.1=s2 at *
    generalize O[k].2.1.2.2=s3 at *
    generalize O[k].2.2.1=s4 at *
    generalize O[k].2.2.2.1=s5 at *
    generalize O[k].2.2.2.2=s6 at *
    generalize (fun x:Int × Kp=>matchB fs x.2.q) O[k].1=pb at *
    generalize O[k].1.2.q.kind=qk at *
    generalize O[k].1.2.q.name=qn at *
    generalize O[k].1.1=xi at *
    go_upto_region 5 with (first
     | (go_at_call 22; refine CK1.out.mono ?_; rintro e w2 ⟨rfl,hb2⟩)
     | go_in)
    have HB2:=zh hb2
    have Hc6:Hid (∀ wx,Below w2.heap.size w2 wx→_):=zh (fun wx hb=>Hc5.out wx (HB2.out.trans (hb.mono HB2.out.size)))
    have CQ2:Hid (∀ wx,Below w2.heap.size w2 wx→_):=zh (fun wx hb=>CQ.out wx (HB2.out.trans (hb.mono HB2.out.size)))
    clear hb2 CK1 CQ Hc5 q0 e0 e1
    refine wp_region_grow (specOf [(7,⟨Unit,fun _=>.bool pb,fun _ _=>True⟩)]) (fun wx=>Below (World.heap w2).size w2 wx) (fun w1 w2=>Below w1.heap.size w1 w2) (by kernel_rfl) (by kernel_rfl) (stab_cons (fun x wa wb hg h=>trivial) (stab_nil)) (Below.refl _ _).drew ?_
    iterate 7
     refine grow_fix _ ?_ rfl (by rfl) (by rfl) (fun wx hC hD=>?_) ?_
     rotate_left
     ·have hSw:=Hc6.out wx hC
      go_simp
      all_goals with_reducible rfl
     try simp only [Act.put,zD,zE,zF]
    refine grow_give 8 _ rfl (by rfl) (by rfl) (fun wx hC hD=>?_) (fun x=>?_)
    ·refine give_enter (f:=?_) (args:=?_) ?_ ?_
     rotate_left 2
     ·have hSw:=Hc6.out wx hC
      go_simp
      all_goals first | with_reducible rfl | (refine ⟨?_,?_⟩ <;> with_reducible rfl)
     refine (CQ2.out wx hC).mono ?_
     rintro e w9 ⟨rfl,hb9⟩
     exact ⟨_,rfl,hb9,hC.trans (hb9.mono hC.size),(),rfl,trivial⟩
    obtain ⟨⟩:=x
    try simp only [Act.put,zD,zE,zF]
    refine grow_nil (fun w5 hC hF=>?_)
    have HB3:=zh (HB2.out.trans (hC.mono HB2.out.size))
    have HB4:=zh (hB.out.trans (HB3.out.mono hsw))
    have HO4:=zh (own_keep hO.out HB3.out)
    have HX4:=zh (hX.out.below HB3.out hX.out.lt)
    have HE4:=zh (hE.out.below HB3.out hE.out.lt)
    have hs4:=HB4.out.size
    obtain ⟨y0,_,_,y3,_⟩:=Hc6.out w5 hC
    clear hF hC CQ2 Hc6 hB hO hX hE
    cases pb with
    | false =>
     have HLE:Hid (L=((O.take (k+1)).filter (fun y=>(fun x:Int × Kp=>matchB fs x.2.q) y.1)).map (fun x=>x.1.1)):=zh (by rw [HTS.out,hLe.out]; simp)
     go_wp2_with fail
     go_roundw
     case rel=>exact ⟨_,k+1,L,rfl,by omega,by go_num,(by first | exact .inr rfl | exact .inr trivial),by omega,HLE,HO4,HB4,HX4,HE4⟩
     case measure=>simp [intOf]; omega
    | true =>
     have HLE:Hid (L ++ [xi]=((O.take (k+1)).filter (fun y=>(fun x:Int × Kp=>matchB fs x.2.q) y.1)).map (fun x=>x.1.1)):=zh (by rw [HTS.out,hLe.out]; simp)
     have HIT:Hid (itv (L ++ [xi])=itv L ++ [.int .i64 xi]∧(L ++ [xi]).length=L.length+1):=zh ⟨by simp [itv],by simp⟩
     clear HTS hLe
     generalize hzl:itv L=zs at *
     clear hzl
     have hxl:=HX4.out.lt
     have hel:=HE4.out.lt
     go_wp2_with (first
      | (at_builtin; refine wpList_append_own_at _ rfl _ _ 38 rfl (w.heap.size+2) 3 i0 _ 1 8 Tryz.underlying38 hi0 hz0 hz1 hz2 rfl (by decide) _ L.length zs rfl (HO4.out.alloc _) ⟨w5.heap.size,0,none⟩ 1 1 [.int .i64 xi] rfl rfl (World.news_of_block (cs:=#[.int .i64 xi]) (t:=3) (fr:=(0,0)) (heap_alloc_new w5 _)) (by simp [Value.oneCell']) ?k1 ?k2 ?k3 ?_)
      | go_in)
     case k1=>unfold maxLen; omega
     case k2=>omega
     try (case k3=>first | omega | (rw [World.size_alloc]; omega))
     intro v4 w6 ho4 hg4 _ _
     have HO6:Hid (w6.ownsRow (w.heap.size+2) 3 1 v4 (L ++ [xi]).length (itv (L ++ [xi]))):=zh (by rw [HIT.out.1,HIT.out.2]; exact ho4)
     have HB6:=zh ((HB4.out.alloc hs4 (.cells #[.int .i64 xi] 3)).grown hg4 (by rw [World.size_alloc]; omega) (fun j hj=>by have:=(HO4.out.lt j hj).1; omega))
     have HX6:=zh ((HX4.out.alloc (.cells #[.int .i64 xi] 3)).grown hg4 (fun e=>by have:=(HO4.out.lt _ e.symm).1; omega))
     have HE6:=zh ((HE4.out.alloc (.cells #[.int .i64 xi] 3)).grown hg4 (fun e=>by have:=(HO4.out.lt _ e.symm).1; omega))
     have hl1:=HIT.out.2
     clear ho4 hg4
     go_wp2_with fail
     go_roundw
     case rel=>exact ⟨_,k+1,L ++ [xi],rfl,by omega,by go_num,(by first | exact .inr rfl | exact .inr trivial),by omega,HLE,HO6,HB6,HX6,HE6⟩
     case measure=>simp [intOf]; omega
   ·have hk0:k=0:=by
     rcases hkc with h | h
     ·exact h
     ·exact absurd h hck
    have hcb:(cc == 0)=false:=beq_eq_false_iff_ne.2 hck
    have hrr:RR=[]:=by rw [← HRR.out,HCC.out,if_neg hck]
    have hL0:L=[]:=by
     subst hk0
     exact List.length_eq_zero_iff.1 (by omega)
    go_wp2_with (first
     | (go_at_call 22; refine CK1.out.mono ?_; rintro e w2 ⟨rfl,hb2⟩)
     | go_in)
    have FIN:Hid (NumsP w RR (.returned u) w2):=zh ⟨u,rfl,by rw [hrr,← hL0]; exact own_mono (own_keep hO.out hb2) (by omega),hB.out.trans (hb2.mono hsw)⟩
    clear hb2 CK1
    go_wp2
    go_ret
    exact FIN.out
  ·obtain rfl:k=n:=by omega
   have hrr:L=RR:=by
    rw [← HRR.out,HCC.out]
    rcases hkc with h | h
    ·have h1:L=[]:=List.length_eq_zero_iff.1 (by omega)
     have h2:O=[]:=List.length_eq_zero_iff.1 (by omega)
     rw [h1]
     split
     ·rw [HL.out,h2]; rfl
     ·rfl
    ·rw [if_pos h,HL.out,hLe.out,← hln,List.take_length]
   have FIN:Hid (NumsP w RR (.returned u) wr):=zh ⟨u,rfl,by rw [← hrr]; exact own_mono hO.out (by omega),hB.out⟩
   clear hO
   go_wp2
   go_ret
   exact FIN.out
end Go.Proofs.YtlfpfkallgkjdaaGreat.Al
end
