/- match.Needs: the walk. -/
import Derived.Laws.EntriesVeiled
import Derived.Test.YtlfpfkallgkjdaaGreatQAlertRunsRow1
import Derived.Test.YtlfpfkallgkjdaaGreatQAlertRunsRow27
import Derived.Test.YtlfpfkallgkjdaaGreatQAlertRunsRow22
import Derived.Test.YtlfpfkallgkjdaaGreatQAlertRunsRow29
import Derived.Test.YtlfpfkallgkjdaaGreatQAlertRunsRow0
set_option linter.unusedSimpArgs false
set_option linter.unusedVariables false
set_option maxRecDepth 20000
section
namespace Go.Proofs.YtlfpfkallgkjdaaGreat.Qy
open Go.RowKit Ut Tk
inductive QTx (b:Nat):Q→Prop where
 | mk {k:Int} {nm:ByteArray} {ws:List ByteArray} {l:List Q} (h1:nm.size≤b) (h2:∀ x∈ws,x.size≤b) (h3:∀ x∈l,QTx b x):QTx b (.mk k nm ws l)
def BsPost (w:World) (l:List ByteArray) (e:Ending) (w':World):Prop:=∃ v,e=.returned v∧w'.ownsRow w.heap.size 9 1 v l.length (bsv l)∧Below w.heap.size w w'
def NeedOk (q:Q):Prop:=∀ (w:World) (a0 a1 a2 a3:Value),QAt w w.heap.size q [a0,a1,a2,a3]→wq q≤1048576 →
 Calls Tryz.prog 36 #[.agg #[a0,a1,a2,a3]] w (BsPost w (needs q))
theorem cloneS_any (s:ByteArray) (w:World) (hs:s.size≤281474976710656):Calls Tryz.prog 70 #[.string s] w fun e w'=>e=.returned (.string s)∧Below w.heap.size w w':=by
 have c1:=Tryz.stringslite_Clone s w hs
 go_enter Tryz.func70,Tryz.ntmps70
 go_wp2_with (go_at_call 106; refine c1.mono ?_; rintro e w2 ⟨rfl,hb2⟩)
 go_ret
 exact ⟨rfl,hb2⟩
theorem mo_one {w:World} {g:Nat} {v:Value} {l:List ByteArray} (h:Nd w g v l) (t:ByteArray):Mo (w.alloc (.cells #[.string t] 9)) g v (some ⟨w.heap.size,0,none⟩) [t]:=by
 refine ⟨fun _=>⟨_,0,rfl,by simp,by have:=h.box.lt; omega,fun e=>by have:=(h.own.lt _ e).2; omega,fun j hj=>?_⟩⟩
 obtain rfl:j=0:=by simp at hj; omega
 exact (Blk.new w 9 #[.string t]).cell 0
theorem mo_made {w w':World} {g:Nat} {v u:Value} {l ts:List ByteArray} (h:Nd w g v l) (hr:w'.ownsRow w.heap.size 9 1 u ts.length (bsv ts)):∃ A c,u=.slice A ts.length c∧Mo w' g v A ts:=by
 obtain ⟨A,c,rfl,_⟩:=own_shape hr
 refine ⟨A,c,rfl,⟨fun hp=>?_⟩⟩
 obtain ⟨m,hm⟩:∃ m,ts.length=m+1:=⟨ts.length - 1,by omega⟩
 have hr':=hr
 rw [hm] at hr'
 obtain ⟨gs,q,e⟩:=own_succ hr'
 injection e with e
 subst e
 have hl:=hr.lt gs rfl
 refine ⟨gs,0,rfl,hl.2,by have:=h.box.lt; omega,fun e=>by have:=(h.own.lt _ e).2; omega,fun j hj=>?_⟩
 have h1:=hr.cells (g:=gs) rfl j (.string ts[j]) (by unfold bsv; rw [List.getElem?_map,List.getElem?_eq_getElem hj]; rfl)
 have hadd:(⟨gs,0,none⟩:Addr).add j=⟨gs,0+j,none⟩:=by unfold Addr.add; split <;> simp_all
 rw [hadd] at h1
 exact h1
set_option maxHeartbeats 3200000 in
theorem needs_step (k:Int) (nm:ByteArray) (ws:List ByteArray) (l:List Q) (htx:QTx 140737488351232 (.mk k nm ws l)) (ih:∀ x∈l,NeedOk x):NeedOk (.mk k nm ws l):=by
 intro w a0 a1 a2 a3 hQ hwq
 obtain ⟨WA,m,wc,CA,n,c2,e,_⟩:=hQ.is
 simp only [List.cons.injEq,and_true] at e
 obtain ⟨rfl,rfl,rfl,rfl⟩:=e
 have hb1:Below w.heap.size w (w.alloc (.cells #[.int .i64 k,.string nm,.slice WA m wc,.slice CA n c2] 52)):=(Below.refl _ _).alloc (zG _) _
 have hb2:Below w.heap.size w ((w.alloc (.cells #[.int .i64 k,.string nm,.slice WA m wc,.slice CA n c2] 52)).alloc (.cells #[.slice none 0 0] 49)):=hb1.alloc hb1.size _
 have z1:(w.alloc (.cells #[.int .i64 k,.string nm,.slice WA m wc,.slice CA n c2] 52)).heap.size=w.heap.size+1:=by simp
 have hB1:=(Blk.new w 52 #[.int .i64 k,.string nm,.slice WA m wc,.slice CA n c2]).alloc (.cells #[.slice none 0 0] 49)
 have hB2:=Blk.new (w.alloc (.cells #[.int .i64 k,.string nm,.slice WA m wc,.slice CA n c2] 52)) 49 #[.slice none 0 0]
 rw [z1] at hB2
 have hQ2:=hQ.lower hb2
 obtain ⟨WA',m',wc',CA',n',c2',e,hI⟩:=hQ2.is
 simp only [List.cons.injEq,Value.slice.injEq,and_true,true_and] at e
 obtain ⟨⟨rfl,rfl,rfl⟩,rfl,rfl,rfl⟩:=e
 have hN2:Nd ((w.alloc (.cells #[.int .i64 k,.string nm,.slice WA m wc,.slice CA n c2] 52)).alloc (.cells #[.slice none 0 0] 49)) (w.heap.size+1) (.slice none 0 0) []:=⟨hB2,World.ownsRow_nil _ _ _ _⟩
 have hz2:((w.alloc (.cells #[.int .i64 k,.string nm,.slice WA m wc,.slice CA n c2] 52)).alloc (.cells #[.slice none 0 0] 49)).heap.size=w.heap.size+1+1:=by simp
 rw [wq_eq] at hwq
 have hwl:=wqs_pos l
 cases htx with
 | mk t1 t2 t3 =>
 have HB1:=zh hB1
 have Hb2:=zh hb2
 have HI:=zh hI
 have HN2:=zh hN2
 have T2:=zh t2
 have IH:=zh ih
 have close:∀ (l':List ByteArray) (v:Value) (w':World),Nd w' (w.heap.size+1) v l'→Below (w.heap.size+1) ((w.alloc (.cells #[.int .i64 k,.string nm,.slice WA m wc,.slice CA n c2] 52)).alloc (.cells #[.slice none 0 0] 49)) w'→BsPost w l' (.returned v) w':=fun l' v w' h hb =>
  ⟨v,rfl,h.own.mono (by omega),Hb2.out.trans (hb.mono (by omega))⟩
 have Close:=zh close
 clear hQ hb1 hb2 z1 hB1 hB2 hQ2 hI hN2 t2 t3 ih close
 have hbx:=fun (w':World) (v:Value) (l':List ByteArray) (h:Nd w' (w.heap.size+1) v l')=>h.box.cell 0
 by_cases k24:k=4∨(k=2∧ws.length=1)
 ·have Fin:Hid (needs (.mk k nm ws l)=addL [] (termsL nm ws)):=zh (by rw [needs_eq,if_pos k24])
  rw [Fin.out]
  clear hbx Fin
  rcases k24 with rfl | ⟨rfl,h1⟩
  ·have hkk:(0:Nat)=0:=rfl
   go_enter Tryz.func36,Tryz.ntmps36
   go_wp2_with fail
   generalize hw0:((w.alloc (.cells #[.int .i64 4,.string nm,.slice WA m wc,.slice CA n c2] 52)).alloc (.cells #[.slice none 0 0] 49))=w0 at *
   clear hw0
   go_loopw [27] (fun i wr=>∃ (j:Nat) (v:Value),j≤m∧i=.int .i64 j∧Nd wr (w.heap.size+1) v (addL [] (termsL nm (ws.take j)))∧Below (w.heap.size+1) w0 wr) (fun i _=>m - (intOf i).toNat)
   case atStart=>exact ⟨0,_,Nat.zero_le _,rfl,HN2.out,Below.refl _ _⟩
   case round =>
    obtain ⟨j,v,hj,rfl,hN,hb⟩:=hrel
    have HN:=zh hN
    have Hb:=zh hb
    by_cases hlt:j<m
    ·have hjl:j<ws.length:=by rw [HI.out.wn]; exact hlt
     have hts:=termsL_take nm ws j hjl
     have hll:(addL [] (termsL nm (ws.take j))).length≤1048576:=by
      have h1:=addL_len (termsL nm (ws.take j)) []
      have h2:=termsL_len nm (ws.take j)
      rw [List.length_take] at h2
      simp only [List.length_nil] at h1
      omega
     have hsx:=T2.out _ (List.getElem_mem hjl)
     obtain ⟨tb,tq,rfl,htb,hc⟩:=HI.out.wds.2 (by omega)
     have hcj:=hc j (.string ws[j]) (by rw [List.getElem?_map,List.getElem?_eq_getElem hjl]; rfl)
     have hd:=(hb.cell (p:=⟨tb,tq+j,none⟩) (by show tb < _; omega)).trans hcj
     have hnm:=(hb.cell (p:=⟨w.heap.size,1,none⟩) (by show w.heap.size < _; omega)).trans (HB1.out.cell 1)
     have hbz:=hb.size
     simp at hnm
     have Hts:=zh (show addL [] (termsL nm (ws.take (j+1)))=addL (addL [] (termsL nm (ws.take j))) (termL nm ws[j]) by rw [hts,addL_append])
     clear hts hN hb hc hcj
     generalize addL [] (termsL nm (ws.take j))=l at *
     generalize ws[j]=x at *
     by_cases hok:termOk nm x=true
     ·have c1:=term_yesB nm x wr t1 hsx hok
      have htl:termL nm x=[termV nm x]:=by unfold termL; rw [if_pos hok]
      have hsz:(termV nm x).size≤281474976710656:=by
       have e:=congrArg List.length (str_data (term nm.data.toList x.data.toList))
       rw [bsize] at e
       show (str (term nm.data.toList x.data.toList)).size≤_
       rw [e]
       unfold term
       simp only [List.length_append,List.length_cons,List.length_nil,bsize]
       omega
      rw [htl] at Hts
      have c2:=fun wx=>cloneS_any (termV nm x) wx hsz
      have C2:=zh c2
      clear htl hok hsz c2
      generalize termV nm x=t at *
      go_wp2_with (first | (go_at_call 69; refine c1.mono ?_; rintro e wa ⟨rfl,hba⟩) | (go_at_call 70; refine (C2.out _).mono ?_; rintro e wb ⟨rfl,hbb⟩))
      have hNb:=(HN.out.below hba).below hbb
      have hM:=mo_one hNb t
      have hNc:=hNb.below ((Below.refl _ _).alloc (zG _) (.cells #[.string t] 9))
      have hbc:Below (w.heap.size+1) w0 (wb.alloc (.cells #[.string t] 9)):=((Hb.out.trans (hba.mono (by omega))).trans (hbb.mono (by have:=hba.size; omega))).alloc (by have:=hba.size; have:=hbb.size; omega) _
      refine (add_any (w.heap.size+1) v l _ 1 1 [t] _ hNc hM rfl (by omega)).mono ?_
      rintro e wd ⟨rfl,v',hN',hb'⟩
      rw [addL_one] at hN'
      have Fin2:=zh (Hts.out ▸ hN':Nd wd (w.heap.size+1) v' (addL [] (termsL nm (ws.take (j+1)))))
      have Fin3:=zh (hbc.trans hb')
      clear hNb hM hNc hbc hN' hb' hba hbb c1 C2
      go_wp2
      go_roundw
      case rel=>exact ⟨j+1,v',by omega,by go_num,Fin2.out,Fin3.out⟩
      case measure=>simp [intOf]; omega
     ·have hok':termOk nm x=false:=by simpa using hok
      have c1:=term_noB nm x wr t1 hsx hok'
      have htl:termL nm x=[]:=by unfold termL; rw [if_neg hok]
      rw [htl,addL_nil] at Hts
      clear htl hok hok'
      go_wp2_with (go_at_call 69; refine c1.mono ?_; rintro e wa ⟨rfl,hba⟩)
      have Fin2:=zh (HN.out.below hba)
      have Fin3:=zh (Hb.out.trans (hba.mono (by omega)))
      clear c1 hba
      go_roundw
      case rel=>exact ⟨j+1,v,by omega,by go_num,by rw [Hts.out]; exact Fin2.out,Fin3.out⟩
      case measure=>simp [intOf]; omega
    ·obtain rfl:j=m:=by omega
     rw [List.take_of_length_le (by rw [HI.out.wn]; exact zG _)] at HN
     have h0:=HN.out.box.cell 0
     simp at h0
     clear hN hb
     go_wp2
     go_ret
     exact Close.out _ _ _ HN.out Hb.out
  ·have hkk:(0:Nat)=0:=rfl
   have hm:((m:Int) != 1)=false:=by
    rw [bne_eq_false_iff_eq]
    have:=HI.out.wn
    omega
   go_enter Tryz.func36,Tryz.ntmps36
   go_wp2_with fail
   generalize hw0:((w.alloc (.cells #[.int .i64 2,.string nm,.slice WA m wc,.slice CA n c2] 52)).alloc (.cells #[.slice none 0 0] 49))=w0 at *
   clear hw0
   go_loopw [27] (fun i wr=>∃ (j:Nat) (v:Value),j≤m∧i=.int .i64 j∧Nd wr (w.heap.size+1) v (addL [] (termsL nm (ws.take j)))∧Below (w.heap.size+1) w0 wr) (fun i _=>m - (intOf i).toNat)
   case atStart=>exact ⟨0,_,Nat.zero_le _,rfl,HN2.out,Below.refl _ _⟩
   case round =>
    obtain ⟨j,v,hj,rfl,hN,hb⟩:=hrel
    have HN:=zh hN
    have Hb:=zh hb
    by_cases hlt:j<m
    ·have hjl:j<ws.length:=by rw [HI.out.wn]; exact hlt
     have hts:=termsL_take nm ws j hjl
     have hll:(addL [] (termsL nm (ws.take j))).length≤1048576:=by
      have h1:=addL_len (termsL nm (ws.take j)) []
      have h2:=termsL_len nm (ws.take j)
      rw [List.length_take] at h2
      simp only [List.length_nil] at h1
      omega
     have hsx:=T2.out _ (List.getElem_mem hjl)
     obtain ⟨tb,tq,rfl,htb,hc⟩:=HI.out.wds.2 (by omega)
     have hcj:=hc j (.string ws[j]) (by rw [List.getElem?_map,List.getElem?_eq_getElem hjl]; rfl)
     have hd:=(hb.cell (p:=⟨tb,tq+j,none⟩) (by show tb < _; omega)).trans hcj
     have hnm:=(hb.cell (p:=⟨w.heap.size,1,none⟩) (by show w.heap.size < _; omega)).trans (HB1.out.cell 1)
     have hbz:=hb.size
     simp at hnm
     have Hts:=zh (show addL [] (termsL nm (ws.take (j+1)))=addL (addL [] (termsL nm (ws.take j))) (termL nm ws[j]) by rw [hts,addL_append])
     clear hts hN hb hc hcj
     generalize addL [] (termsL nm (ws.take j))=l at *
     generalize ws[j]=x at *
     by_cases hok:termOk nm x=true
     ·have c1:=term_yesB nm x wr t1 hsx hok
      have htl:termL nm x=[termV nm x]:=by unfold termL; rw [if_pos hok]
      have hsz:(termV nm x).size≤281474976710656:=by
       have e:=congrArg List.length (str_data (term nm.data.toList x.data.toList))
       rw [bsize] at e
       show (str (term nm.data.toList x.data.toList)).size≤_
       rw [e]
       unfold term
       simp only [List.length_append,List.length_cons,List.length_nil,bsize]
       omega
      rw [htl] at Hts
      have c2:=fun wx=>cloneS_any (termV nm x) wx hsz
      have C2:=zh c2
      clear htl hok hsz c2
      generalize termV nm x=t at *
      go_wp2_with (first | (go_at_call 69; refine c1.mono ?_; rintro e wa ⟨rfl,hba⟩) | (go_at_call 70; refine (C2.out _).mono ?_; rintro e wb ⟨rfl,hbb⟩))
      have hNb:=(HN.out.below hba).below hbb
      have hM:=mo_one hNb t
      have hNc:=hNb.below ((Below.refl _ _).alloc (zG _) (.cells #[.string t] 9))
      have hbc:Below (w.heap.size+1) w0 (wb.alloc (.cells #[.string t] 9)):=((Hb.out.trans (hba.mono (by omega))).trans (hbb.mono (by have:=hba.size; omega))).alloc (by have:=hba.size; have:=hbb.size; omega) _
      refine (add_any (w.heap.size+1) v l _ 1 1 [t] _ hNc hM rfl (by omega)).mono ?_
      rintro e wd ⟨rfl,v',hN',hb'⟩
      rw [addL_one] at hN'
      have Fin2:=zh (Hts.out ▸ hN':Nd wd (w.heap.size+1) v' (addL [] (termsL nm (ws.take (j+1)))))
      have Fin3:=zh (hbc.trans hb')
      clear hNb hM hNc hbc hN' hb' hba hbb c1 C2
      go_wp2
      go_roundw
      case rel=>exact ⟨j+1,v',by omega,by go_num,Fin2.out,Fin3.out⟩
      case measure=>simp [intOf]; omega
     ·have hok':termOk nm x=false:=by simpa using hok
      have c1:=term_noB nm x wr t1 hsx hok'
      have htl:termL nm x=[]:=by unfold termL; rw [if_neg hok]
      rw [htl,addL_nil] at Hts
      clear htl hok hok'
      go_wp2_with (go_at_call 69; refine c1.mono ?_; rintro e wa ⟨rfl,hba⟩)
      have Fin2:=zh (HN.out.below hba)
      have Fin3:=zh (Hb.out.trans (hba.mono (by omega)))
      clear c1 hba
      go_roundw
      case rel=>exact ⟨j+1,v,by omega,by go_num,by rw [Hts.out]; exact Fin2.out,Fin3.out⟩
      case measure=>simp [intOf]; omega
    ·obtain rfl:j=m:=by omega
     rw [List.take_of_length_le (by rw [HI.out.wn]; exact zG _)] at HN
     have h0:=HN.out.box.cell 0
     simp at h0
     clear hN hb
     go_wp2
     go_ret
     exact Close.out _ _ _ HN.out Hb.out
 ·by_cases k5:k=5
  ·subst k5
   have Fin:Hid (needs (.mk 5 nm ws l)=needsIn [] l):=zh (by rw [needs_eq,if_neg k24,if_pos rfl])
   rw [Fin.out]
   clear hbx Fin k24
   go_enter Tryz.func36,Tryz.ntmps36
   go_wp2_with fail
   generalize hw0:((w.alloc (.cells #[.int .i64 5,.string nm,.slice WA m wc,.slice CA n c2] 52)).alloc (.cells #[.slice none 0 0] 49))=w0 at *
   clear hw0
   go_loopw [49] (fun i wr=>∃ (j:Nat) (v:Value),j≤n∧i=.int .i64 j∧Nd wr (w.heap.size+1) v (needsIn [] (l.take j))∧Below (w.heap.size+1) w0 wr) (fun i _=>n - (intOf i).toNat)
   case atStart=>exact ⟨0,_,Nat.zero_le _,rfl,HN2.out,Below.refl _ _⟩
   case round =>
    obtain ⟨j,v,hj,rfl,hN,hb⟩:=hrel
    have HN:=zh hN
    have Hb:=zh hb
    by_cases hlt:j<n
    ·have hjl:j<l.length:=by rw [HI.out.lm]; exact hlt
     have hts:=needsIn_take l [] j hjl
     have hll:(needsIn [] (l.take j)).length≤1048576:=by
      have h1:=needsIn_len (l.take j) [] (fun q _=>needs_len q)
      have h2:=wqs_take_le l j
      simp only [List.length_nil] at h1
      omega
     have hwj:=wqs_mem l _ (List.getElem_mem hjl)
     have hnj:=needs_len l[j]
     have hbz:=hb.size
     obtain ⟨tb,tq,A',n',c',C',m',d',rfl,htb,hq,hc0,hc1,hc2,hc3⟩:=HI.out.at_ hjl
     have htb':tb<w.heap.size+1:=by omega
     have hd0:=(hb.cell (p:=⟨tb,tq+j * 4,none⟩) htb').trans hc0
     have hd1:=(hb.cell (p:=⟨tb,tq+j * 4+1,none⟩) htb').trans hc1
     have hd2:=(hb.cell (p:=⟨tb,tq+j * 4+2,none⟩) htb').trans hc2
     have hd3:=(hb.cell (p:=⟨tb,tq+j * 4+3,none⟩) htb').trans hc3
     have hqr:=(hq.keep fun b o hp=>hb.cell (p:=⟨b,o,none⟩) (by show b < _; omega)).more (show w.heap.size≤wr.heap.size by omega)
     have hIj:=IH.out _ (List.getElem_mem hjl)
     have Hts:=zh hts
     have hx0:(l[j]).kind=(l[j]).kind:=rfl
     clear hts hN hb hc0 hc1 hc2 hc3 hq
     generalize needsIn [] (l.take j)=ol at *
     generalize l[j]=x at *
     generalize x.kind=x0 at *
     generalize x.name=x1 at *
     have hal:Below wr.heap.size wr (wr.alloc (.cells #[.int .i64 x0,.string x1,.slice A' n' c',.slice C' m' d'] 52)):=(Below.refl _ _).alloc (zG _) _
     have c1:=hIj _ _ _ _ _ (hqr.grow hal) (by omega)
     have HNa:=zh (HN.out.below hal)
     have hbc:=zh (Hb.out.alloc (by omega) (.cells #[.int .i64 x0,.string x1,.slice A' n' c',.slice C' m' d'] 52))
     clear hqr hal hx0 hIj
     go_wp2_with fail
     refine c1.mono ?_
     rintro e wa ⟨u,rfl,hown,hba⟩
     obtain ⟨A,c,rfl,hM⟩:=mo_made HNa.out hown
     have hNb:=HNa.out.below hba
     have hbd:=hbc.out.trans (hba.mono (by simp; omega))
     clear hown c1
     go_wp2_with fail
     refine (add_any (w.heap.size+1) v ol A _ c (needs x) _ hNb hM rfl (by omega)).mono ?_
     rintro e wd ⟨rfl,v',hN',hb'⟩
     have Fin2:=zh (Hts.out ▸ hN':Nd wd (w.heap.size+1) v' (needsIn [] (l.take (j+1))))
     have Fin3:=zh (hbd.trans hb')
     clear hNb hM hbd hN' hb' hba
     go_wp2
     go_roundw
     case rel=>exact ⟨j+1,v',by omega,by go_num,Fin2.out,Fin3.out⟩
     case measure=>simp [intOf]; omega
    ·obtain rfl:j=n:=by omega
     rw [List.take_of_length_le (by rw [HI.out.lm]; exact zG _)] at HN
     have h0:=HN.out.box.cell 0
     simp at h0
     clear hN hb
     go_wp2
     go_ret
     exact Close.out _ _ _ HN.out Hb.out
  ·have Fin:Hid (needs (.mk k nm ws l)=[]):=zh (by rw [needs_eq,if_neg k24,if_neg k5])
   rw [Fin.out]
   have h0:=hbx _ _ _ HN2.out
   simp at h0
   have hk4:k≠4:=fun e=>k24 (.inl e)
   have hk5:(k == 5)=false:=beq_eq_false_iff_ne.2 k5
   have hk4':(k == 4)=false:=beq_eq_false_iff_ne.2 hk4
   by_cases k2:k=2
   ·subst k2
    have hm:((m:Int) != 1)=true:=by
     rw [bne_iff_ne]
     intro e
     have:=HI.out.wn
     exact k24 (.inr ⟨rfl,by omega⟩)
    clear k24 hk4 k5 hbx
    go_enter Tryz.func36,Tryz.ntmps36
    go_wp2
    go_ret
    exact Close.out _ _ _ HN2.out (Below.refl _ _)
   ·have hk2:(k == 2)=false:=beq_eq_false_iff_ne.2 k2
    clear k24 hk4 k5 hbx
    go_enter Tryz.func36,Tryz.ntmps36
    go_wp2
    go_ret
    exact Close.out _ _ _ HN2.out (Below.refl _ _)
theorem needs_any:∀ q,QTx 140737488351232 q→NeedOk q:=by
 refine Q.ind (p:=fun q=>QTx 140737488351232 q→NeedOk q) (fun k nm ws l ih h=>?_)
 refine needs_step k nm ws l h (fun x hx=>ih x hx ?_)
 cases h with
 | mk h1 h2 h3=>exact h3 x hx
end Go.Proofs.YtlfpfkallgkjdaaGreat.Qy
end

section
namespace Go.Proofs.YtlfpfkallgkjdaaGreat.Al
open Go.RowKit Ut Tk Qy Qp
def SP (l:List P):Nat:=(l.map (fun s=>s.length+4)).sum
theorem SP_cons (s:P) (l:List P):SP (s :: l)=s.length+4+SP l:=by simp [SP]
theorem pieces_sum:∀ (n:Nat) (s:P) (l:List P),s.length≤n→pieces s=some l→SP l≤5 * s.length:=by
 intro n
 induction n with
 | zero =>
  intro s l h e
  have:s=[]:=List.length_eq_zero_iff.1 (by omega)
  subst this
  rw [pieces_nil] at e
  injection e with e
  subst e
  simp [SP]
 | succ n ih =>
  intro s l h e
  cases s with
  | nil =>
   rw [pieces_nil] at e
   injection e with e
   subst e
   simp [SP]
  | cons c t =>
   rw [List.length_cons] at h ⊢
   by_cases hb:Qp.blank c=true
   ·rw [pieces_blank c t hb] at e
    have:=ih t l (by omega) e
    omega
   ·have hb':Qp.blank c=false:=by simpa using hb
    rw [pieces_cons c t hb'] at e
    by_cases h0:pieceN (c :: t)=0
    ·rw [if_pos h0] at e; cases e
    ·rw [if_neg h0] at e
     obtain ⟨l',h1,h2⟩:=Option.map_eq_some_iff.1 e
     subst h2
     have h3:=ih _ l' (by rw [List.length_drop,List.length_cons]; omega) h1
     have h4:=pieceN_le (c :: t)
     rw [List.length_drop,List.length_cons] at h3
     rw [List.length_cons] at h4
     rw [SP_cons,List.length_take,List.length_cons,Nat.min_eq_left h4]
     omega
theorem wqs_snoc (a:List Q) (q:Q):wqs (a ++ [q])=wqs a+wq q:=by
 rw [wqs_append]
 simp [wqs]
theorem oneQ_le (k:Int) (a:List Q):wq (oneQ k a)≤1+wqs a:=by
 match a with
 | [q] =>
  show wq q≤1+wqs [q]
  simp [wqs]
 | []=>simp [oneQ,wq_eq,wqs]
 | q :: q' :: a=>simp [oneQ,wq_eq]
theorem wordsQ_le (nm:P) (l:List P) (q:Q) (h:wordsQ nm l=some q):wq q≤1+l.length:=by
 unfold wordsQ at h
 split at h
 ·cases h
 ·split at h
  ·injection h with h
   subst h
   simp [wq_eq,wqs]
  ·injection h with h
   subst h
   simp [wq_eq,wqs]
theorem leafQ_le (s:P) (q:Q) (h:leafQ s=some q):wq q≤2+s.length:=by
 unfold leafQ at h
 have hr:=rest_len s
 split at h
 ·injection h with h
  subst h
  simp [wq_eq,wqs]
  omega
 ·split at h
  ·cases h
  ·split at h
   ·have h1:=wordsQ_le _ _ q h
    have:=words_few (((restOf s).take ((restOf s).length - 1)).drop 1)
    rw [List.length_drop,List.length_take] at this
    omega
   ·split at h
    ·split at h
     ·injection h with h
      subst h
      simp [wq_eq,wqs]
     ·split at h
      ·injection h with h
       subst h
       have:=words_few (restOf s).dropLast
       rw [List.length_dropLast] at this
       simp only [wq_eq,wqs,List.length_map]
       omega
      ·cases h
    ·have h1:=wordsQ_le _ _ q h
     have:=words_few (restOf s)
     omega
def Sml (m:Md) (l:List P) (q:Q) (r:List P):Prop :=
 match m with
 | .part=>wq q+SP r+2≤SP l
 | .and a=>wq q+SP r+1≤wqs a+SP l
 | .andT a=>wq q+SP r≤1+wqs a+SP l
 | .or a=>wq q+SP r≤wqs a+SP l
 | .orT a=>wq q+SP r≤1+wqs a+SP l
theorem R.small {m:Md} {l:List P} {o:Option (Q × List P)} (h:R m l o):∀ q r,o=some (q,r)→Sml m l q r:=by
 induction h with
 | pnil=>intro q r e; cases e
 | pnot hs h ih =>
  intro q r e
  obtain ⟨⟨q',r'⟩,h1,h2⟩:=Option.map_eq_some_iff.1 e
  simp only [Prod.mk.injEq] at h2
  obtain ⟨rfl,rfl⟩:=h2
  have:=ih q' r' h1
  unfold Sml at this ⊢
  simp only at this ⊢
  rw [SP_cons]
  have e2:wq (notQ q')=1+wq q':=by simp [notQ,wq_eq,wqs]
  omega
 | @plp s t o hs h ih =>
  intro q r e
  match o,e,h,ih with
  | some (q',s' :: r'),e,h,ih =>
   by_cases hp':s'=RP
   ·have e2:closed (some (q',s' :: r'))=some (q',r'):=if_pos hp'
    rw [e2] at e
    simp only [Option.some.injEq,Prod.mk.injEq] at e
    obtain ⟨rfl,rfl⟩:=e
    have:=ih q' _ rfl
    unfold Sml at this ⊢
    simp only [SP_cons,wqs] at this ⊢
    omega
   ·have e2:closed (some (q',s' :: r'))=none:=if_neg hp'
    rw [e2] at e
    cases e
  | some (q',[]),e,_,_=>cases e
  | none,e,_,_=>cases e
 | pbad hs=>intro q r e; cases e
 | pleaf hs =>
  intro q r e
  obtain ⟨q',h1,h2⟩:=Option.map_eq_some_iff.1 e
  simp only [Prod.mk.injEq] at h2
  obtain ⟨rfl,rfl⟩:=h2
  have:=leafQ_le _ _ h1
  unfold Sml
  simp only [SP_cons]
  omega
 | and0 h ih=>intro q r e; cases e
 | and1 h h2 ih ih2 =>
  intro q r e
  have h3:=ih _ _ rfl
  have h4:=ih2 q r e
  unfold Sml at h3 h4 ⊢
  simp only [wqs_snoc] at h3 h4 ⊢
  omega
 | @andE a l h =>
  intro q r e
  simp only [Option.some.injEq,Prod.mk.injEq] at e
  obtain ⟨rfl,rfl⟩:=e
  have:=oneQ_le 5 a
  unfold Sml
  simp only
  omega
 | andA hs h ih =>
  intro q r e
  have:=ih q r e
  unfold Sml at this ⊢
  simp only [SP_cons] at this ⊢
  omega
 | andN hs hn h ih =>
  intro q r e
  have:=ih q r e
  unfold Sml at this ⊢
  simp only at this ⊢
  omega
 | or0 h ih=>intro q r e; cases e
 | or1 h h2 ih ih2 =>
  intro q r e
  have h3:=ih _ _ rfl
  have h4:=ih2 q r e
  unfold Sml at h3 h4 ⊢
  simp only [wqs_snoc,wqs] at h3 h4 ⊢
  omega
 | @orE a l h =>
  intro q r e
  simp only [Option.some.injEq,Prod.mk.injEq] at e
  obtain ⟨rfl,rfl⟩:=e
  have:=oneQ_le 6 a
  unfold Sml
  simp only
  omega
 | orO hs h ih =>
  intro q r e
  have:=ih q r e
  unfold Sml at this ⊢
  simp only [SP_cons] at this ⊢
  omega
theorem QTx.all {b:Nat} {k:Int} {l:List Q} (h:∀ x∈l,QTx b x):QTx b (oneQ k l):=by
 match l,h with
 | [q],h=>exact h q (by simp)
 | [],h=>exact .mk (by simp) (by simp) (by simp)
 | q :: q' :: a,h=>exact .mk (by simp) (by simp) h
theorem str_sz (s:P):(str s).size=s.length:=str_size s
theorem wordsQ_tx (nm:P) (l:List P) (q:Q) (hn:nm.length≤1048576) (hl:∀ x∈l,x.length≤1048576) (h:wordsQ nm l=some q):QTx 1048576 q:=by
 have hw:∀ x∈l.map str,x.size≤1048576:=fun x hx=>by
  obtain ⟨y,hy,rfl⟩:=List.mem_map.1 hx
  rw [str_sz]
  exact hl y hy
 unfold wordsQ at h
 split at h
 ·cases h
 ·split at h
  ·injection h with h
   subst h
   exact .mk (by rw [str_sz]; exact hn) hw (by simp)
  ·injection h with h
   subst h
   exact .mk (by rw [str_sz]; exact hn) hw (by simp)
theorem words_short (s:P):∀ x∈words s,x.length≤1048576:=fun x hx=>by
 have:=(words_word s x hx).2
 omega
theorem name_len (s:P):(nameOf s).length≤s.length+3:=by
 unfold nameOf
 split
 ·rw [List.length_take]; omega
 ·simp [msg]
theorem leafQ_tx (s:P) (q:Q) (hs:s.length≤1024) (h:leafQ s=some q):QTx 1048576 q:=by
 have hn:=name_len s
 unfold leafQ at h
 split at h
 ·injection h with h
  subst h
  exact .mk (by simp) (by simp) (by simp)
 ·split at h
  ·cases h
  ·split at h
   ·exact wordsQ_tx _ _ q (by omega) (words_short _) h
   ·split at h
    ·split at h
     ·injection h with h
      subst h
      exact .mk (by rw [str_sz]; omega) (by simp) (by simp)
     ·split at h
      ·injection h with h
       subst h
       refine .mk (by rw [str_sz]; omega) (fun x hx=>?_) (by simp)
       obtain ⟨y,hy,rfl⟩:=List.mem_map.1 hx
       rw [str_sz]
       exact words_short _ y hy
      ·cases h
    ·exact wordsQ_tx _ _ q (by omega) (words_short _) h
def acc:Md→List Q
 | .part=>[]
 | .and a=>a
 | .or a=>a
 | .andT a=>a
 | .orT a=>a
theorem R.tx {m:Md} {l:List P} {o:Option (Q × List P)} (h:R m l o):(∀ x∈l,x.length≤1024)→(∀ x∈acc m,QTx 1048576 x)→∀ q r,o=some (q,r)→QTx 1048576 q∧∀ x∈r,x.length≤1024:=by
 induction h with
 | pnil=>intro _ _ q r e; cases e
 | pnot hs h ih =>
  intro hl ha q r e
  obtain ⟨⟨q',r'⟩,h1,h2⟩:=Option.map_eq_some_iff.1 e
  simp only [Prod.mk.injEq] at h2
  obtain ⟨rfl,rfl⟩:=h2
  obtain ⟨g1,g2⟩:=ih (fun x hx=>hl x (List.mem_cons_of_mem _ hx)) ha q' r' h1
  exact ⟨.mk (by simp) (by simp) (fun x hx=>by rw [List.mem_singleton] at hx; rw [hx]; exact g1),g2⟩
 | @plp s t o hs h ih =>
  intro hl ha q r e
  match o,e,h,ih with
  | some (q',s' :: r'),e,h,ih =>
   by_cases hp':s'=RP
   ·have e2:closed (some (q',s' :: r'))=some (q',r'):=if_pos hp'
    rw [e2] at e
    simp only [Option.some.injEq,Prod.mk.injEq] at e
    obtain ⟨rfl,rfl⟩:=e
    obtain ⟨g1,g2⟩:=ih (fun x hx=>hl x (List.mem_cons_of_mem _ hx)) (by simp [acc]) q' _ rfl
    exact ⟨g1,fun x hx=>g2 x (List.mem_cons_of_mem _ hx)⟩
   ·have e2:closed (some (q',s' :: r'))=none:=if_neg hp'
    rw [e2] at e
    cases e
  | some (q',[]),e,_,_=>cases e
  | none,e,_,_=>cases e
 | pbad hs=>intro _ _ q r e; cases e
 | pleaf hs =>
  intro hl ha q r e
  obtain ⟨q',h1,h2⟩:=Option.map_eq_some_iff.1 e
  simp only [Prod.mk.injEq] at h2
  obtain ⟨rfl,rfl⟩:=h2
  exact ⟨leafQ_tx _ _ (hl _ (List.mem_cons_self ..)) h1,fun x hx=>hl x (List.mem_cons_of_mem _ hx)⟩
 | and0 h ih=>intro _ _ q r e; cases e
 | and1 h h2 ih ih2 =>
  intro hl ha q r e
  obtain ⟨g1,g2⟩:=ih hl (by simp [acc]) _ _ rfl
  exact ih2 g2 (fun x hx=>by
   rcases List.mem_append.1 hx with hx | hx
   ·exact ha x hx
   ·rw [List.mem_singleton] at hx; rw [hx]; exact g1) q r e
 | @andE a l h =>
  intro hl ha q r e
  simp only [Option.some.injEq,Prod.mk.injEq] at e
  obtain ⟨rfl,rfl⟩:=e
  exact ⟨QTx.all ha,hl⟩
 | andA hs h ih =>
  intro hl ha q r e
  exact ih (fun x hx=>hl x (List.mem_cons_of_mem _ hx)) ha q r e
 | andN hs hn h ih =>
  intro hl ha q r e
  exact ih hl ha q r e
 | or0 h ih=>intro _ _ q r e; cases e
 | or1 h h2 ih ih2 =>
  intro hl ha q r e
  obtain ⟨g1,g2⟩:=ih hl (by simp [acc]) _ _ rfl
  exact ih2 g2 (fun x hx=>by
   rcases List.mem_append.1 hx with hx | hx
   ·exact ha x hx
   ·rw [List.mem_singleton] at hx; rw [hx]; exact g1) q r e
 | @orE a l h =>
  intro hl ha q r e
  simp only [Option.some.injEq,Prod.mk.injEq] at e
  obtain ⟨rfl,rfl⟩:=e
  exact ⟨QTx.all ha,hl⟩
 | orO hs h ih =>
  intro hl ha q r e
  exact ih (fun x hx=>hl x (List.mem_cons_of_mem _ hx)) ha q r e
theorem QTx.more {b b':Nat} {q:Q} (h:QTx b q) (hb:b≤b'):QTx b' q:=by
 induction h with
 | mk h1 h2 h3 ih=>exact .mk (by omega) (fun x hx=>by have:=h2 x hx; omega) ih
theorem qw_sz {K:Nat} {q:Q} (h:QW K q):QSz q:=by
 induction h with
 | mk h1 h2 h3 ih=>exact .mk h1 h2 ih
structure QOk (q:Q):Prop where
 tx:QTx 1048576 q
 sz:QSz q
 wq:wq q≤1048576
theorem prs_wide {s:P} {q:Q} (h:PrsR s 0 (some q)):∃ K,K≤16777216∧QW K q:=by
 cases h with
 | @ok l _ h hp hr hm hd =>
  have h1:=pieces_pc s.length s l (zG _) hp
  have h2:=pieces_many s.length s l (zG _) hp
  exact or_wide hr (fun x hx=>by have:=(h1 x hx).2; omega) (by omega)
theorem prs_ok {s:P} {E:Int} {q:Q} (h:PrsR s E (some q)):E=0∧s.length≤1024∧QOk q:=by
 cases h with
 | @ok l _ h hp hr hm hd =>
  obtain ⟨K,_,hK⟩:=prs_wide (.ok h hp hr hm hd)
  have h1:=pieces_pc s.length s l (zG _) hp
  have h2:=pieces_sum s.length s l (zG _) hp
  have h3:=R.small hr q [] rfl
  obtain ⟨h4,_⟩:=R.tx hr (fun x hx=>by have:=(h1 x hx).2; omega) (by simp [acc]) q [] rfl
  unfold Sml at h3
  simp only [wqs] at h3
  exact ⟨rfl,h,h4,qw_sz hK,by omega⟩
theorem prs_none {s:P} {E:Int} (h:PrsR s E none):E≠0:=by cases h <;> decide
end Go.Proofs.YtlfpfkallgkjdaaGreat.Al
end

section
namespace Go.Proofs.YtlfpfkallgkjdaaGreat.Al
open Go.RowKit Go.Maps Ut Tk Qy Qp Ev Mv
def Sc (w:World) (b:Nat):Prop:=∃ cs T fr,w.heap[b]?=some (.cells cs T fr)
def Mo (w:World) (b:Nat):Prop:=∃ es ck,w.heap[b]?=some (.map es ck)
theorem Sc.lt {w:World} {b:Nat} (h:Sc w b):b<w.heap.size:=by
 obtain ⟨cs,T,fr,h⟩:=h
 exact (Array.getElem?_eq_some_iff.1 h).1
theorem Mo.lt {w:World} {b:Nat} (h:Mo w b):b<w.heap.size:=by
 obtain ⟨es,ck,h⟩:=h
 exact (Array.getElem?_eq_some_iff.1 h).1
theorem Sc.same {w w':World} {b:Nat} (h:Sc w b) (e:w'.heap[b]?=w.heap[b]?):Sc w' b:=by
 obtain ⟨cs,T,fr,h⟩:=h
 exact ⟨cs,T,fr,e.trans h⟩
theorem Mo.same {w w':World} {b:Nat} (h:Mo w b) (e:w'.heap[b]?=w.heap[b]?):Mo w' b:=by
 obtain ⟨cs,T,h⟩:=h
 exact ⟨cs,T,e.trans h⟩
theorem Mo.not {w:World} {b:Nat} (h:Mo w b):¬ Sc w b:=fun ⟨cs,T,fr,h2⟩=>by
 obtain ⟨es,ck,h1⟩:=h
 rw [h1] at h2
 injection h2 with h2
 cases h2
theorem mo_v {κ:Type} {P:Program} {k:TypeId} {L:KeyLit κ} {w:World} {b n:Nat} {f : κ→Option Value} (h:MapV P k L w b n f):Mo w b:=h.obj
theorem sc_cell {w:World} {b o:Nat} {u:Value} (h:w.cell? ⟨b,o,none⟩=some u):Sc w b:=by
 unfold World.cell? at h
 split at h
 ·rename_i c t f hb
  exact ⟨c,t,f,hb⟩
 ·cases h
theorem reads_sc {w:World} {S:Nat→Prop} {k n:Nat} {A:Option Addr} {xs:List Value} (h:ReadsS w S k A n xs) (hk : 0<k):ReadsS w (Sc w) k A n xs:=by
 refine ⟨h.1,fun hn=>?_⟩
 obtain ⟨b,o,e,hb,hc⟩:=h.2 hn
 have hx : 0<xs.length:=by rw [h.1]; exact Nat.mul_pos hn hk
 have:=hc 0 xs[0] (List.getElem?_eq_getElem hx)
 exact ⟨b,o,e,sc_cell this,hc⟩
theorem qf_sc {w:World} {S:Nat→Prop} {q:Q} {vs:List Value} (h:QF w S q vs):QF w (Sc w) q vs:=by
 induction h with
 | mk vss hn hw hm hv h4 hl _ ih=>exact .mk vss hn (reads_sc hw (by decide)) hm hv h4 (reads_sc hl (by decide)) ih
theorem qf_chg {w w':World} {O:Nat→Prop} {q:Q} {vs:List Value} (h:QF w (Sc w) q vs) (hc:Chg O w w') (hO:∀ b,O b→¬ Sc w b):QF w' (Sc w') q vs :=
 (h.keep (fun b o hb=>cell_same (hc.block b hb.lt (fun e=>hO b e hb)) o)).mono (fun b hb=>hb.same (hc.block b hb.lt (fun e=>hO b e hb)))
theorem reads_chg {w w':World} {O:Nat→Prop} {k n:Nat} {A:Option Addr} {xs:List Value} (h:ReadsS w (Sc w) k A n xs) (hc:Chg O w w') (hO:∀ b,O b→¬ Sc w b):ReadsS w' (Sc w') k A n xs :=
 (h.keep (fun b o hb=>cell_same (hc.block b hb.lt (fun e=>hO b e hb)) o)).mono (fun b hb=>hb.same (hc.block b hb.lt (fun e=>hO b e hb)))
structure KOk (k:Kp):Prop where
 prs:PrsR k.text.data.toList 0 (some k.q)
 nd:k.needs=needs k.q
theorem KOk.q {k:Kp} (h:KOk k):QOk k.q:=(prs_ok h.prs).2.2
theorem KOk.short {k:Kp} (h:KOk k):∀ t∈k.needs,t.size≤65:=by rw [h.nd]; exact needs_short k.q
theorem KOk.few {k:Kp} (h:KOk k):k.needs.length≤1048576:=by
 rw [h.nd]
 exact Nat.le_trans (needs_len k.q) h.q.wq
theorem KOk.first {k:Kp} (h:KOk k):(first k).size≤65:=by
 have:=h.short
 unfold Al.first
 cases hn:k.needs with
 | nil=>simp
 | cons s t=>rw [hn] at this; exact this s (by simp)
def KpV (w:World) (k:Kp) (v:Value):Prop:=∃ a0 a1 a2 a3 A c,v=.agg #[.string k.text,a0,a1,a2,a3,.slice A k.needs.length c]∧QF w (Sc w) k.q [a0,a1,a2,a3]∧ReadsS w (Sc w) 1 A k.needs.length (bsv k.needs)
theorem KpV.chg {w w':World} {O:Nat→Prop} {k:Kp} {v:Value} (h:KpV w k v) (hc:Chg O w w') (hO:∀ b,O b→¬ Sc w b):KpV w' k v:=by
 obtain ⟨a0,a1,a2,a3,A,c,e,h1,h2⟩:=h
 exact ⟨a0,a1,a2,a3,A,c,e,qf_chg h1 hc hO,reads_chg h2 hc hO⟩
def SetM (w:World) (m cn:Nat) (p:Int→Prop):Prop:=∃ f,MapV Tryz.prog 3 litI w m cn f∧∀ i,(f i).isSome=true↔p i
theorem SetM.same {w w':World} {m cn:Nat} {p:Int→Prop} (h:SetM w m cn p) (e:w'.heap[m]?=w.heap[m]?):SetM w' m cn p:=by
 obtain ⟨f,h1,h2⟩:=h
 exact ⟨f,h1.same e,h2⟩
theorem SetM.more {w:World} {m cn cn':Nat} {p:Int→Prop} (h:SetM w m cn p) (hn:cn≤cn'):SetM w m cn' p:=by
 obtain ⟨f,h1,h2⟩:=h
 exact ⟨f,h1.more hn,h2⟩
theorem SetM.iff {w:World} {m cn:Nat} {p p':Int→Prop} (h:SetM w m cn p) (e:∀ i,p i↔p' i):SetM w m cn p':=by
 obtain ⟨f,h1,h2⟩:=h
 exact ⟨f,h1,fun i=>(h2 i).trans (e i)⟩
theorem SetM.mo {w:World} {m cn:Nat} {p:Int→Prop} (h:SetM w m cn p):Mo w m:=by
 obtain ⟨f,h1,_⟩:=h
 exact mo_v h1
def F2v (F2:ByteArray→Option Nat):ByteArray→Option Value:=fun s=>(F2 s).map (fun m=>.map (some m))
def putF (F2:ByteArray→Option Nat) (s:ByteArray) (m:Nat):ByteArray→Option Nat:=fun t=>if t=s then some m else F2 t
theorem F2v_put (F2:ByteArray→Option Nat) (s:ByteArray) (m:Nat):putV (F2v F2) s (.map (some m))=F2v (putF F2 s m):=by
 funext t
 unfold putV F2v putF
 split <;> rfl
def Own (M1 M2:Nat) (F2:ByteArray→Option Nat) (b:Nat):Prop:=b=M1∨b=M2∨∃ s,F2 s=some b
structure AlM (w:World) (cn M1 M2:Nat) (F1:Int→Option Value) (F2:ByteArray→Option Nat) (l:List (Int × Kp)):Prop where
 up:UpI l
 rng:∀ x∈l,0≤x.1∧x.1≤999999
 ok:∀ x∈l,KOk x.2
 m1:MapZ Tryz.prog 3 litI w M1 l.length F1
 kv:∀ i k,get l i=some k→∃ v,F1 i=some v∧KpV w k v
 kn:∀ i,get l i=none→F1 i=none
 m2:MapV Tryz.prog 9 litS w M2 cn (F2v F2)
 sub:∀ s m,F2 s=some m→SetM w m cn (Und l s)
 nos:∀ s,F2 s=none→∀ i,¬ Und l s i
 apart:∀ s t m,F2 s=some m→F2 t=some m→s=t
 n12:M1≠M2
 n1:∀ s m,F2 s=some m→m≠M1∧m≠M2
section
variable {w w':World} {cn M1 M2:Nat} {F1:Int→Option Value} {F2:ByteArray→Option Nat} {l:List (Int × Kp)}
theorem AlM.mo (h:AlM w cn M1 M2 F1 F2 l):∀ b,Own M1 M2 F2 b→Mo w b:=by
 rintro b (rfl | rfl | ⟨s,hs⟩)
 ·exact mo_v h.m1.v
 ·exact mo_v h.m2
 ·exact (h.sub s b hs).mo
theorem AlM.noSc (h:AlM w cn M1 M2 F1 F2 l):∀ b,Own M1 M2 F2 b→¬ Sc w b:=fun b hb=>(h.mo b hb).not
theorem AlM.iff (h:AlM w cn M1 M2 F1 F2 l) (i:Int):(F1 i).isSome=(get l i).isSome:=by
 cases hg:get l i with
 | none=>rw [h.kn i hg]; rfl
 | some k =>
  obtain ⟨v,e,_⟩:=h.kv i k hg
  rw [e]; rfl
theorem MapZ.same {κ:Type} {P:Program} {k:TypeId} {L:KeyLit κ} {b n:Nat} {f : κ→Option Value} (h:MapZ P k L w b n f) (e:w'.heap[b]?=w.heap[b]?):MapZ P k L w' b n f:=by
 obtain ⟨D,⟨es,clock,hb,r⟩,h2⟩:=h.ex
 exact ⟨D,⟨es,clock,e.trans hb,r⟩,h2⟩
theorem AlM.chg {O:Nat→Prop} (h:AlM w cn M1 M2 F1 F2 l) (hc:Chg O w w') (hO:∀ b,O b→¬ Sc w b) (hM:∀ b,O b→¬ Own M1 M2 F2 b):AlM w' cn M1 M2 F1 F2 l:=by
 have e:∀ b,Own M1 M2 F2 b→w'.heap[b]?=w.heap[b]?:=fun b hb=>hc.block b (h.mo b hb).lt (fun o=>hM b o hb)
 exact ⟨h.up,h.rng,h.ok,MapZ.same h.m1 (e _ (.inl rfl)),fun i k hk=>by
  obtain ⟨v,h1,h2⟩:=h.kv i k hk
  exact ⟨v,h1,h2.chg hc hO⟩,h.kn,h.m2.same (e _ (.inr (.inl rfl))),fun s m hs=>(h.sub s m hs).same (e _ (.inr (.inr ⟨s,hs⟩))),h.nos,h.apart,h.n12,h.n1⟩
theorem AlM.below (h:AlM w cn M1 M2 F1 F2 l) (hb:Below w.heap.size w w'):AlM w' cn M1 M2 F1 F2 l:=h.chg (O:=fun _=>False) (Chg.of_new hb) (fun _ h=>h.elim) (fun _ h=>h.elim)
theorem AlM.more (h:AlM w cn M1 M2 F1 F2 l) {cn':Nat} (hn:cn≤cn'):AlM w cn' M1 M2 F1 F2 l :=
 ⟨h.up,h.rng,h.ok,h.m1,h.kv,h.kn,h.m2.more hn,fun s m hs=>(h.sub s m hs).more hn,h.nos,h.apart,h.n12,h.n1⟩
theorem AlM.has (h:AlM w cn M1 M2 F1 F2 l) {i:Int} {k:Kp} (hk:get l i=some k):∃ m,F2 (first k)=some m:=by
 cases hs:F2 (first k) with
 | some m=>exact ⟨m,rfl⟩
 | none=>exact absurd ⟨k,hk,rfl⟩ (h.nos _ hs i)
theorem mem_drop {x:Int × Kp} {i:Int} (h:x∈drop l i):x∈l:=by
 unfold drop at h
 split at h
 ·rcases List.mem_append.1 h with h | h
  ·exact List.mem_of_mem_take h
  ·exact List.mem_of_mem_drop h
 ·exact h
theorem mem_put {x:Int × Kp} {i:Int} {k:Kp} (h:x∈put l i k):x=(i,k)∨x∈l:=by
 unfold put at h
 rcases List.mem_append.1 h with h | h
 ·exact .inr (List.mem_of_mem_take h)
 ·rcases List.mem_cons.1 h with h | h
  ·exact .inl h
  ·exact .inr (List.mem_of_mem_drop h)
theorem drop_no {i:Int} (h:get l i=none):drop l i=l:=by unfold drop; rw [h]; rfl
theorem AlM.del {i:Int} {k:Kp} {m:Nat} (h:AlM w cn M1 M2 F1 F2 l) (hk:get l i=some k) (hm:F2 (first k)=some m) (hc:Chg (Own M1 M2 F2) w w')
  (e1:MapZ Tryz.prog 3 litI w' M1 (l.length - 1) (delV F1 i)) (e2:w'.heap[M2]?=w.heap[M2]?) (e3:SetM w' m cn (fun j=>j≠i∧Und l (first k) j)) (e4:∀ s m',s≠first k→F2 s=some m'→w'.heap[m']?=w.heap[m']?) :
  AlM w' cn M1 M2 (delV F1 i) F2 (drop l i):=by
 have hlen:(drop l i).length=l.length - 1:=by rw [drop_len h.up,hk]; rfl
 refine ⟨drop_up h.up i,fun x hx=>h.rng x (mem_drop hx),fun x hx=>h.ok x (mem_drop hx),by rw [hlen]; exact e1,fun j k' hj=>?_,fun j hj=>?_,h.m2.same e2,fun s m' hs=>?_,fun s hs j hj=>?_,h.apart,h.n12,h.n1⟩
 ·rw [get_drop h.up] at hj
  split at hj
  ·cases hj
  ·rename_i hne
   obtain ⟨v,h1,h2⟩:=h.kv j k' hj
   exact ⟨v,by unfold delV; rw [if_neg hne]; exact h1,h2.chg hc h.noSc⟩
 ·rw [get_drop h.up] at hj
  unfold delV
  split at hj
  ·rename_i e
   rw [if_pos e]
  ·rename_i hne
   rw [if_neg hne]
   exact h.kn j hj
 ·by_cases e:s=first k
  ·subst e
   rw [hm] at hs
   injection hs with hs
   subst hs
   exact e3.iff (fun j=>(und_drop h.up i _ j).symm)
  ·refine ((h.sub s m' hs).same (e4 s m' e hs)).iff (fun j=>?_)
   rw [und_drop h.up]
   constructor
   ·intro hu
    refine ⟨fun e2=>?_,hu⟩
    obtain ⟨k',h1,h2⟩:=hu
    rw [e2,hk] at h1
    injection h1 with h1
    exact e (by rw [← h2,← h1])
   ·exact fun hu=>hu.2
 ·rw [und_drop h.up] at hj
  exact h.nos s hs j hj.2
theorem AlM.ins {i:Int} {k:Kp} {v:Value} {m:Nat} (h:AlM w cn M1 M2 F1 F2 l) (hi : 0≤i∧i≤999999) (hko:KOk k) (hk:get l i=none) (hv:KpV w k v) (hc:Chg (Own M1 M2 F2) w w')
  (e1:MapZ Tryz.prog 3 litI w' M1 (l.length+1) (putV F1 i v)) (e2:MapV Tryz.prog 9 litS w' M2 (cn+1) (F2v (putF F2 (first k) m))) (e3:SetM w' m (cn+1) (fun j=>j=i∨Und l (first k) j))
  (e4:∀ s m',s≠first k→F2 s=some m'→w'.heap[m']?=w.heap[m']?) (hm:F2 (first k)=some m∨w.heap.size≤m) :
  AlM w' (cn+1) M1 M2 (putV F1 i v) (putF F2 (first k) m) (put l i k):=by
 have hlen:(put l i k).length=l.length+1:=by rw [put_len h.up,hk]; rfl
 have hnm:∀ s,s≠first k→F2 s≠some m:=fun s hs e=>by
  rcases hm with hm | hm
  ·exact hs (h.apart _ _ _ e hm)
  ·have:=((h.sub s m e).mo).lt
   omega
 refine ⟨put_up h.up i k,fun x hx=>?_,fun x hx=>?_,by rw [hlen]; exact e1,fun j k' hj=>?_,fun j hj=>?_,e2,fun s m' hs=>?_,fun s hs j hj=>?_,fun s t m' hs ht=>?_,h.n12,fun s m' hs=>?_⟩
 ·rcases mem_put hx with rfl | hx
  ·exact hi
  ·exact h.rng x hx
 ·rcases mem_put hx with rfl | hx
  ·exact hko
  ·exact h.ok x hx
 ·rw [get_put h.up] at hj
  unfold putV
  split at hj
  ·rename_i e
   injection hj with hj
   subst hj
   rw [if_pos e]
   exact ⟨v,rfl,hv.chg hc h.noSc⟩
  ·rename_i hne
   obtain ⟨u,h1,h2⟩:=h.kv j k' hj
   exact ⟨u,by rw [if_neg hne]; exact h1,h2.chg hc h.noSc⟩
 ·rw [get_put h.up] at hj
  split at hj
  ·cases hj
  ·rename_i hne
   unfold putV
   rw [if_neg hne]
   exact h.kn j hj
 ·unfold putF at hs
  split at hs
  ·rename_i e
   injection hs with hs
   subst e hs
   refine e3.iff (fun j=>?_)
   rw [und_put h.up]
   constructor
   ·rintro (rfl | hu)
    ·exact .inl ⟨rfl,rfl⟩
    ·by_cases e:j=i
     ·exact .inl ⟨e,rfl⟩
     ·exact .inr ⟨e,hu⟩
   ·rintro (⟨e,_⟩ | ⟨_,hu⟩)
    ·exact .inl e
    ·exact .inr hu
  ·rename_i hne
   refine (((h.sub s m' hs).same (e4 s m' hne hs)).more (Nat.le_succ _)).iff (fun j=>?_)
   rw [und_put h.up]
   constructor
   ·intro hu
    refine .inr ⟨fun e=>?_,hu⟩
    obtain ⟨k',h1,_⟩:=hu
    rw [e,hk] at h1
    cases h1
   ·rintro (⟨_,e⟩ | ⟨_,hu⟩)
    ·exact absurd e.symm hne
    ·exact hu
 ·unfold putF at hs
  split at hs
  ·cases hs
  ·rename_i hne
   rw [und_put h.up] at hj
   rcases hj with ⟨_,e⟩ | ⟨_,hu⟩
   ·exact hne e.symm
   ·exact h.nos s hs j hu
 ·unfold putF at hs ht
  split at hs
  ·rename_i e
   split at ht
   ·rename_i e'
    rw [e,e']
   ·rename_i hne
    injection hs with hs
    subst hs
    exact absurd ht (hnm t hne)
  ·rename_i hne
   split at ht
   ·injection ht with ht
    subst ht
    exact absurd hs (hnm s hne)
   ·exact h.apart s t m' hs ht
 ·unfold putF at hs
  split at hs
  ·injection hs with hs
   subst hs
   rcases hm with hm | hm
   ·exact h.n1 _ _ hm
   ·have h1:=(mo_v h.m1.v).lt
    have h2:=(mo_v h.m2).lt
    constructor <;> omega
  ·exact h.n1 s m' hs
end
theorem AlM.empty (w:World) (M1 M2:Nat) (h1:MapZ Tryz.prog 3 litI w M1 0 noV) (h2:MapV Tryz.prog 9 litS w M2 0 noV) (hn:M1≠M2):AlM w 0 M1 M2 noV (fun _=>none) [] :=
 ⟨List.Pairwise.nil,fun x hx=>(nomatch hx),fun x hx=>(nomatch hx),h1,fun i k h=>(nomatch h),fun i h=>rfl,h2.congr (fun s=>rfl),fun s m h=>(nomatch h),fun s h i hu=>und_nil s i hu,fun s t m h=>(nomatch h),hn,fun s m h=>(nomatch h)⟩
end Go.Proofs.YtlfpfkallgkjdaaGreat.Al
end
