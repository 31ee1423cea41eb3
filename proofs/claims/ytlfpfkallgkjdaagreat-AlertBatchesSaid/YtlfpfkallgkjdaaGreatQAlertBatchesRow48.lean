/- loggiaref10.add: the walk (printed by gen_evx.py). -/
import Derived.Test.YtlfpfkallgkjdaaGreatQAlertBatchesRow3
import Derived.Test.YtlfpfkallgkjdaaGreatQAlertBatchesRow0
set_option linter.unusedSimpArgs false
set_option linter.unusedVariables false
set_option maxRecDepth 20000
namespace Go.Proofs.YtlfpfkallgkjdaaGreat.Ev
open Go.RowKit Ut Tk Qy Qp Rg
def AddPost (w:World) (l:List Tm) (e:Ending) (w':World):Prop:=∃ A n c O,e=.returned (.slice A n c)∧O.map prj=l∧TmO w' w'.heap.size A n c O∧Below w.heap.size w w'
theorem add_fin {w wz w':World} {B n c p q m:Nat} {A:Option Addr} {O:List Tr} {x:Tr} {v:Value} (hO:TmO wz B A n c O) (hBz:B≤wz.heap.size) (hwz:Below w.heap.size w wz) (hR:Row 166 2 wz.heap.size wz w' v m ((O.take p).flatMap encO ++ encO x ++ (O.drop q).flatMap encO)) (hx:PosR w' w'.heap.size x) (hm:m=p+1+(n - q)) (hp:p≤n) (hq:q≤n):AddPost w ((O.take p ++ [x] ++ O.drop q).map prj) (.returned v) w':=by
 obtain ⟨A',c',rfl,hRd,hc',hn',_⟩:=own_shape2 hR.own
 refine ⟨A',m,c',O.take p ++ [x] ++ O.drop q,rfl,rfl,⟨?_,?_,hc',hn',fun y hy=>?_⟩,hwz.trans (hR.bel.mono hwz.size)⟩
 ·rw [List.flatMap_append,List.flatMap_append]
  simpa using hRd
 ·have:=hO.ln
  simp only [List.length_append,List.length_take,List.length_drop,List.length_cons,List.length_nil]
  omega
 ·have old:∀ y∈O,PosR w' w'.heap.size y:=fun y hy=>(hO.po y hy).grow (hR.bel.mono hBz) (by have:=hR.bel.size; omega)
  rcases List.mem_append.1 hy with hy | hy
  ·rcases List.mem_append.1 hy with hy | hy
   ·exact old y (List.mem_of_mem_take hy)
   ·rw [List.mem_singleton] at hy; subst hy; exact hx
  ·exact old y (List.mem_of_mem_drop hy)
set_option maxHeartbeats 6400000 in
theorem add_any (A:Option Addr) (n c:Nat) (O:List Tr) (s:ByteArray) (p:Nat) (w:World) (h:TmO w w.heap.size A n c O) (hn:n≤65536) (hs:s.size≤1048576) (hpl:∀ x∈O,x.2.2.length≤65535) :
  Calls Tryz.prog 133 #[.slice A n c,.string s,.int .i64 (p:Nat)] w (AddPost w (addT (O.map prj) s p)):=by
 obtain ⟨i0,hi0,hz0,hz1,hz2⟩:=info_parts rterm_info
 obtain ⟨j0,hj0,hy0,hy1,hy2⟩:=info_parts int_info2
 have hlm:(O.map prj).length=n:=by rw [List.length_map]; exact h.ln
 have hkl:=posB_le (keysT (O.map prj)) s
 have hkm:(keysT (O.map prj)).length=n:=by unfold keysT; rw [List.length_map]; exact hlm
 have Hlt:Hid (∀ i (h:i<posB (keysT (O.map prj)) s) (h2:i<O.length),ltB O[i].1 s=true):=zh (fun i h h2=>by
  have:=posB_lt h (by rw [hkm]; have:=hkl; omega)
  simpa [keysT,prj] using this)
 have Hat:Hid (∀ h:posB (keysT (O.map prj)) s<O.length,ltB (O[posB (keysT (O.map prj)) s]).1 s=false):=zh (fun h2=>by
  have:=posB_at (l:=keysT (O.map prj)) (s:=s) (by rw [hkm]; have:=h.ln; omega)
  simpa [keysT,prj] using this)
 have Fh:Hid (∀ (h:posB (keysT (O.map prj)) s<O.length),O[posB (keysT (O.map prj)) s].1=s→∀ v,addT (O.map prj) s p=(O.take (posB (keysT (O.map prj)) s) ++ [(s,v,O[posB (keysT (O.map prj)) s].2.2 ++ [p])] ++ O.drop (posB (keysT (O.map prj)) s+1)).map prj):=zh (fun h2 he v=>by
  rw [addT_hit (O.map prj) s p (by rw [List.length_map]; exact h2) (by simpa [prj] using he)]
  simp [prj])
 have Fm:Hid ((∀ (h:posB (keysT (O.map prj)) s<O.length),O[posB (keysT (O.map prj)) s].1≠s)→∀ v,addT (O.map prj) s p=(O.take (posB (keysT (O.map prj)) s) ++ [(s,v,[p])] ++ O.drop (posB (keysT (O.map prj)) s)).map prj):=zh (fun hne v=>by
  rw [addT_miss (O.map prj) s p (fun h2=>by have:=hne (by simpa using h2); simpa [prj] using this)]
  simp [prj])
 have hln:=h.ln
 have hcap:=h.cap
 have Hnil:=zh h.nl
 have HO:=zh h
 have Hpl:=zh hpl
 rw [hkm] at hkl
 obtain ⟨r,hr⟩:∃ r,r=addT (O.map prj) s p:=⟨_,rfl⟩
 rw [← hr] at Fh Fm ⊢
 clear hr h hlm hkm hpl
 generalize posB (keysT (O.map prj)) s=k at *
 have hl1:O.length≤n:=by omega
 have hl2:n≤O.length:=by omega
 clear hln
 go_enter Tryz.func133,Tryz.ntmps133
 go_wp2_with fail
 go_loopw [7] (fun i wr=>∃ j:Nat,j≤k∧i=.int .i64 (j:Nat)∧Hid (Below w.heap.size w wr)) (fun i _=>n - (intOf i).toNat)
 case atStart=>exact ⟨0,Nat.zero_le _,rfl,zh (Below.refl _ _)⟩
 case round =>
  obtain ⟨j,hj,rfl,hbq⟩:=hrel
  by_cases hlt:j<k
  ·have hjl:j<O.length:=by omega
   have hji:(j:Int)<(n:Int):=by omega
   have hle:=Hlt.out j hlt hjl
   obtain ⟨tb,tq,rfl,htb,hd1,_⟩:=(HO.out.grow hbq.out (zG _)).at_ hjl
   have cl:=fun wx=>rless_any O[j].1 s wx (by have:=(HO.out.po _ (List.getElem_mem hjl)).szs; omega) (by omega)
   rw [hle] at cl
   generalize O[j].1=y at *
   clear hle
   go_wp2_with fail
   refine (cl _).mono ?_
   rintro e w2 ⟨rfl,hb2⟩
   have Hb2:=zh (hbq.out.trans (hb2.mono hbq.out.size))
   clear cl hb2 hbq hd1
   go_wp2
   go_roundw
   case rel=>exact ⟨j+1,by omega,by go_num,Hb2⟩
   case measure=>simp [intOf]; omega
  ·obtain rfl:j=k:=by omega
   by_cases hkn:j<O.length
   ·have hji:(j:Int)<(n:Int):=by omega
    have hle:=Hat.out hkn
    obtain ⟨tb,tq,rfl,htb,hd1,hd2⟩:=(HO.out.grow hbq.out (zG _)).at_ hkn
    have cl:=fun wx=>rless_any O[j].1 s wx (by have:=(HO.out.po _ (List.getElem_mem hkn)).szs; omega) (by omega)
    rw [hle] at cl
    have Fh2:=zh (Fh.out hkn)
    have Fm2:Hid (O[j].1≠s→∀ v,r=(O.take j ++ [(s,v,[p])] ++ O.drop j).map prj):=zh (fun hne=>Fm.out (fun _=>hne))
    have hPx:=HO.out.po _ (List.getElem_mem hkn)
    have hPl:=Hpl.out _ (List.getElem_mem hkn)
    clear Fh Fm hle
    generalize hxx:O[j]=xx at *
    clear hxx
    obtain ⟨y,pv,ps⟩:=xx
    simp only at hd1 hd2 cl Fh2 Fm2 hPl
    obtain ⟨P,pc,hpv,hPr,hPc,hPn⟩:=hPx.ex
    simp only at hpv hPr hPc hPn
    subst hpv
    have HPr:=zh hPr
    have HPn:=zh hPn
    clear hPx hPr hPn
    go_wp2_with fail
    refine (cl _).mono ?_
    rintro e wz ⟨rfl,hb2⟩
    have HBz:=zh (hbq.out.trans (hb2.mono hbq.out.size))
    have f1:=(hb2.cell (p:=⟨tb,tq+j * 2,none⟩) (by show tb < _; have:=hbq.out.size; omega)).trans hd1
    have f2:=(hb2.cell (p:=⟨tb,tq+j * 2+1,none⟩) (by show tb < _; have:=hbq.out.size; omega)).trans hd2
    have htz:tb<wz.heap.size:=by have:=HBz.out.size; omega
    have Hf:=zh (And.intro f1 f2)
    clear cl hb2 hbq hd1 hd2 f1 f2
    have hwz0:=HBz.out.size
    have HOz:=zh (HO.out.grow HBz.out (zG _))
    have HOg:=zh (fun (wx:World) (hb:Below wz.heap.size wz wx)=>HOz.out.grow (hb.mono hwz0) (Nat.le_trans hwz0 hb.size))
    have R0:=zh (Row.empty 166 2 (by decide) wz)
    have hA0:Below wz.heap.size wz (wz.alloc (.cells #[] 166)):=(Below.refl _ _).alloc (zG _) _
    have HA0:=zh hA0
    have XT:=zh (encO_take O j)
    have XD:=fun q=>zh (encO_drop O q)
    clear hA0
    go_wp2_with (at_builtin; (refine wpList_append_any rfl _ _ 164 rfl (wz.heap.size) 166 i0 _ 2 40 Tryz.underlying164 hi0 hz0 hz1 hz2 rfl (by decide) (_) (0) ([]) rfl (R0.out.own) _ _ _ ((O.take j).flatMap encO) rfl ?r2 ?l2 ?o2 ?m2 ?b2 ?s2 ?_))
    try (case r2=>(have q:=reads_take (p:=j) (HOg.out _ HA0.out).rd (by omega); rw [XT.out]; first | exact q | (rw [World.size_alloc] at q; exact q)))
    try (case l2=>exact Hnil.out)
    try (case o2=>first | exact encO_one (fun x hx=>HO.out.po x (List.mem_of_mem_take hx)) | (intro u y1 y2 y3 hy hu; exact encO_one (fun x hx=>HO.out.po x (List.mem_of_mem_take hx)) u (List.mem_flatMap.2 ⟨_,hy,hu⟩)))
    try (case m2=>unfold maxLen; omega)
    try (case b2=>omega)
    try (case s2=>simp)
    intro v1 w1 ho1 hg1 _
    have R1:Hid (Row 166 2 wz.heap.size wz w1 v1 j ((O.take j).flatMap encO)):=zh ⟨ho1,R0.out.bel.grown hg1 (by simp) (fun b hb=>(R0.out.own.lt b hb).1)⟩
    have hs1:=R1.out.bel.size
    clear ho1 hg1 R0 HA0
    have f1:=(R1.out.bel.cell (p:=⟨tb,tq+j * 2,none⟩) htz).trans Hf.out.1
    have f2:=(R1.out.bel.cell (p:=⟨tb,tq+j * 2+1,none⟩) htz).trans Hf.out.2
    have htz1:tb<w1.heap.size:=by omega
    have hbqe:(y.toList == s.toList)=decide (y=s):=beq_dec y s
    by_cases hys:y=s
    ·rw [decide_eq_true hys] at hbqe
     have F:=zh (Fh2.out hys)
     clear hys Fh2 Fm2
     have RJ0:=zh (Row.empty 3 1 (by decide) w1)
     have HPz:=zh (fun (wx:World) (hb:Below wz.heap.size wz wx)=>(HPr.out.below (HBz.out.trans (hb.mono hwz0))).more (Nat.le_trans hwz0 hb.size))
     have HJ0:Hid (Below w1.heap.size w1 (w1.alloc (.cells #[] 3))):=zh ((Below.refl _ _).alloc (zG _) _)
     go_wp2_with (at_builtin; (refine wpList_append_any rfl _ _ 38 rfl (w1.heap.size) 3 j0 _ 1 8 Tryz.underlying38 hj0 hy0 hy1 hy2 rfl (by decide) (_) (0) ([]) rfl (RJ0.out.own) _ _ _ (nC ps) rfl ?r3 ?l3 ?o3 ?m3 ?b3 ?s3 ?_))
     try (case r3=>exact HPz.out _ (R1.out.bel.trans (HJ0.out.mono hs1)))
     try (case l3=>exact HPn.out)
     try (case o3=>exact nC_one _)
     try (case m3=>unfold maxLen; omega)
     try (case b3=>omega)
     try (case s3=>simp)
     intro v2 w2 ho2 hg2 _
     have RJ:Hid (Row 3 1 w1.heap.size w1 w2 v2 ps.length (nC ps)):=zh ⟨ho2,RJ0.out.bel.grown hg2 (by simp) (fun b hb=>(RJ0.out.own.lt b hb).1)⟩
     have hs2:=RJ.out.bel.size
     clear ho2 hg2 RJ0 HJ0 f1 f2
     go_wp2_with (at_builtin; (refine wpList_append_any rfl _ _ 38 rfl (w1.heap.size) 3 j0 _ 1 8 Tryz.underlying38 hj0 hy0 hy1 hy2 rfl (by decide) (v2) (ps.length) (nC ps) rfl ((RJ.out.alloc hs2 _).own) _ _ _ ([.int .i64 (p:Nat)]) rfl ?r4 ?l4 ?o4 ?m4 ?b4 ?s4 ?_))
     try (case r4=>exact new_row (k:=1) w2 3 [.int .i64 (p:Nat)] 1 rfl (by decide))
     try (case l4=>intro e; cases e)
     try (case o4=>simp [Value.oneCell'])
     try (case m4=>unfold maxLen; omega)
     try (case b4=>omega)
     try (case s4=>first | omega | (simp; omega))
     intro v3 w3 ho3 hg3 _
     have RK:Hid (Row 3 1 w1.heap.size w1 w3 v3 (ps.length+1) (nC (ps ++ [p]))):=zh (by rw [nC_snoc]; exact (RJ.out.alloc hs2 _).app (by simp; omega) ho3 hg3)
     have hs3:=RK.out.bel.size
     have R3:Hid (Row 166 2 wz.heap.size wz w3 v1 j ((O.take j).flatMap encO)):=zh (R1.out.below hs1 RK.out.bel)
     obtain ⟨b3,q3,rfl⟩:=own_succ RK.out.own
     clear ho3 hg3 RJ
     go_wp2_with (at_builtin; (refine wpList_append_any rfl _ _ 164 rfl (wz.heap.size) 166 i0 _ 2 40 Tryz.underlying164 hi0 hz0 hz1 hz2 rfl (by decide) (v1) (j) ((O.take j).flatMap encO) rfl ((R3.out.alloc (by omega) _).own) _ _ _ ([.string s,.slice (some ⟨b3,0,none⟩) (ps.length+1) q3]) rfl ?r5 ?l5 ?o5 ?m5 ?b5 ?s5 ?_))
     try (case r5=>exact new_row (k:=2) w3 166 [.string s,.slice (some ⟨b3,0,none⟩) (ps.length+1) q3] 1 rfl (by decide))
     try (case l5=>intro e; cases e)
     try (case o5=>simp [Value.oneCell'])
     try (case m5=>unfold maxLen; omega)
     try (case b5=>omega)
     try (case s5=>first | omega | (simp; omega))
     intro v4 w4 ho4 hg4 _
     have R4:Hid (Row 166 2 wz.heap.size wz w4 v4 (j+1) ((O.take j).flatMap encO ++ encO (s,.slice (some ⟨b3,0,none⟩) (ps.length+1) q3,ps ++ [p]))):=zh ((R3.out.alloc (by omega) _).app (by simp; omega) ho4 hg4)
     have RK4:Hid (w4.ownsRow w1.heap.size 3 1 (.slice (some ⟨b3,0,none⟩) (ps.length+1) q3) (ps.length+1) (nC (ps ++ [p]))):=zh (own_apart (RK.out.alloc hs3 _).own (R3.out.alloc (by omega) _).own (by decide) hg4)
     have hs4:=R4.out.bel.size
     have hw43:w3.heap.size≤w4.heap.size:=by have:=hg4.size; simp at this; omega
     clear ho4 hg4 R3 RK
     have hjj:(0:Int)≤(j:Int)+1:=by omega
     have hjt:((j:Int)+1).toNat=j+1:=by omega
     have hjn:(j:Int)+1≤(n:Int):=by omega
     by_cases hcq:c=j+1
     ·go_wp2_with (at_builtin; (refine wpList_append_any rfl _ _ 164 rfl (wz.heap.size) 166 i0 _ 2 40 Tryz.underlying164 hi0 hz0 hz1 hz2 rfl (by decide) (v4) (j+1) (_) rfl (R4.out.own) _ _ _ ((O.drop (j+1)).flatMap encO) rfl ?r6 ?l6 ?o6 ?m6 ?b6 ?s6 ?_))
      try (case r6=>(rw [List.drop_eq_nil_of_le (by omega)]; exact ⟨(by have h0:n - (j+1)=0:=(by omega); simp [h0]),fun h=>absurd h (by omega)⟩))
      try (case l6=>intro e; first | exact Hnil.out e | (have:=Hnil.out e; omega) | (cases e; done))
      try (case o6=>first | exact encO_one (fun x hx=>HO.out.po x (List.mem_of_mem_drop hx)) | (intro u y1 y2 y3 hy hu; exact encO_one (fun x hx=>HO.out.po x (List.mem_of_mem_drop hx)) u (List.mem_flatMap.2 ⟨_,hy,hu⟩)))
      try (case m6=>unfold maxLen; omega)
      try (case b6=>omega)
      try (case s6=>first | omega | (simp; omega))
      intro v5 w5 ho5 hg5 _
      have hps:ps.length+1≤65536:=by omega
      have R5:Hid (Row 166 2 wz.heap.size wz w5 v5 (j+1+(n - (j+1))) ((O.take j).flatMap encO ++ encO (s,.slice (some ⟨b3,0,none⟩) (ps.length+1) q3,ps ++ [p]) ++ (O.drop (j+1)).flatMap encO)):=zh (R4.out.app hs4 (by first | exact ho5 | simpa using ho5) hg5)
      have RK5:=own_apart RK4.out R4.out.own (by decide) hg5
      obtain ⟨A6,c6,e6,hR6,hc6,hn6,_⟩:=own_shape2 RK5
      injection e6 with e6 e7 e8
      have hPX:Hid (PosR w5 w5.heap.size (s,.slice (some ⟨b3,0,none⟩) (ps.length+1) q3,ps ++ [p])):=zh ⟨⟨some ⟨b3,0,none⟩,q3,by simp,by rw [e6]; simpa using hR6,by simp; omega,fun e=>by cases e⟩,hs,by simp; omega⟩
      clear ho5 hg5 RK5 hR6
      go_wp2
      go_ret
      rw [F.out (.slice (some ⟨b3,0,none⟩) (ps.length+1) q3)]
      exact add_fin (HO.out.grow HBz.out (zG _)) hwz0 HBz.out R5.out hPX.out (by omega) (by omega) (by omega)
     ·go_wp2_with (at_builtin; (refine wpList_append_any rfl _ _ 164 rfl (wz.heap.size) 166 i0 _ 2 40 Tryz.underlying164 hi0 hz0 hz1 hz2 rfl (by decide) (v4) (j+1) (_) rfl (R4.out.own) _ _ _ ((O.drop (j+1)).flatMap encO) rfl ?r7 ?l7 ?o7 ?m7 ?b7 ?s7 ?_))
      try (case r7=>(have q:=reads_cut (p:=j+1) (HOg.out _ R4.out.bel).rd (by omega) hcap; rw [if_neg hcq] at q; rw [(XD (j+1)).out]; first | exact q | (simpa [add_lit] using q)))
      try (case l7=>intro e; first | (cases e; done) | (have:=Hnil.out e; omega) | (simp at e; done) | (simp at e; have:=Hnil.out e; omega))
      try (case o7=>first | exact encO_one (fun x hx=>HO.out.po x (List.mem_of_mem_drop hx)) | (intro u y1 y2 y3 hy hu; exact encO_one (fun x hx=>HO.out.po x (List.mem_of_mem_drop hx)) u (List.mem_flatMap.2 ⟨_,hy,hu⟩)))
      try (case m7=>unfold maxLen; omega)
      try (case b7=>omega)
      try (case s7=>first | omega | (simp; omega))
      intro v5 w5 ho5 hg5 _
      have hps:ps.length+1≤65536:=by omega
      have R5:Hid (Row 166 2 wz.heap.size wz w5 v5 (j+1+(n - (j+1))) ((O.take j).flatMap encO ++ encO (s,.slice (some ⟨b3,0,none⟩) (ps.length+1) q3,ps ++ [p]) ++ (O.drop (j+1)).flatMap encO)):=zh (R4.out.app hs4 (by first | exact ho5 | simpa using ho5) hg5)
      have RK5:=own_apart RK4.out R4.out.own (by decide) hg5
      obtain ⟨A6,c6,e6,hR6,hc6,hn6,_⟩:=own_shape2 RK5
      injection e6 with e6 e7 e8
      have hPX:Hid (PosR w5 w5.heap.size (s,.slice (some ⟨b3,0,none⟩) (ps.length+1) q3,ps ++ [p])):=zh ⟨⟨some ⟨b3,0,none⟩,q3,by simp,by rw [e6]; simpa using hR6,by simp; omega,fun e=>by cases e⟩,hs,by simp; omega⟩
      clear ho5 hg5 RK5 hR6
      go_wp2
      go_ret
      rw [F.out (.slice (some ⟨b3,0,none⟩) (ps.length+1) q3)]
      exact add_fin (HO.out.grow HBz.out (zG _)) hwz0 HBz.out R5.out hPX.out (by omega) (by omega) (by omega)
    ·rw [decide_eq_false hys] at hbqe
     have F:=zh (Fm2.out hys)
     clear hys Fh2 Fm2
     have RK0:Hid ((w1.alloc (.cells #[.int .i64 (p:Nat)] 3)).ownsRow w1.heap.size 3 1 (.slice (some ⟨w1.heap.size,0,none⟩) 1 1) 1 (nC [p])):=zh ⟨rfl,.inr ⟨w1.heap.size,1,_,rfl,zG _,World.alloc_heap_new w1 _,zG _,by unfold maxLen; omega,rfl,rfl⟩⟩
     go_wp2_with (at_builtin; (refine wpList_append_any rfl _ _ 164 rfl (wz.heap.size) 166 i0 _ 2 40 Tryz.underlying164 hi0 hz0 hz1 hz2 rfl (by decide) (v1) (j) ((O.take j).flatMap encO) rfl (((R1.out.alloc hs1 _).alloc (by simp; omega) _).own) _ _ _ ([.string s,.slice (some ⟨w1.heap.size,0,none⟩) 1 1]) rfl ?r8 ?l8 ?o8 ?m8 ?b8 ?s8 ?_))
     try (case r8=>(have q:=new_row (k:=2) (w1.alloc (.cells #[.int .i64 (p:Nat)] 3)) 166 [.string s,.slice (some ⟨w1.heap.size,0,none⟩) 1 1] 1 rfl (by decide); first | exact q | (simpa using q)))
     try (case l8=>intro e; cases e)
     try (case o8=>simp [Value.oneCell'])
     try (case m8=>unfold maxLen; omega)
     try (case b8=>omega)
     try (case s8=>first | omega | (simp; omega))
     intro v4 w4 ho4 hg4 _
     have R4:Hid (Row 166 2 wz.heap.size wz w4 v4 (j+1) ((O.take j).flatMap encO ++ encO (s,.slice (some ⟨w1.heap.size,0,none⟩) 1 1,[p]))):=zh (((R1.out.alloc hs1 _).alloc (by simp; omega) _).app (by simp; omega) ho4 hg4)
     have RK4:Hid (w4.ownsRow w1.heap.size 3 1 (.slice (some ⟨w1.heap.size,0,none⟩) 1 1) 1 (nC [p])):=zh (own_apart (RK0.out.alloc _) ((R1.out.alloc hs1 _).alloc (by simp; omega) _).own (by decide) hg4)
     have hs4:=R4.out.bel.size
     clear ho4 hg4 RK0
     have hjj:(0:Int)≤(j:Int):=by omega
     have hjt:((j:Int)).toNat=j:=by omega
     have hjn:(j:Int)≤(n:Int):=by omega
     by_cases hcq:c=j
     ·go_wp2_with (at_builtin; (refine wpList_append_any rfl _ _ 164 rfl (wz.heap.size) 166 i0 _ 2 40 Tryz.underlying164 hi0 hz0 hz1 hz2 rfl (by decide) (v4) (j+1) (_) rfl (R4.out.own) _ _ _ ((O.drop (j)).flatMap encO) rfl ?r9 ?l9 ?o9 ?m9 ?b9 ?s9 ?_))
      try (case r9=>(rw [List.drop_eq_nil_of_le (by omega)]; exact ⟨(by have h0:n - (j)=0:=(by omega); simp [h0]),fun h=>absurd h (by omega)⟩))
      try (case l9=>intro e; first | exact Hnil.out e | (have:=Hnil.out e; omega) | (cases e; done))
      try (case o9=>first | exact encO_one (fun x hx=>HO.out.po x (List.mem_of_mem_drop hx)) | (intro u y1 y2 y3 hy hu; exact encO_one (fun x hx=>HO.out.po x (List.mem_of_mem_drop hx)) u (List.mem_flatMap.2 ⟨_,hy,hu⟩)))
      try (case m9=>unfold maxLen; omega)
      try (case b9=>omega)
      try (case s9=>first | omega | (simp; omega))
      intro v5 w5 ho5 hg5 _
      have R5:Hid (Row 166 2 wz.heap.size wz w5 v5 (j+1+(n - j)) ((O.take j).flatMap encO ++ encO (s,.slice (some ⟨w1.heap.size,0,none⟩) 1 1,[p]) ++ (O.drop j).flatMap encO)):=zh (R4.out.app hs4 (by first | exact ho5 | simpa using ho5 | (rw [show n - j=0 from (by omega)]; simpa using ho5)) hg5)
      have RK5:=own_apart RK4.out R4.out.own (by decide) hg5
      obtain ⟨A6,c6,e6,hR6,hc6,hn6,_⟩:=own_shape2 RK5
      injection e6 with e6 e7 e8
      have hPX:Hid (PosR w5 w5.heap.size (s,.slice (some ⟨w1.heap.size,0,none⟩) 1 1,[p])):=zh ⟨⟨some ⟨w1.heap.size,0,none⟩,1,rfl,by rw [e6]; simpa using hR6,zG _,fun e=>by cases e⟩,hs,by simp⟩
      clear ho5 hg5 RK5 hR6
      go_wp2
      go_ret
      rw [F.out (.slice (some ⟨w1.heap.size,0,none⟩) 1 1)]
      exact add_fin (HO.out.grow HBz.out (zG _)) hwz0 HBz.out R5.out hPX.out (by omega) (by omega) (by omega)
     ·go_wp2_with (at_builtin; (refine wpList_append_any rfl _ _ 164 rfl (wz.heap.size) 166 i0 _ 2 40 Tryz.underlying164 hi0 hz0 hz1 hz2 rfl (by decide) (v4) (j+1) (_) rfl (R4.out.own) _ _ _ ((O.drop (j)).flatMap encO) rfl ?r10 ?l10 ?o10 ?m10 ?b10 ?s10 ?_))
      try (case r10=>(have q:=reads_cut (p:=j) (HOg.out _ R4.out.bel).rd (by omega) hcap; rw [if_neg hcq] at q; rw [(XD (j)).out]; first | exact q | (simpa [add_lit] using q)))
      try (case l10=>intro e; first | (cases e; done) | (have:=Hnil.out e; omega) | (simp at e; done) | (simp at e; have:=Hnil.out e; omega))
      try (case o10=>first | exact encO_one (fun x hx=>HO.out.po x (List.mem_of_mem_drop hx)) | (intro u y1 y2 y3 hy hu; exact encO_one (fun x hx=>HO.out.po x (List.mem_of_mem_drop hx)) u (List.mem_flatMap.2 ⟨_,hy,hu⟩)))
      try (case m10=>unfold maxLen; omega)
      try (case b10=>omega)
      try (case s10=>first | omega | (simp; omega))
      intro v5 w5 ho5 hg5 _
      have R5:Hid (Row 166 2 wz.heap.size wz w5 v5 (j+1+(n - j)) ((O.take j).flatMap encO ++ encO (s,.slice (some ⟨w1.heap.size,0,none⟩) 1 1,[p]) ++ (O.drop j).flatMap encO)):=zh (R4.out.app hs4 (by first | exact ho5 | simpa using ho5 | (rw [show n - j=0 from (by omega)]; simpa using ho5)) hg5)
      have RK5:=own_apart RK4.out R4.out.own (by decide) hg5
      obtain ⟨A6,c6,e6,hR6,hc6,hn6,_⟩:=own_shape2 RK5
      injection e6 with e6 e7 e8
      have hPX:Hid (PosR w5 w5.heap.size (s,.slice (some ⟨w1.heap.size,0,none⟩) 1 1,[p])):=zh ⟨⟨some ⟨w1.heap.size,0,none⟩,1,rfl,by rw [e6]; simpa using hR6,zG _,fun e=>by cases e⟩,hs,by simp⟩
      clear ho5 hg5 RK5 hR6
      go_wp2
      go_ret
      rw [F.out (.slice (some ⟨w1.heap.size,0,none⟩) 1 1)]
      exact add_fin (HO.out.grow HBz.out (zG _)) hwz0 HBz.out R5.out hPX.out (by omega) (by omega) (by omega)
   ·have hji:¬ (j:Int)<(n:Int):=by omega
    have F:=zh (Fm.out (fun h=>absurd h hkn))
    have HBz:=zh hbq.out
    obtain ⟨wz,hwz⟩:∃ wz,wz=wr:=⟨_,rfl⟩
    subst hwz
    have hb3:(0:Int)≤(j:Int):=by omega
    have hb4:(j:Int)≤(n:Int):=by omega
    have hb5:(j:Int)≤(c:Int):=by omega
    have hdj:decide ((j:Int)<(n:Int))=false:=decide_eq_false hji
    clear Fh Fm hbq
    have hwz0:=HBz.out.size
    have HOz:=zh (HO.out.grow HBz.out (zG _))
    have HOg:=zh (fun (wx:World) (hb:Below wz.heap.size wz wx)=>HOz.out.grow (hb.mono hwz0) (Nat.le_trans hwz0 hb.size))
    have R0:=zh (Row.empty 166 2 (by decide) wz)
    have hA0:Below wz.heap.size wz (wz.alloc (.cells #[] 166)):=(Below.refl _ _).alloc (zG _) _
    have HA0:=zh hA0
    have XT:=zh (encO_take O j)
    have XD:=fun q=>zh (encO_drop O q)
    clear hA0
    go_wp2_with (at_builtin; (refine wpList_append_any rfl _ _ 164 rfl (wz.heap.size) 166 i0 _ 2 40 Tryz.underlying164 hi0 hz0 hz1 hz2 rfl (by decide) (_) (0) ([]) rfl (R0.out.own) _ _ _ ((O.take j).flatMap encO) rfl ?r11 ?l11 ?o11 ?m11 ?b11 ?s11 ?_))
    try (case r11=>(have q:=reads_take (p:=j) (HOg.out _ HA0.out).rd (by omega); rw [XT.out]; first | exact q | (rw [World.size_alloc] at q; exact q)))
    try (case l11=>exact Hnil.out)
    try (case o11=>first | exact encO_one (fun x hx=>HO.out.po x (List.mem_of_mem_take hx)) | (intro u y1 y2 y3 hy hu; exact encO_one (fun x hx=>HO.out.po x (List.mem_of_mem_take hx)) u (List.mem_flatMap.2 ⟨_,hy,hu⟩)))
    try (case m11=>unfold maxLen; omega)
    try (case b11=>omega)
    try (case s11=>simp)
    intro v1 w1 ho1 hg1 _
    have R1:Hid (Row 166 2 wz.heap.size wz w1 v1 j ((O.take j).flatMap encO)):=zh ⟨ho1,R0.out.bel.grown hg1 (by simp) (fun b hb=>(R0.out.own.lt b hb).1)⟩
    have hs1:=R1.out.bel.size
    clear ho1 hg1 R0 HA0
    have RK0:Hid ((w1.alloc (.cells #[.int .i64 (p:Nat)] 3)).ownsRow w1.heap.size 3 1 (.slice (some ⟨w1.heap.size,0,none⟩) 1 1) 1 (nC [p])):=zh ⟨rfl,.inr ⟨w1.heap.size,1,_,rfl,zG _,World.alloc_heap_new w1 _,zG _,by unfold maxLen; omega,rfl,rfl⟩⟩
    go_wp2_with (at_builtin; (refine wpList_append_any rfl _ _ 164 rfl (wz.heap.size) 166 i0 _ 2 40 Tryz.underlying164 hi0 hz0 hz1 hz2 rfl (by decide) (v1) (j) ((O.take j).flatMap encO) rfl (((R1.out.alloc hs1 _).alloc (by simp; omega) _).own) _ _ _ ([.string s,.slice (some ⟨w1.heap.size,0,none⟩) 1 1]) rfl ?r12 ?l12 ?o12 ?m12 ?b12 ?s12 ?_))
    try (case r12=>(have q:=new_row (k:=2) (w1.alloc (.cells #[.int .i64 (p:Nat)] 3)) 166 [.string s,.slice (some ⟨w1.heap.size,0,none⟩) 1 1] 1 rfl (by decide); first | exact q | (simpa using q)))
    try (case l12=>intro e; cases e)
    try (case o12=>simp [Value.oneCell'])
    try (case m12=>unfold maxLen; omega)
    try (case b12=>omega)
    try (case s12=>first | omega | (simp; omega))
    intro v4 w4 ho4 hg4 _
    have R4:Hid (Row 166 2 wz.heap.size wz w4 v4 (j+1) ((O.take j).flatMap encO ++ encO (s,.slice (some ⟨w1.heap.size,0,none⟩) 1 1,[p]))):=zh (((R1.out.alloc hs1 _).alloc (by simp; omega) _).app (by simp; omega) ho4 hg4)
    have RK4:Hid (w4.ownsRow w1.heap.size 3 1 (.slice (some ⟨w1.heap.size,0,none⟩) 1 1) 1 (nC [p])):=zh (own_apart (RK0.out.alloc _) ((R1.out.alloc hs1 _).alloc (by simp; omega) _).own (by decide) hg4)
    have hs4:=R4.out.bel.size
    clear ho4 hg4 RK0
    have hjj:(0:Int)≤(j:Int):=by omega
    have hjt:((j:Int)).toNat=j:=by omega
    have hjn:(j:Int)≤(n:Int):=by omega
    by_cases hcq:c=j
    ·go_wp2_with (at_builtin; (refine wpList_append_any rfl _ _ 164 rfl (wz.heap.size) 166 i0 _ 2 40 Tryz.underlying164 hi0 hz0 hz1 hz2 rfl (by decide) (v4) (j+1) (_) rfl (R4.out.own) _ _ _ ((O.drop (j)).flatMap encO) rfl ?r13 ?l13 ?o13 ?m13 ?b13 ?s13 ?_))
     try (case r13=>(rw [List.drop_eq_nil_of_le (by omega)]; exact ⟨(by have h0:n - (j)=0:=(by omega); simp [h0]),fun h=>absurd h (by omega)⟩))
     try (case l13=>intro e; first | exact Hnil.out e | (have:=Hnil.out e; omega) | (cases e; done))
     try (case o13=>first | exact encO_one (fun x hx=>HO.out.po x (List.mem_of_mem_drop hx)) | (intro u y1 y2 y3 hy hu; exact encO_one (fun x hx=>HO.out.po x (List.mem_of_mem_drop hx)) u (List.mem_flatMap.2 ⟨_,hy,hu⟩)))
     try (case m13=>unfold maxLen; omega)
     try (case b13=>omega)
     try (case s13=>first | omega | (simp; omega))
     intro v5 w5 ho5 hg5 _
     have R5:Hid (Row 166 2 wz.heap.size wz w5 v5 (j+1+(n - j)) ((O.take j).flatMap encO ++ encO (s,.slice (some ⟨w1.heap.size,0,none⟩) 1 1,[p]) ++ (O.drop j).flatMap encO)):=zh (R4.out.app hs4 (by first | exact ho5 | simpa using ho5 | (rw [show n - j=0 from (by omega)]; simpa using ho5)) hg5)
     have RK5:=own_apart RK4.out R4.out.own (by decide) hg5
     obtain ⟨A6,c6,e6,hR6,hc6,hn6,_⟩:=own_shape2 RK5
     injection e6 with e6 e7 e8
     have hPX:Hid (PosR w5 w5.heap.size (s,.slice (some ⟨w1.heap.size,0,none⟩) 1 1,[p])):=zh ⟨⟨some ⟨w1.heap.size,0,none⟩,1,rfl,by rw [e6]; simpa using hR6,zG _,fun e=>by cases e⟩,hs,by simp⟩
     clear ho5 hg5 RK5 hR6
     go_wp2
     go_ret
     rw [F.out (.slice (some ⟨w1.heap.size,0,none⟩) 1 1)]
     exact add_fin (HO.out.grow HBz.out (zG _)) hwz0 HBz.out R5.out hPX.out (by omega) (by omega) (by omega)
    ·go_wp2_with (at_builtin; (refine wpList_append_any rfl _ _ 164 rfl (wz.heap.size) 166 i0 _ 2 40 Tryz.underlying164 hi0 hz0 hz1 hz2 rfl (by decide) (v4) (j+1) (_) rfl (R4.out.own) _ _ _ ((O.drop (j)).flatMap encO) rfl ?r14 ?l14 ?o14 ?m14 ?b14 ?s14 ?_))
     try (case r14=>(have q:=reads_cut (p:=j) (HOg.out _ R4.out.bel).rd (by omega) hcap; rw [if_neg hcq] at q; rw [(XD (j)).out]; first | exact q | (simpa [add_lit] using q)))
     try (case l14=>intro e; first | (cases e; done) | (have:=Hnil.out e; omega) | (simp at e; done) | (simp at e; have:=Hnil.out e; omega))
     try (case o14=>first | exact encO_one (fun x hx=>HO.out.po x (List.mem_of_mem_drop hx)) | (intro u y1 y2 y3 hy hu; exact encO_one (fun x hx=>HO.out.po x (List.mem_of_mem_drop hx)) u (List.mem_flatMap.2 ⟨_,hy,hu⟩)))
     try (case m14=>unfold maxLen; omega)
     try (case b14=>omega)
     try (case s14=>first | omega | (simp; omega))
     intro v5 w5 ho5 hg5 _
     have R5:Hid (Row 166 2 wz.heap.size wz w5 v5 (j+1+(n - j)) ((O.take j).flatMap encO ++ encO (s,.slice (some ⟨w1.heap.size,0,none⟩) 1 1,[p]) ++ (O.drop j).flatMap encO)):=zh (R4.out.app hs4 (by first | exact ho5 | simpa using ho5 | (rw [show n - j=0 from (by omega)]; simpa using ho5)) hg5)
     have RK5:=own_apart RK4.out R4.out.own (by decide) hg5
     obtain ⟨A6,c6,e6,hR6,hc6,hn6,_⟩:=own_shape2 RK5
     injection e6 with e6 e7 e8
     have hPX:Hid (PosR w5 w5.heap.size (s,.slice (some ⟨w1.heap.size,0,none⟩) 1 1,[p])):=zh ⟨⟨some ⟨w1.heap.size,0,none⟩,1,rfl,by rw [e6]; simpa using hR6,zG _,fun e=>by cases e⟩,hs,by simp⟩
     clear ho5 hg5 RK5 hR6
     go_wp2
     go_ret
     rw [F.out (.slice (some ⟨w1.heap.size,0,none⟩) 1 1)]
     exact add_fin (HO.out.grow HBz.out (zG _)) hwz0 HBz.out R5.out hPX.out (by omega) (by omega) (by omega)
end Go.Proofs.YtlfpfkallgkjdaaGreat.Ev


