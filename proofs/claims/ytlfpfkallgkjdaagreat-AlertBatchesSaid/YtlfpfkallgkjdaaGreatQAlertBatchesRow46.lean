/- alert.Near: the walk (printed by gen_alg.py). -/
import Derived.Test.YtlfpfkallgkjdaaGreatQAlertBatchesRow29
import Derived.Test.YtlfpfkallgkjdaaGreatQAlertBatchesRow0
set_option linter.unusedSimpArgs false
set_option linter.unusedVariables false
set_option maxRecDepth 20000
namespace Go.Proofs.YtlfpfkallgkjdaaGreat.Al
open Go.RowKit Go.Maps Ut Tk Qy Qp Ev Mv
theorem map_datum {κ:Type} {P:Program} {k:TypeId} {L:KeyLit κ} {w:World} {b n:Nat} {f : κ→Option Value} (h:MapV P k L w b n f):∃ D,w.ownsMap P k rawR b n D∧TabV L D f∧Maps.size D≤n:=by
 obtain ⟨D,h1,h2⟩:=h.ex
 exact ⟨D,h1,h2,h1.size_le⟩
theorem nodup_len:∀ {a m:List Int},a.Nodup→(∀ i∈a,i∈m)→a.length≤m.length
 | [],m,_,_=>Nat.zero_le _
 | x :: a,m,hn,h=>by
  obtain ⟨h1,h2⟩:=List.nodup_cons.1 hn
  have hx:x∈m:=h x (List.mem_cons_self ..)
  have ih:=nodup_len (a:=a) (m:=m.erase x) h2 (fun i hi=>by
   have hne:i≠x:=fun e=>h1 (e ▸ hi)
   exact (List.mem_erase_of_ne hne).2 (h i (List.mem_cons_of_mem _ hi)))
  rw [List.length_erase_of_mem hx] at ih
  have : 0<m.length:=List.length_pos_of_mem hx
  rw [List.length_cons]
  omega
structure Got (fs:List Fl) (l:List (Int × Kp)) (ds:List ByteArray) (ks:List Int):Prop where
 nd:ks.Nodup
 mem:∀ i,i∈ks↔∃ s∈ds,NearU fs l s i
theorem Got.start (fs:List Fl) (l:List (Int × Kp)):Got fs l [] []:=⟨List.nodup_nil,fun i=>by simp⟩
theorem Got.few {fs:List Fl} {l:List (Int × Kp)} {ds:List ByteArray} {ks:List Int} (h:Got fs l ds ks):ks.length≤l.length:=by
 have h1:∀ i∈ks,i∈l.map (·.1):=fun i hi=>by
  obtain ⟨s,_,k,hk,_⟩:=(h.mem i).1 hi
  rw [ids_mem,hk]; rfl
 have:=nodup_len h.nd h1
 simpa using this
structure GotIn (fs:List Fl) (l:List (Int × Kp)) (ds:List ByteArray) (x:ByteArray) (js ks:List Int):Prop where
 nd:ks.Nodup
 mem:∀ i,i∈ks↔(∃ s∈ds,NearU fs l s i)∨(i∈js∧NearU fs l x i)
theorem GotIn.few {fs:List Fl} {l:List (Int × Kp)} {ds:List ByteArray} {x:ByteArray} {js ks:List Int} (h:GotIn fs l ds x js ks):ks.length≤l.length:=by
 have h1:∀ i∈ks,i∈l.map (·.1):=fun i hi=>by
  rcases (h.mem i).1 hi with ⟨s,_,k,hk,_⟩ | ⟨_,k,hk,_⟩
  ·rw [ids_mem,hk]; rfl
  ·rw [ids_mem,hk]; rfl
 have:=nodup_len h.nd h1
 simpa using this
theorem GotIn.start {fs:List Fl} {l:List (Int × Kp)} {ds:List ByteArray} {ks:List Int} (h:Got fs l ds ks) (x:ByteArray):GotIn fs l ds x [] ks:=⟨h.nd,fun i=>by rw [h.mem]; simp⟩
theorem GotIn.fin {fs:List Fl} {l:List (Int × Kp)} {ds:List ByteArray} {x:ByteArray} {js ks:List Int} (h:GotIn fs l ds x js ks) (hj:∀ i,NearU fs l x i→i∈js):Got fs l (ds ++ [x]) ks:=⟨h.nd,fun i=>by
 rw [h.mem]
 constructor
 ·rintro (⟨s,hs,hn⟩ | ⟨_,hn⟩)
  ·exact ⟨s,List.mem_append_left _ hs,hn⟩
  ·exact ⟨x,by simp,hn⟩
 ·rintro ⟨s,hs,hn⟩
  rcases List.mem_append.1 hs with hs | hs
  ·exact .inl ⟨s,hs,hn⟩
  ·rw [List.mem_singleton] at hs
   subst hs
   exact .inr ⟨hj i hn,hn⟩⟩
theorem GotIn.no {fs:List Fl} {l:List (Int × Kp)} {ds:List ByteArray} {x:ByteArray} {js ks:List Int} (h:GotIn fs l ds x js ks) {i:Int} (hn:¬ NearU fs l x i):GotIn fs l ds x (js ++ [i]) ks:=⟨h.nd,fun j=>by
 rw [h.mem]
 constructor
 ·rintro (g | ⟨g1,g2⟩)
  ·exact .inl g
  ·exact .inr ⟨List.mem_append_left _ g1,g2⟩
 ·rintro (g | ⟨g1,g2⟩)
  ·exact .inl g
  ·rcases List.mem_append.1 g1 with g1 | g1
   ·exact .inr ⟨g1,g2⟩
   ·rw [List.mem_singleton] at g1
    subst g1
    exact absurd g2 hn⟩
theorem GotIn.yes {fs:List Fl} {l:List (Int × Kp)} {ds:List ByteArray} {x:ByteArray} {js ks:List Int} (h:GotIn fs l ds x js ks) {i:Int} (hn:NearU fs l x i) (hx:x ∉ ds) (hi:i ∉ js):GotIn fs l ds x (js ++ [i]) (ks ++ [i]):=by
 have hik:i ∉ ks:=fun hk=>by
  rcases (h.mem i).1 hk with ⟨s,hs,k,g1,g2,_⟩ | ⟨g,_⟩
  ·obtain ⟨k',g3,g4,_⟩:=hn
   rw [g1] at g3
   injection g3 with g3
   exact hx (by rw [← g4,← g3,g2]; exact hs)
  ·exact hi g
 refine ⟨?_,fun j=>?_⟩
 ·rw [List.nodup_append]
  exact ⟨h.nd,by simp,fun a ha b hb e=>by rw [List.mem_singleton] at hb; rw [e,hb] at ha; exact hik ha⟩
 ·rw [List.mem_append,h.mem,List.mem_append,List.mem_singleton]
  constructor
  ·rintro ((g | ⟨g1,g2⟩) | rfl)
   ·exact .inl g
   ·exact .inr ⟨.inl g1,g2⟩
   ·exact .inr ⟨.inr rfl,hn⟩
  ·rintro (g | ⟨g1 | rfl,g2⟩)
   ·exact .inl (.inl g)
   ·exact .inl (.inr ⟨g1,g2⟩)
   ·exact .inr rfl
section
variable {w:World} {X cn M1 M2:Nat} {F1:Int→Option Value} {F2:ByteArray→Option Nat} {l:List (Int × Kp)}
set_option maxHeartbeats 6400000 in
theorem near_any (t:Int) (F:Option Addr) (fn fc:Nat) (fs:List Fl) (hF:FlAt w w.heap.size F fn fc fs) (h:AlX w X cn M1 M2 F1 F2 l) (hll:l.length≤1000) :
  Calls Tryz.prog 16 #[.pointer (some ⟨X,0,none⟩),.agg #[.int .i64 t,.slice F fn fc]] w (NumsP w (if chkE fs=0 then nearL (hasT fs) l else [])):=by
 obtain ⟨i0,hi0,hz0,hz1,hz2⟩:=info_parts int_info
 have hb1:Below w.heap.size w (w.alloc (.cells #[.int .i64 t,.slice F fn fc] 33)):=(Below.refl _ _).alloc (zG _) _
 have HE1:=zh (Blk.new w 33 #[.int .i64 t,.slice F fn fc])
 have HFL:=zh hF
 have H:=zh h
 have hz:w.heap.size<(w.alloc (.cells #[.int .i64 t,.slice F fn fc] 33)).heap.size:=by simp
 have HB1:=zh hb1
 clear hF h hb1
 obtain ⟨RR,hRR⟩:∃ RR,(if chkE fs=0 then nearL (hasT fs) l else [])=RR:=⟨_,rfl⟩
 rw [hRR]
 have HRR:=zh hRR
 clear hRR
 have hmk:=mk4
 have hrn:=range_nil
 go_enter Tryz.func16,Tryz.ntmps16
 go_upto_region 1 with (fail)
 generalize w.alloc (.cells #[.int .i64 t,.slice F fn fc] 33)=w1 at *
 have q0:=(H.out.below HB1.out).c0
 have e0:=HE1.out.cell 0
 have e1:=HE1.out.cell 1
 simp only [zA,zB,zC] at e0 e1
 have c1:=none_no q0
 have c2:=check_any t F fn fc fs w1 ((HFL.out.keep (fun b o hb=>HB1.out.cell (p:=⟨b,o,none⟩) hb)).more HB1.out.size)
 by_cases hck:chkE fs=0
 ·have hRR:=HRR.out
  rw [if_pos hck] at hRR
  subst hRR
  clear HRR
  rw [hck] at c2
  have HCK:=zh hck
  clear hck
  go_upto_region 2 with (first
   | (go_at_call 33; refine c1.mono ?_; rintro e w2 ⟨rfl,rfl⟩)
   | (go_at_call 39; refine c2.mono ?_; rintro e w2 ⟨rfl,hb2⟩))
  have HB2:=zh (HB1.out.trans (hb2.mono HB1.out.size))
  have HE2:=zh (HE1.out.below hb2 HE1.out.lt)
  have hs2:=HB2.out.size
  have hs21:=hb2.size
  clear c1 c2 q0 e0 e1 hb2
  have hm2:MapV Tryz.prog 9 litS (w2.alloc (.map #[] 0)) w2.heap.size 0 noV:=MapV.made _ _ _ _
  have HMK:=zh hm2
  have hb2a:Below w2.heap.size w2 (w2.alloc (.map #[] 0)):=(Below.refl _ _).alloc (zG _) _
  have HB2a:=zh hb2a
  have hk0:keyOf Tryz.prog 9 (litS.val ⟨#[]⟩)=some (litS.lit ⟨#[]⟩):=keyS (by decide)
  have HK0:=zh hk0
  clear hm2 hb2a hk0
  obtain ⟨w3,hrun3,hm3,hg3⟩:=HMK.out.set lawS Tryz.underlying101 (by unfold maxLen; omega) ⟨#[]⟩ HK0.out (.agg #[])
  have hrun3':(Instr.mapUpdate 101 (.map (some w2.heap.size)) (.string ⟨#[]⟩) (.agg #[])).run Tryz.prog (w2.alloc (.map #[] 0))=.ok () w3:=hrun3
  clear hrun3
  go_upto_region 4 with (fail)
  rw [hrun3']
  clear hrun3'
  go_upto_region 4 with (fail)
  have hb3:Below w2.heap.size w2 w3:=HB2a.out.grown hg3 HB2a.out.size (fun j hj=>by injection hj with hj; omega)
  have hb4:Below w3.heap.size w3 (w3.alloc (.cells #[.map (some w2.heap.size)] 101)):=(Below.refl _ _).alloc (zG _) _
  have hb24:Below w2.heap.size w2 (w3.alloc (.cells #[.map (some w2.heap.size)] 101)):=hb3.trans (hb4.mono hb3.size)
  have hbx:=Blk.new w3 101 #[.map (some w2.heap.size)]
  have hs3:=hb3.size
  have hs34:=hb4.size
  have hg3s:=hg3.size
  have hs2a:(w2.alloc (.map #[] 0)).heap.size=w2.heap.size+1:=by simp
  have hm4:=hm3.below hb4
  have HB4:=zh (HB2.out.trans (hb24.mono hs2))
  have HE4:=zh (HE2.out.below hb24 (by omega))
  have HM4:Hid (HasM (w3.alloc (.cells #[.map (some w2.heap.size)] 101)) w3.heap.size w2.heap.size 1 (fun s=>s=ByteArray.empty)):=zh ⟨hbx,_,hm4,(fun s v hv=>by
   unfold putV noV at hv
   split at hv
   ·injection hv with hv; exact hv.symm
   ·cases hv),(fun s=>by
   unfold putV noV
   split
   ·rename_i e; exact ⟨fun _=>e,fun _=>rfl⟩
   ·rename_i e; exact ⟨fun h=>(nomatch h),fun h=>absurd h e⟩)⟩
  have hsz4:(w3.alloc (.cells #[.map (some w2.heap.size)] 101)).heap.size=w3.heap.size+1:=by simp
  clear hb3 hb4 hb24 hbx hm3 hg3 hm4 HMK HB2a HE2 HE1 HK0
  generalize w3.alloc (.cells #[.map (some w2.heap.size)] 101)=w4 at *
  have hGH:w2.heap.size<w3.heap.size:=by omega
  generalize hHn:w2.heap.size=Hn at *
  generalize hGn:w3.heap.size=Gn at *
  have e0:=HE4.out.cell 0
  have e1:=HE4.out.cell 1
  simp only [zA,zB,zC] at e0 e1
  have c3:=callsIn_wide.1 (terms_walk t F fn fc fs w4 ((HFL.out.keep (fun b o hb=>HB4.out.cell (p:=⟨b,o,none⟩) hb)).more HB4.out.size) HCK.out)
  go_wp2_with fail
  refine c3.mono ?_
  rintro e w5 ⟨TA,tn,tc,rfl,htc,htn,⟨⟨O,hO1,hO2,hO3⟩,hO4⟩,hb5⟩
  clear c3 e0 e1
  have hOl:O.length=tn:=by rw [← hO4,← hO1,List.length_map]
  have HT:Hid (∀ j (hj:j<O.length),∃ bt o P pc,TA=some ⟨bt,o,none⟩∧Tg w5 105 bt∧w5.cell? ⟨bt,o+j * 2,none⟩=some (.string O[j].1)∧w5.cell? ⟨bt,o+j * 2+1,none⟩=some (.slice P O[j].2.2.length pc)):=zh (fun j hj=>by
   obtain ⟨bt,o,P,pc,g1,g2,g3,g4,_⟩:=Mx.term_at hO2 hO3 hOl hj
   exact ⟨bt,o,P,pc,g1,g2,g3,g4⟩)
  have HSZ:Hid (∀ j (hj:j<O.length),O[j].1.size≤65):=zh (fun j hj=>by
   have h1:(O[j].1,O[j].2.2)∈addAll (raw fs):=by rw [← hO1]; exact List.mem_map.2 ⟨O[j],List.getElem_mem hj,rfl⟩
   exact (Mx.terms_sz HCK.out _ h1).1)
  have HHAS:Hid (∀ s,hasT fs s=true↔∃ x∈O,x.1=s):=zh (fun s=>by
   rw [hasT_mem,← hO1]
   constructor
   ·rintro ⟨x,hx,rfl⟩
    obtain ⟨y,hy,rfl⟩:=List.mem_map.1 hx
    exact ⟨y,hy,rfl⟩
   ·rintro ⟨y,hy,rfl⟩
    exact ⟨_,List.mem_map.2 ⟨y,hy,rfl⟩,rfl⟩)
  have HB5:=zh (HB4.out.trans (hb5.mono HB4.out.size))
  have HM5:=zh (HM4.out.below hb5)
  have hs5:=HB5.out.size
  have hs45:=hb5.size
  clear hO1 hO2 hO3 hO4 hb5 HM4 HE4
  go_wp2_with fail
  go_loopw [25] (fun i wr=>∃ k:Nat,k≤tn∧i=.int .i64 k∧Hid (HasM wr Gn Hn (k+1) (fun s=>s=ByteArray.empty∨∃ x∈O.take k,x.1=s))∧Hid (Chg (fun b=>b=Hn) w5 wr)) (fun i _=>tn - (intOf i).toNat)
  case atStart=>exact ⟨0,Nat.zero_le _,rfl,zh (by simpa using HM5.out),zh (Chg.refl _ _)⟩
  case round =>
   obtain ⟨k,hk,rfl,hM,hC⟩:=hrel
   have hsr:=hC.out.size
   by_cases hlt:k<tn
   ·have hkl:k<O.length:=by omega
    obtain ⟨f,hm1,hm2,hm3⟩:=hM.out.map
    obtain ⟨bt,o,P,pc,rfl,hTg,g0,g1⟩:=HT.out k hkl
    have hbt:bt<w5.heap.size:=hTg.lt
    have hbH:bt≠Hn:=fun e=>by
     obtain ⟨f5,q1,_⟩:=HM5.out.map
     obtain ⟨cs,fr,q2⟩:=hTg
     rw [e] at q2
     exact (mo_v q1).not ⟨cs,_,fr,q2⟩
    have d0:=(hC.out.cell (p:=⟨bt,o+k * 2,none⟩) hbt hbH).trans g0
    have d1:=(hC.out.cell (p:=⟨bt,o+k * 2+1,none⟩) hbt hbH).trans g1
    have hsz:=HSZ.out k hkl
    have hts:O.take (k+1)=O.take k ++ [O[k]]:=List.take_succ_eq_append_getElem hkl
    have HTS:=zh hts
    have hst:∀ s,(s=ByteArray.empty∨∃ x∈O.take (k+1),x.1=s)↔((s=ByteArray.empty∨∃ x∈O.take k,x.1=s)∨s=O[k].1):=fun s=>by
     rw [hts]
     constructor
     ·rintro (e | ⟨x,hx,e⟩)
      ·exact .inl (.inl e)
      ·rcases List.mem_append.1 hx with hx | hx
       ·exact .inl (.inr ⟨x,hx,e⟩)
       ·rw [List.mem_singleton] at hx
        exact .inr (by rw [← e,hx])
     ·rintro ((e | ⟨x,hx,e⟩) | e)
      ·exact .inl e
      ·exact .inr ⟨x,List.mem_append_left _ hx,e⟩
      ·exact .inr ⟨O[k],List.mem_append_right _ (List.mem_singleton.2 rfl),e.symm⟩
    have HST:=zh hst
    have hkk:=keyS (s:=O[k].1) (by unfold maxLen; omega)
    have HKK:=zh hkk
    have hg0:=hM.out.box.cell 0
    simp only [zA,zB] at hg0
    have hbw:Below wr.heap.size wr (wr.alloc (.cells #[.string O[k].1,.slice P O[k].2.2.length pc] 105)):=(Below.refl _ _).alloc (zG _) _
    have hgG:=(hbw.cell (p:=⟨Gn,0,none⟩) hM.out.box.lt).trans hg0
    have htb:=(Blk.new wr 105 #[.string O[k].1,.slice P O[k].2.2.length pc]).cell 0
    simp only [zA,zB] at htb
    have HBX:=zh (hM.out.box.below hbw hM.out.box.lt)
    have HM1:=zh (hm1.below hbw)
    have HCw:=zh (hC.out.then_new hbw)
    have HF:=zh (And.intro hm2 hm3)
    have HNE:Hid (Gn≠Hn):=zh (by omega)
    clear hm1 hm2 hm3 hM hC g0 g1 hts hst hkk hbw hTg hg0
    generalize O[k].1=sk at *
    generalize O[k].2.2.length=plk at *
    go_upto_region 7 with (fail)
    generalize wr.alloc (.cells #[.string sk,.slice P plk pc] 105)=wa at *
    go_wp2_with (first
     | (at_mapUpdate; refine wpList_set_v rfl (.tmp 29) (.tmp 31) (.tmp 32) 101 100 rfl lawS Tryz.underlying101 Hn (k+1) f rfl HM1.out (by unfold maxLen; omega) sk (.agg #[]) rfl rfl HKK.out ?_; intro w6 hm6 hg6)
     | go_in)
    have HR1:Hid (HasM w6 Gn Hn (k+1+1) (fun s=>s=ByteArray.empty∨∃ x∈O.take (k+1),x.1=s)):=zh (by
     refine ⟨(hg6.block Gn HBX.out.lt (fun e=>by injection e with e; exact HNE.out e)).trans HBX.out,_,hm6,fun s v hv=>?_,fun s=>?_⟩
     ·unfold putV at hv
      split at hv
      ·injection hv with hv; exact hv.symm
      ·exact HF.out.1 s v hv
     ·rw [HST.out s,← HF.out.2 s]
      unfold putV
      split
      ·rename_i e; exact ⟨fun _=>.inr e,fun _=>rfl⟩
      ·rename_i e; exact ⟨fun h=>.inl h,fun h=>h.resolve_right e⟩)
    have HC6:Hid (Chg (fun b=>b=Hn) w5 w6):=zh (HCw.out.trans (O':=fun b=>b=Hn) (Chg.of_grown hg6 (fun b hb=>by injection hb with hb; exact hb.symm)) (fun x hx=>.inl hx))
    clear hm6 hg6
    go_wp2
    go_roundw
    case rel=>exact ⟨k+1,by omega,by go_num,HR1,HC6⟩
    case measure=>simp [intOf]; omega
   ·obtain rfl:k=tn:=by omega
    have hall:O.take k=O:=by rw [← hOl]; exact List.take_length
    rw [hall] at hM
    have hMF:HasM wr Gn Hn (k+1) (fun s=>hasK fs s=true):=by
     obtain ⟨f,q1,q2,q3⟩:=hM.out.map
     refine ⟨hM.out.box,f,q1,q2,fun s=>(q3 s).trans ?_⟩
     show _↔hasK fs s=true
     unfold hasK
     rw [Bool.or_eq_true,decide_eq_true_eq,HHAS.out s]
    have hbr:Below w.heap.size w wr:=HB5.out.trans (hC.out.below (B:=w.heap.size) (by omega) (fun b hb=>by rw [hb]; omega))
    have HMF:=zh hMF
    have HBR:=zh hbr
    clear hM hC hall hMF hbr HT HSZ HHAS HB5 HM5
    generalize k+1=hc at *
    obtain ⟨f,q1,q2,q3⟩:=HMF.out.map
    obtain ⟨D,hown,hTab,hDs⟩:=map_datum q1
    have HTAB:=zh hTab
    have HFI:=zh q3
    have hg0:=HMF.out.box.cell 0
    simp only [zA,zB] at hg0
    have hsr2:=HBR.out.size
    have hHl:Hn<wr.heap.size:=(mo_v q1).lt
    have hGl:Gn<wr.heap.size:=HMF.out.box.lt
    clear q1 q2 q3 hTab
    go_wp2_with (first
     | (at_range; refine wpList_range_own _ rfl _ 101 rfl 9 100 lawS Tryz.underlying101 rawR Hn hc D rfl hown ?_; intro w0 hrg0 hg0' hs0)
     | go_in)
    try go_frame
    have hb0:Below wr.heap.size wr w0:=(Below.refl _ _).grown hg0' (zG _) (fun j hj=>by cases hj)
    have HB0:=zh (HBR.out.trans (hb0.mono hsr2))
    have HM0:=zh (HMF.out.below hb0)
    clear hg0' hown hg0 hb0 HMF HBR
    generalize hR1:wr.heap.size=R1 at *
    have hsw0:w.heap.size≤R1:=hsr2
    go_loopw [8] (fun v wr=>∃ (u:Value) (left:Lit→Bool) (cnt:Nat) (ds:List ByteArray) (ks:List Int),u=v∧wr.ranges Tryz.prog 9 rawR Hn R1 hc D left cnt∧Hid (WayK litS D f left ds)∧Hid (Got fs l ds ks)∧Hid (wr.ownsRow (R1+1) 3 1 u ks.length (itv ks))∧Hid (HasM wr Gn Hn hc (fun s=>hasK fs s=true))∧Hid (Below w.heap.size w wr)∧R1<wr.heap.size)
     (fun _ wr=>wr.rangeLeft Hn R1)
    case atStart=>exact ⟨_,_,_,[],[],rfl,hrg0,zh (WayK.start HTAB.out),zh (Got.start _ _),zh (World.ownsRow_nil _ _ _ _),HM0,HB0,by omega⟩
    case round =>
     obtain ⟨u,left,cnt,ds,ks,rfl,hrg,hW,hGot,hO,hM,hB,hzr⟩:=hrel
     have hkf:=hGot.out.few
     go_wp2_with (first
      | (at_next; refine wpList_next_ranges _ rfl _ rfl 9 lawS rawR Value.string (fun v:Value=>v) (fun key kl hkey=>by obtain ⟨x,rfl,_⟩:=keyS_inv hkey; exact ⟨x,rfl⟩) (fun v y hv=>⟨v,rfl⟩) Hn R1 _ _ _ _ rfl hrg ?_ ?_)
      | go_in)
     ·intro hc0 hl0
      have hfin:=hW.out.fin hl0
      have hst:(ks.mergeSort fun x y=>decide (x≤y))=nearL (hasT fs) l:=sort_ids hGot.out.nd (nearL_up H.out.al.up) (fun i=>by
       rw [hGot.out.mem i,← nearU_all H.out.al.up H.out.al.ok i]
       constructor
       ·rintro ⟨s,hs,hn⟩
        exact ⟨s,(HFI.out s).1 ((hfin s).1 hs),hn⟩
       ·rintro ⟨s,hs,hn⟩
        exact ⟨s,(hfin s).2 ((HFI.out s).2 hs),hn⟩)
      have HSTT:=zh hst
      have CS:=zh (sortI_own hO.out (by omega))
      have HBS:=zh (fun b (hb:Value.ownBlock _=some b)=>(hO.out.lt b hb).1)
      clear hrg hl0 hW hfin hst
      go_wp2_with fail
      refine CS.out.mono ?_
      rintro e w7 ⟨rfl,ho7,hg7⟩
      rw [HSTT.out] at ho7
      have hlen:ks.length=(nearL (hasT fs) l).length:=by rw [← HSTT.out]; simp
      rw [hlen] at ho7
      have FIN:Hid (NumsP w (nearL (hasT fs) l) (.returned _) w7):=zh ⟨_,rfl,own_mono ho7 (by omega),hB.out.grown hg7 hB.out.size (fun b hb=>by have:=HBS.out b hb; omega)⟩
      clear ho7 hg7 hlen CS hO HBS
      go_wp2
      go_ret
      exact FIN.out
     ·intro x c klx ya yb w3 cnt1 hkey hlx hv hat hrg1 hlt1 hg1 hs1 hen
      obtain ⟨x',ex,rfl,hxs⟩:=keyS_inv hkey
      injection ex with ex
      subst ex
      obtain ⟨hxF,hxn,hW1⟩:=hW.out.step HTAB.out hlx
      have hO1:=hO.out.kept hg1 (by cases hv':Value.ownBlock _ with | none=>exact .inl rfl | some g=>exact .inr (fun e=>by injection e with e; have:=(hO.out.lt g hv').1; omega))
      have hB1:=hB.out.grown hg1 hB.out.size (fun j hj=>by injection hj with hj; omega)
      have hM1:HasM w3 Gn Hn hc (fun s=>hasK fs s=true):=by
       obtain ⟨f,q1,q2,q3⟩:=hM.out.map
       exact ⟨(hg1.block Gn hM.out.box.lt (fun e=>by injection e with e; omega)).trans hM.out.box,f,q1.same (hg1.block Hn (mo_v q1).lt (fun e=>by injection e with e; omega)),q2,q3⟩
      have HW1:=zh hW1
      have HXN:=zh hxn
      have HO1:=zh hO1
      have HB1':=zh hB1
      have HM1:=zh hM1
      have HRG1:=zh hrg1
      have hleft1:=hrg1.left_eq
      have hleft0:=hrg.left_eq
      have HLT:Hid (w3.rangeLeft Hn R1<wr.rangeLeft Hn R1):=zh (by rw [hleft1,hleft0]; exact hlt1)
      have HLTE:Hid (cnt1<wr.rangeLeft Hn R1):=zh (by rw [hleft0]; exact hlt1)
      have HA3:=zh (H.out.below hB1)
      have q1:=HA3.out.c1
      have hkx:=keyS hxs
      have HKX:=zh hkx
      have hzw:R1<w3.heap.size:=by omega
      clear hW hW1 hO hO1 hB hB1 hM hM1 hg1 hat hkey hv hlx hs1 hxF hxn hkx hrg1 hrg hleft1 hleft0 hlt1
      cases hF2:F2 x with
      | none =>
       have hnos:=HA3.out.al.nos x hF2
       have HF2:=zh hF2
       have hgot2:Got fs l (ds ++ [x]) ks:=(GotIn.start hGot.out x).fin (fun i ⟨k',g1,g2,_⟩=>absurd ⟨k',g1,g2⟩ (hnos i))
       have HG2:=zh hgot2
       have hb4:Below w3.heap.size w3 (w3.alloc (.mapIter none 0 #[] 0)):=(Below.refl _ _).alloc (zG _) _
       have HRG2:=zh (HRG1.out.kept (grow_of_below hb4 none) (by simp) (by simp))
       have HO2:=zh (HO1.out.alloc (.mapIter none 0 #[] 0))
       have HM2:=zh (HM1.out.below hb4)
       have HB2':=zh (HB1'.out.trans (hb4.mono HB1'.out.size))
       have hz4:w3.heap.size<(w3.alloc (.mapIter none 0 #[] 0)).heap.size:=by simp
       have hit:(w3.alloc (.mapIter none 0 #[] 0)).heap[w3.heap.size]?=some (.mapIter none 0 #[] 0):=heap_alloc_new w3 _
       clear hF2 hnos hgot2 hb4
       go_upto_region 14 with (first
        | (at_lookup; refine wpList_look_v rfl (.tmp 43) (.tmp 44) 84 106 rfl lawS Tryz.underlying84 (Tryz.zeroValue106 _) M2 cn (F2v F2) rfl HA3.out.al.m2 x rfl HKX.out (.map none) (by unfold F2v; rw [HF2.out]; rfl) ?_)
        | go_in)
       try go_frame
       generalize w3.alloc (.mapIter none 0 #[] 0)=w4 at *
       have hnx:=next_nil hit
       have HLF:Hid (w4.rangeLeft Hn R1<wr.rangeLeft Hn R1):=zh (by
        have e1:=HRG2.out.left_eq
        have e2:=HRG1.out.left_eq
        have:=HLT.out
        rw [e2] at this
        rw [e1]
        exact this)
       go_loopw [8] (fun v9 wr9=>v9=u∧wr9=w4) (fun _ _=>0)
       case atStart=>exact ⟨rfl,rfl⟩
       case round =>
        obtain ⟨rfl,rfl⟩:=hrel
        go_wp2
        go_roundw
        case rel=>exact ⟨_,_,_,ds ++ [x],ks,rfl,HRG2.out,HW1,HG2,HO2,HM2,HB2',by omega⟩
        case measure=>exact HLF.out
      | some m =>
       obtain ⟨fm,hfm,hfi⟩:=HA3.out.al.sub x m hF2
       have hmn:=HA3.out.al.n1 x m hF2
       obtain ⟨Dm,hownm,hTm,hDms⟩:=map_datum hfm
       have hml:=(mo_v hfm).lt
       have hmH:m≠Hn:=fun e=>by
        have h1:=(H.out.al.sub x m hF2).mo.lt
        omega
       have HF2:=zh hF2
       have HTm:=zh hTm
       have HFm:=zh hfi
       have HMN:=zh hmn
       clear hF2 hfi hTm hmn hfm
       go_upto_region 14 with (first
        | (at_lookup; refine wpList_look_v rfl (.tmp 43) (.tmp 44) 84 106 rfl lawS Tryz.underlying84 (Tryz.zeroValue106 _) M2 cn (F2v F2) rfl HA3.out.al.m2 x rfl HKX.out (.map (some m)) (by unfold F2v; rw [HF2.out]; rfl) ?_)
        | (at_range; refine wpList_range_own _ rfl _ 106 rfl 3 100 lawI Tryz.underlying106 rawR m cn Dm rfl hownm ?_; intro w4 hrg4 hg4 hs4)
        | go_in)
       try go_frame
       have hb4:Below w3.heap.size w3 w4:=(Below.refl _ _).grown hg4 (zG _) (fun j hj=>by cases hj)
       have HRG2:=zh (HRG1.out.kept hg4 (by simp) (by simp))
       have HO4:=zh (HO1.out.kept hg4 (by cases Value.ownBlock _ <;> simp))
       have HM4:=zh (HM1.out.below hb4)
       have HB4':=zh (HB1'.out.trans (hb4.mono HB1'.out.size))
       have HGI:=zh (GotIn.start hGot.out x)
       have HNE4:Hid (∀ b,u.ownBlock=some b→b≠w3.heap.size):=zh (fun b hb e=>by have:=(HO1.out.lt b hb).2; omega)
       have hmw:m<w.heap.size:=(H.out.al.sub x m HF2.out).mo.lt
       have hR12:R1<w3.heap.size:=hzw
       clear hb4 hg4 hownm HRG1 HO1 HM1 HB1' q1 HA3
       generalize hR2:w3.heap.size=R2 at *
       clear hR2
       generalize (fun z=>left z && !z.sameKey (litS.lit x))=left1 at *
       have HL1:Hid (cnt1<wr.rangeLeft Hn R1):=HLTE
       clear HLT
       go_loopw [8] (fun v9 wr=>∃ (u:Value) (left2:Lit→Bool) (cnt2:Nat) (js ks2:List Int),u=v9∧wr.ranges Tryz.prog 3 rawR m R2 cn Dm left2 cnt2∧Hid (wr.ranges Tryz.prog 9 rawR Hn R1 hc D left1 cnt1)∧Hid (WayK litI Dm fm left2 js)∧Hid (GotIn fs l ds x js ks2)∧Hid (wr.ownsRow (R1+1) 3 1 u ks2.length (itv ks2))∧Hid (HasM wr Gn Hn hc (fun s=>hasK fs s=true))∧Hid (Below w.heap.size w wr)∧Hid (∀ b,u.ownBlock=some b→b≠R2)∧R2<wr.heap.size)
        (fun _ wr=>wr.rangeLeft m R2)
       case atStart=>exact ⟨_,_,_,[],ks,rfl,hrg4,HRG2,zh (WayK.start HTm.out),HGI,HO4,HM4,HB4',HNE4,by omega⟩
       case round =>
        obtain ⟨u2,left2,cnt2,js,ks2,rfl,hrgI,hRO,hWI,hGI,hOI,hMI,hBI,hNI,hzI⟩:=hrel
        have hkf2:=hGI.out.few
        go_wp2_with (first
         | (at_next; refine wpList_next_ranges _ rfl _ rfl 3 lawI rawR (Value.int .i64) (fun v:Value=>v) (fun key kl hkey=>by obtain ⟨x,rfl,_⟩:=keyI_inv hkey; exact ⟨x,rfl⟩) (fun v y hv=>⟨v,rfl⟩) m R2 _ _ _ _ rfl hrgI ?_ ?_)
         | go_in)
        ·intro hc0 hl0
         have hfin:=hWI.out.fin hl0
         have hgot2:Got fs l (ds ++ [x]) ks2:=hGI.out.fin (fun i hi=>(hfin i).2 ((HFm.out i).2 (by
          obtain ⟨k',g1,g2,_⟩:=hi
          exact ⟨k',g1,g2⟩)))
         have HG2:=zh hgot2
         have hle:=hRO.out.left_eq
         clear hrgI hl0 hWI hfin hgot2 hGI
         go_wp2
         go_roundw
         case rel=>exact ⟨_,_,_,ds ++ [x],ks2,rfl,hRO.out,HW1,HG2,hOI,hMI,hBI,by omega⟩
         case measure=>rw [hle]; exact HL1.out
        ·intro i ci kli yai ybi w5 cnt3 hkeyI hlxI hvI hatI hrg5 hlt5 hg5 hs5 henI
         obtain ⟨i',exi,rfl,hxi⟩:=keyI_inv hkeyI
         injection exi with _ exi
         subst exi
         obtain ⟨hiF,hin,hWI1⟩:=hWI.out.step HTm.out hlxI
         obtain ⟨k',hk1,hk2⟩:=(HFm.out i).1 hiF
         have hO5:=hOI.out.kept hg5 (by cases hv':Value.ownBlock _ with | none=>exact .inl rfl | some g=>exact .inr (fun e=>by injection e with e; exact hNI.out g hv' e))
         have hB5:=hBI.out.grown hg5 hBI.out.size (fun j hj=>by injection hj with hj; omega)
         have hM5:HasM w5 Gn Hn hc (fun s=>hasK fs s=true):=by
          obtain ⟨f',q1,q2,q3⟩:=hMI.out.map
          exact ⟨(hg5.block Gn hMI.out.box.lt (fun e=>by injection e with e; omega)).trans hMI.out.box,f',q1.same (hg5.block Hn (mo_v q1).lt (fun e=>by injection e with e; omega)),q2,q3⟩
         have hRO5:=hRO.out.kept hg5 (fun e=>by injection e with e; omega) (fun e=>by injection e with e; omega)
         have HA5:=zh (H.out.below hB5)
         have q05:=HA5.out.c0
         obtain ⟨kv,hkv1,hkv2⟩:=HA5.out.al.kv i k' hk1
         have hko:=HA5.out.al.ok _ (get_mem hk1)
         obtain ⟨A1,n1,c1,A2,n2,c2,A,c,rfl,_,hRn⟩:=hkv2.parts
         have CN:=needs_in (c:=c) hM5 hko hRn
         have hnu:nearB (hasK fs) k'=true↔NearU fs l x i:=by
          constructor
          ·exact fun h=>⟨k',hk1,hk2,h⟩
          ·rintro ⟨k2,g1,_,g3⟩
           rw [hk1] at g1
           injection g1 with g1
           rw [g1]; exact g3
         have HNU:=zh hnu
         have HCN:=zh CN
         have HWI1:=zh hWI1
         have HIN:=zh hin
         have HO5:=zh hO5
         have HB5:=zh hB5
         have HM5:=zh hM5
         have HRO5:=zh hRO5
         have HRG5:=zh hrg5
         have HKV1:Hid (F1 i=some _):=zh hkv1
         have HKI:=zh (keyI hxi)
         have hml0:=hrgI.left_eq
         have HLT5:Hid (cnt3<wr.rangeLeft m R2):=zh (by rw [hml0]; exact hlt5)
         have hz5:R2<w5.heap.size:=by omega
         have hsB5:=hB5.size
         clear hWI hWI1 hOI hO5 hBI hB5 hMI hM5 hRO hRO5 hg5 hatI hkeyI hvI hlxI hs5 hiF hin hk1 hk2 hkv1 hkv2 hko hRn CN hnu hrg5 hrgI hml0 hlt5
         generalize k'.needs.length=nn at *
         generalize k'.text=tx at *
         generalize k'.q.kind=qk at *
         generalize k'.q.name=qn at *
         cases hnb:nearB (hasK fs) k' with
         | false =>
          rw [hnb] at HCN
          have hgn:GotIn fs l ds x (js ++ [i]) ks2:=hGI.out.no (fun h=>by rw [HNU.out.2 h] at hnb; cases hnb)
          have HGN:=zh hgn
          clear hnb hgn hGI HNU
          go_upto_region 17 with (first
           | (at_lookup; refine wpList_look_v rfl (.tmp 54) (.tmp 55) 83 92 rfl lawI Tryz.underlying83 (Tryz.zeroValue92 _) M1 l.length F1 rfl HA5.out.al.m1.v i rfl HKI.out (.agg #[.string tx,.int .i64 qk,.string qn,.slice A1 n1 c1,.slice A2 n2 c2,.slice A nn c]) (by rw [HKV1.out]; rfl) ?_)
           | go_in)
          rw [field_needs]
          go_wp2_with (first
           | (go_at_call 41; refine HCN.out.mono ?_; rintro e w7 ⟨rfl,hb7⟩)
           | go_in)
          have HRG7:=zh (HRG5.out.kept (grow_of_below hb7 none) (by simp) (by simp))
          have HRO7:=zh (HRO5.out.kept (grow_of_below hb7 none) (by simp) (by simp))
          have HO7:=zh (HO5.out.kept (grow_of_below hb7 none) (by cases Value.ownBlock _ <;> simp))
          have HM7:=zh (HM5.out.below hb7)
          have HB7:=zh (HB5.out.trans (hb7.mono hsB5))
          have hs7:=hb7.size
          have hle7:=HRG7.out.left_eq
          go_roundw
          case rel=>exact ⟨_,_,_,js ++ [i],ks2,rfl,HRG7.out,HRO7,HWI1,HGN,HO7,HM7,HB7,hNI,by omega⟩
          case measure=>rw [hle7]; exact HLT5.out
         | true =>
          rw [hnb] at HCN
          have hgn:GotIn fs l ds x (js ++ [i]) (ks2 ++ [i]):=hGI.out.yes (HNU.out.1 hnb) HXN.out HIN.out
          have HGN:=zh hgn
          clear hnb hgn hGI HNU
          go_upto_region 18 with (first
           | (at_lookup; refine wpList_look_v rfl (.tmp 54) (.tmp 55) 83 92 rfl lawI Tryz.underlying83 (Tryz.zeroValue92 _) M1 l.length F1 rfl HA5.out.al.m1.v i rfl HKI.out (.agg #[.string tx,.int .i64 qk,.string qn,.slice A1 n1 c1,.slice A2 n2 c2,.slice A nn c]) (by rw [HKV1.out]; rfl) ?_)
           | go_in)
          rw [field_needs]
          go_upto_region 18 with (first
           | (go_at_call 41; refine HCN.out.mono ?_; rintro e w7 ⟨rfl,hb7⟩)
           | go_in)
          have HRG7:=zh (HRG5.out.kept (grow_of_below hb7 none) (by simp) (by simp))
          have HRO7:=zh (HRO5.out.kept (grow_of_below hb7 none) (by simp) (by simp))
          have HO7:=zh (HO5.out.kept (grow_of_below hb7 none) (by cases Value.ownBlock _ <;> simp))
          have HM7:=zh (HM5.out.below hb7)
          have HB7:=zh (HB5.out.trans (hb7.mono hsB5))
          have hs7:=hb7.size
          clear hb7
          have hb8:Below w7.heap.size w7 (w7.alloc (.cells #[.int .i64 i] 3)):=(Below.refl _ _).alloc (zG _) _
          have HM8:=zh (HM7.out.below hb8)
          have HB8:=zh (HB7.out.trans (hb8.mono HB7.out.size))
          clear hb8
          have HGR9:=zh HRG7.out.left_eq
          go_wp2_with (first
           | (at_builtin; refine wpList_append_own_at _ rfl _ _ 38 rfl (R1+1) 3 i0 _ 1 8 Tryz.underlying38 hi0 hz0 hz1 hz2 rfl (by decide) _ ks2.length (itv ks2) rfl (HO7.out.alloc _) ⟨w7.heap.size,0,none⟩ 1 1 [.int .i64 i] rfl rfl (World.news_of_block (cs:=#[.int .i64 i]) (t:=3) (fr:=(0,0)) (heap_alloc_new w7 _)) (by simp [Value.oneCell']) ?k1 ?k2 ?k3 ?_)
           | go_in)
          case k1=>unfold maxLen; omega
          case k2=>omega
          try (case k3=>rw [World.size_alloc]; omega)
          intro v9 w9 ho9 hg9 _ hat9
          have hs8:(w7.alloc (.cells #[.int .i64 i] 3)).heap.size=w7.heap.size+1:=by simp
          have hne:∀ k:Nat,k≤R1→some k≠u2.ownBlock:=fun k hk e=>by have:=(HO7.out.lt k e.symm).1; omega
          have hR2n:some R2≠u2.ownBlock:=fun e=>hNI.out R2 e.symm rfl
          have hrg9:=(HRG7.out.kept (World.grownBy_alloc _ _ none) (by simp) (by simp)).kept hg9 (hne m (by omega)) hR2n
          have hro9:=(HRO7.out.kept (World.grownBy_alloc _ _ none) (by simp) (by simp)).kept hg9 (hne Hn (by omega)) (hne R1 (zG _))
          have hb9:=HB8.out.grown hg9 (by omega) (fun j hj=>by have:=(HO7.out.lt j hj).1; omega)
          have hM9:HasM w9 Gn Hn hc (fun s=>hasK fs s=true):=by
           obtain ⟨f',q1,q2,q3⟩:=HM8.out.map
           exact ⟨(hg9.block Gn HM8.out.box.lt (hne Gn (by omega))).trans HM8.out.box,f',q1.same (hg9.block Hn (mo_v q1).lt (hne Hn (by omega))),q2,q3⟩
          have HN9:Hid (∀ b,v9.ownBlock=some b→b≠R2):=zh (fun b hb e=>by
           rcases hat9 with h1 | h1
           ·exact hNI.out b (by rw [← h1]; exact hb) e
           ·rw [hb] at h1
            injection h1 with h1
            omega)
          have Ho9:Hid (w9.ownsRow (R1+1) 3 1 v9 (ks2 ++ [i]).length (itv (ks2 ++ [i]))):=zh (by
           have e1:itv (ks2 ++ [i])=itv ks2 ++ [.int .i64 i]:=by simp [itv]
           rw [e1,List.length_append]
           exact ho9)
          have hs9:=hg9.size
          have hle9:=hrg9.left_eq
          have HRG9:=zh hrg9
          have HRO9:=zh hro9
          have HB9:=zh hb9
          have HM9:=zh hM9
          clear ho9 hg9 hrg9 hro9 hb9 hM9 hne hR2n hat9
          go_wp2
          go_roundw
          case rel=>exact ⟨_,_,_,js ++ [i],ks2 ++ [i],rfl,HRG9.out,HRO9,HWI1,HGN,Ho9,HM9,HB9,HN9,by omega⟩
          case measure=>rw [hle9]; exact HLT5.out
 ·have hRR:=HRR.out
  rw [if_neg hck] at hRR
  subst hRR
  clear HRR
  have hne:(chkE fs != 0)=true:=by simpa using hck
  have FIN:Hid (∀ w2,Below w1.heap.size w1 w2→NumsP w [] (.returned (.slice none 0 0)) w2):=zh (fun w2 hb2=>⟨_,rfl,World.ownsRow_nil _ _ _ _,HB1.out.trans (hb2.mono HB1.out.size)⟩)
  clear hck
  generalize chkE fs=ce at *
  go_wp2_with (first
   | (go_at_call 33; refine c1.mono ?_; rintro e w2 ⟨rfl,rfl⟩)
   | (go_at_call 39; refine c2.mono ?_; rintro e w2 ⟨rfl,hb2⟩))
  go_ret
  exact FIN.out _ hb2
end
end Go.Proofs.YtlfpfkallgkjdaaGreat.Al


