/- loggiaref32.Put: the walk (printed by gen_alo.py). -/
import Derived.Test.YtlfpfkallgkjdaaGreatQAlertBatchesRow35
import Derived.Test.YtlfpfkallgkjdaaGreatQAlertBatchesRow30
import Derived.Test.YtlfpfkallgkjdaaGreatQAlertBatchesRow40
import Derived.Test.YtlfpfkallgkjdaaGreatQAlertBatchesRow3
import Derived.Test.YtlfpfkallgkjdaaGreatQAlertBatchesRow0
set_option linter.unusedSimpArgs false
set_option linter.unusedVariables false
set_option maxRecDepth 40000
namespace Go.Proofs.YtlfpfkallgkjdaaGreat.Al
open Go.RowKit Go.Maps Ut Tk Qy Qp Ev Mv Rg
theorem kept_info:(Tryz.prog.info? 113).map (fun i=>(i.zero,i.size,i.bytes))=some (some (.agg #[.int .i64 0,.string ByteArray.empty,.int .i64 0,.string ByteArray.empty,.slice none 0 0,.slice none 0 0]),6,96):=by kernel_rfl
def RPutP (w:World) (l:List (Int × Kp)) (i:Int) (s:ByteArray) (e:Ending) (w':World):Prop :=
 ∃ E l' A n c O,PutR l i s E l'∧e=.returned (.tuple #[.agg #[.slice A n c],.int .i64 E])∧RIs O l'∧RAt w' A n c O∧Below w.heap.size w w'
theorem rput_fin {w wz w3 w5:World} {A:Option Addr} {n c p q m rb:Nat} {O:List Rk} {x:Rk} {v:Value} {l l':List (Int × Kp)} {i:Int} {s:ByteArray} (hp:PutR l i s 0 l') (h:RAt w A n c O) (hw5:Below w.heap.size w w5) (hrb:w.heap.size≤rb) (hz:rb<wz.heap.size) (hz3:wz.heap.size≤w3.heap.size)
  (hR:Row 113 6 wz.heap.size wz w5 v m ((O.take p).flatMap encR ++ encR x ++ (O.drop q).flatMap encR)) (hx:QF w3 (fun b=>rb<b∧b<w3.heap.size) x.1.2.q (qC x)) (h35:Below w3.heap.size w3 w5) (hm:m=p+1+(n - q)) (hpn:p≤n) (hqn:q≤n)
  (hl:(O.take p ++ [x] ++ O.drop q).map (·.1)=l') (u:Value):∃ A' c',v=.slice A' m c'∧RPutP w l i s (.returned (.tuple #[.agg #[.slice A' m c'],.int .i64 0])) (w5.setCell ⟨rb,0,none⟩ u):=by
 have hg:=grownBy_set w5 rb 0 u
 have hb6:Below w.heap.size w (w5.setCell ⟨rb,0,none⟩ u):=hw5.grown hg hw5.size (fun b hb=>by injection hb with hb; omega)
 have ho6:=hR.own.kept hg (by cases hv:v.ownBlock with | none=>exact .inl rfl | some g=>exact .inr (fun e=>by injection e with e; have:=(hR.own.lt g hv).1; omega))
 obtain ⟨A',c',rfl,_,hc,hnl,_⟩:=Ev.own_shape2 ho6
 refine ⟨A',c',rfl,0,l',A',m,c',O.take p ++ [x] ++ O.drop q,hp,rfl,hl,⟨?_,?_,hc,hnl,fun y hy=>?_⟩,hb6⟩
 ·have:=reads_sc (ReadsS.of_own ho6) (by decide)
  rw [List.flatMap_append,List.flatMap_append]
  simpa using this
 ·have:=h.ln
  simp only [List.length_append,List.length_take,List.length_drop,List.length_cons,List.length_nil]
  omega
 ·have old:∀ y∈O,QF (w5.setCell ⟨rb,0,none⟩ u) (Sc (w5.setCell ⟨rb,0,none⟩ u)) y.1.2.q (qC y):=fun y hy=>(h.below hb6).qs y hy
  rcases List.mem_append.1 hy with hy | hy
  ·rcases List.mem_append.1 hy with hy | hy
   ·exact old y (List.mem_of_mem_take hy)
   ·rw [List.mem_singleton] at hy
    subst hy
    refine qf_sc (hx.keep (fun b o hb=>?_))
    have e1:(w5.setCell ⟨rb,0,none⟩ u).heap[b]?=w5.heap[b]?:=Below.heap_setCell w5 ⟨rb,0,none⟩ u b (by show b≠rb; omega)
    exact (cell_same e1 o).trans (h35.cell (p:=⟨b,o,none⟩) hb.2)
  ·exact old y (List.mem_of_mem_drop hy)
theorem rput_stay {w w':World} {A:Option Addr} {n c:Nat} {O:List Rk} {l:List (Int × Kp)} {i E:Int} {s:ByteArray} (h:RAt w A n c O) (hl:RIs O l) (hp:PutR l i s E l) (hb:Below w.heap.size w w'):RPutP w l i s (.returned (.tuple #[.agg #[.slice A n c],.int .i64 E])) w':=⟨E,l,A,n,c,O,hp,rfl,hl,h.below hb,hb⟩
theorem put_is {O:List Rk} {l:List (Int × Kp)} (hl:RIs O l) (i:Int) (k:Kp) (a b:Sl):(O.take (pos l i) ++ [((i,k),a,b)] ++ O.drop (pos l i+(if (get l i).isSome=true then 1 else 0))).map (·.1)=put l i k:=by
 unfold put
 rw [List.map_append,List.map_append,List.map_take,List.map_drop,show O.map (·.1)=l from hl]
 simp
set_option maxHeartbeats 12800000 in
theorem rput_any (A:Option Addr) (n c:Nat) (O:List Rk) (l:List (Int × Kp)) (i:Int) (hi:I64 i) (s:ByteArray) (w:World) (h:RAt w A n c O) (hl:RIs O l) (hu:UpI l) (hn:n≤1000) :
  Calls Tryz.prog 55 #[.agg #[.slice A n c],.int .i64 i,.string s] w (RPutP w l i s):=by
 obtain ⟨i0,hi0,hz0,hz1,hz2⟩:=info_parts kept_info
 have hb1:Below w.heap.size w (w.alloc (.cells #[.slice A n c] 41)):=(Below.refl _ _).alloc (zG _) _
 have hsz1:(w.alloc (.cells #[.slice A n c] 41)).heap.size=w.heap.size+1:=by simp
 have hb2:Below (w.alloc (.cells #[.slice A n c] 41)).heap.size (w.alloc (.cells #[.slice A n c] 41)) ((w.alloc (.cells #[.slice A n c] 41)).alloc (.cells #[.slice none 0 0] 41)):=(Below.refl _ _).alloc (zG _) _
 have hX1:=(Blk.new w 41 #[.slice A n c]).below hb2 (by omega)
 have hX2:=Blk.new (w.alloc (.cells #[.slice A n c] 41)) 41 #[.slice none 0 0]
 rw [hsz1] at hX2
 have hbb:=hb1.trans (hb2.mono (by omega))
 have HX1:=zh hX1
 have HX2:=zh hX2
 have HB:=zh hbb
 have H:=zh h
 have HL:=zh hl
 have HU:=zh hu
 have Hnil:=zh h.nl
 have hcap:=h.cap
 have hln:=h.ln
 have hll:=hl.len
 clear h hl hu hb1 hb2 hX1 hX2 hbb hsz1
 by_cases hr:i<0∨999999<i
 ·have HP:=zh (PutR.arg (l:=l) (s:=s) hr)
  have HFIN:Hid (∀ w2,Below w.heap.size w w2→RPutP w l i s (.returned (.tuple #[.agg #[.slice A n c],.int .i64 1])) w2):=zh (fun w2 hb=>rput_stay H.out HL.out HP.out hb)
  have hdec:(i<0)∨(¬ i<0∧999999<i):=by omega
  clear hr
  go_enter Tryz.func55,Tryz.ntmps55
  go_upto_region 1 with (fail)
  generalize ((w.alloc (.cells #[.slice A n c] 41)).alloc (.cells #[.slice none 0 0] 41))=w1 at *
  have q0:=HX1.out.cell 0
  simp only [zA,zB] at q0
  have hX3:Hid (Blk (w1.setCell ⟨w.heap.size+1,0,none⟩ (.slice A n c)) (w.heap.size+1) 41 #[.slice A n c]):=zh (by simpa using HX2.out.set_ 0 (.slice A n c))
  have hB3:Hid (Below w.heap.size w (w1.setCell ⟨w.heap.size+1,0,none⟩ (.slice A n c))):=zh (HB.out.grown (grownBy_set w1 _ 0 _) HB.out.size (fun b hb=>by injection hb with hb; omega))
  have z0:=HX2.out.frozen 0
  have z1:=HX2.out.cell 0
  simp only [zA,zB] at z1
  rcases hdec with hd | ⟨hd,hd2⟩
  ·go_wp2
   refine bodyPost_ret (Mx.results_ct rfl rfl (run_loadVar_row _ (w.heap.size+1) 41 41 #[.slice A n c] (0,0) _ hX3.out Tryz.underlying41 rfl (by kernel_rfl))) rfl ?_
   exact HFIN.out _ hB3.out
  ·go_wp2
   refine bodyPost_ret (Mx.results_ct rfl rfl (run_loadVar_row _ (w.heap.size+1) 41 41 #[.slice A n c] (0,0) _ hX3.out Tryz.underlying41 rfl (by kernel_rfl))) rfl ?_
   exact HFIN.out _ hB3.out
 have hr' : 0≤i∧i≤999999:=by omega
 have HR:=zh hr'
 have hd:¬ i<0:=by omega
 have hd2:¬ 999999<i:=by omega
 clear hr hr'
 go_enter Tryz.func55,Tryz.ntmps55
 go_upto_region 1 with (fail)
 generalize ((w.alloc (.cells #[.slice A n c] 41)).alloc (.cells #[.slice none 0 0] 41))=w1 at *
 go_wp2_with fail
 refine (parse_rf s _).mono ?_
 rintro e w2 ⟨E,o,a0,a1,a2,a3,hp,rfl,hF,hb2⟩
 obtain ⟨A1,n1,c1,A2,n2,c2,e4⟩:=hF.four
 simp only [List.cons.injEq,and_true] at e4
 obtain ⟨rfl,rfl,rfl,rfl⟩:=e4
 have HX12:=zh (HX1.out.below hb2 HX1.out.lt)
 have HX22:=zh (HX2.out.below hb2 HX2.out.lt)
 have hs1:=HB.out.size
 have HB2:=zh (HB.out.trans (hb2.mono hs1))
 have hs2:=HB2.out.size
 have hx2l:=HX2.out.lt
 have hs12:=hb2.size
 have hba:Below w2.heap.size w2 (w2.alloc (.cells #[.int .i64 (o.getD noQ).kind,.string (o.getD noQ).name,.slice A1 n1 c1,.slice A2 n2 c2] 52)):=(Below.refl _ _).alloc (zG _) _
 have HB3:=zh (HB2.out.trans (hba.mono hs2))
 have HX13:=zh (HX12.out.below hba HX12.out.lt)
 have HX23:=zh (HX22.out.below hba HX22.out.lt)
 have HBQ:=zh (Blk.new w2 52 #[.int .i64 (o.getD noQ).kind,.string (o.getD noQ).name,.slice A1 n1 c1,.slice A2 n2 c2])
 have HF3:Hid (QF (w2.alloc (.cells #[.int .i64 (o.getD noQ).kind,.string (o.getD noQ).name,.slice A1 n1 c1,.slice A2 n2 c2] 52)) (fun b=>w.heap.size+1<b∧b<w2.heap.size) (o.getD noQ) [.int .i64 (o.getD noQ).kind,.string (o.getD noQ).name,.slice A1 n1 c1,.slice A2 n2 c2]):=zh ((hF.keep (fun b o hb=>hba.cell (p:=⟨b,o,none⟩) hb.2)).mono (fun b hb=>⟨by omega,hb.2⟩))
 have hszq:w2.heap.size<(w2.alloc (.cells #[.int .i64 (o.getD noQ).kind,.string (o.getD noQ).name,.slice A1 n1 c1,.slice A2 n2 c2] 52)).heap.size:=by simp
 have HP:=zh hp
 clear hF hba hb2 HX12 HX22 HX1 HX2 HB hp
 cases o with
 | none =>
  have hE:=prs_none HP.out
  have hE2:(E != 0)=true:=by simpa using hE
  have HFIN:Hid (∀ w2,Below w.heap.size w w2→RPutP w l i s (.returned (.tuple #[.agg #[.slice A n c],.int .i64 E])) w2):=zh (fun w2 hb=>rput_stay H.out HL.out (PutR.bad HR.out HP.out) hb)
  clear HF3
  generalize ((none:Option Q).getD noQ).kind=z1 at *
  generalize ((none:Option Q).getD noQ).name=z2 at *
  go_upto_region 4 with (fail)
  generalize w2.alloc (.cells #[.int .i64 z1,.string z2,.slice A1 n1 c1,.slice A2 n2 c2] 52)=w3 at *
  have q0:=HX13.out.cell 0
  simp only [zA,zB] at q0
  have hX3:Hid (Blk (w3.setCell ⟨w.heap.size+1,0,none⟩ (.slice A n c)) (w.heap.size+1) 41 #[.slice A n c]):=zh (by simpa using HX23.out.set_ 0 (.slice A n c))
  have hB3:Hid (Below w.heap.size w (w3.setCell ⟨w.heap.size+1,0,none⟩ (.slice A n c))):=zh (HB3.out.grown (grownBy_set w3 _ 0 _) HB3.out.size (fun b hb=>by injection hb with hb; omega))
  have z0:=HX23.out.frozen 0
  have z1:=HX23.out.cell 0
  simp only [zA,zB] at z1
  go_wp2
  refine bodyPost_ret (Mx.results_ct rfl rfl (run_loadVar_row _ (w.heap.size+1) 41 41 #[.slice A n c] (0,0) _ hX3.out Tryz.underlying41 rfl (by kernel_rfl))) rfl ?_
  exact HFIN.out _ hB3.out
 | some q =>
  obtain ⟨rfl,_,hq⟩:=prs_ok HP.out
  simp only [Option.getD_some] at HB3 HX13 HX23 HBQ HF3 hszq ⊢
  generalize hqk:q.kind=qk at *
  generalize hqn:q.name=qn at *
  have HKK:=zh (And.intro hqk hqn)
  clear hqk hqn
  go_upto_region 6 with (fail)
  generalize w2.alloc (.cells #[.int .i64 qk,.string qn,.slice A1 n1 c1,.slice A2 n2 c2] 52)=w3 at *
  have q0:=HX13.out.cell 0
  simp only [zA,zB] at q0
  have hs3:=HB3.out.size
  have CPL:=zh (place_any A n c O l i w3 (H.out.below HB3.out) HL.out HU.out (by omega))
  go_wp2_with fail
  refine CPL.out.mono ?_
  rintro e wz ⟨rfl,hbz⟩
  have HX14:=zh (HX13.out.below hbz HX13.out.lt)
  have HX24:=zh (HX23.out.below hbz HX23.out.lt)
  have HBQ4:=zh (HBQ.out.below hbz HBQ.out.lt)
  have HBz:=zh (HB3.out.trans (hbz.mono hs3))
  have hszz:=hbz.size
  have HF4:Hid (QF wz (fun b=>w.heap.size+1<b∧b<wz.heap.size) q [.int .i64 qk,.string qn,.slice A1 n1 c1,.slice A2 n2 c2]):=zh ((HF3.out.keep (fun b o hb=>hbz.cell (p:=⟨b,o,none⟩) (Nat.lt_trans hb.2 hszq))).mono (fun b hb=>⟨hb.1,Nat.lt_of_lt_of_le (Nat.lt_trans hb.2 hszq) hszz⟩))
  have hple:=pos_le l i
  have HPI:=zh (fun (k:Kp) (a b:Sl)=>put_is HL.out i k a b)
  have hgp:=(parts HU.out i).2.2
  have HGP:Hid ((get l i).isSome=true→pos l i+1≤n):=zh (fun hg=>by
   obtain ⟨h2,_⟩:=hgp.1 hg
   omega)
  clear hbz CPL HX13 HX23 HBQ HB3 HF3 q0 hgp
  obtain ⟨g,hg⟩:∃ g,(get l i).isSome=g:=⟨_,rfl⟩
  rw [hg] at HGP HPI ⊢
  have HG:=zh hg
  clear hg
  by_cases hmany:g=false∧1000≤l.length
  ·obtain ⟨rfl,hm⟩:=hmany
   have HFIN:Hid (∀ w2,Below w.heap.size w w2→RPutP w l i s (.returned (.tuple #[.agg #[.slice A n c],.int .i64 3])) w2):=zh (fun w2 hb=>rput_stay H.out HL.out (PutR.many HR.out HP.out (by cases hg:get l i with | none=>rfl | some k=>have:=HG.out; rw [hg] at this; cases this) hm) hb)
   have hnm:n=1000:=by omega
   have hnm2:¬ (n:Int)<1000:=by omega
   have hnm3:(1000:Int)≤(n:Int):=by omega
   have q0:=HX14.out.cell 0
   simp only [zA,zB] at q0
   have hX3:Hid (Blk (wz.setCell ⟨w.heap.size+1,0,none⟩ (.slice A n c)) (w.heap.size+1) 41 #[.slice A n c]):=zh (by simpa using HX24.out.set_ 0 (.slice A n c))
   have hB3:Hid (Below w.heap.size w (wz.setCell ⟨w.heap.size+1,0,none⟩ (.slice A n c))):=zh (HBz.out.grown (grownBy_set wz _ 0 _) HBz.out.size (fun b hb=>by injection hb with hb; omega))
   have z0:=HX24.out.frozen 0
   have z1:=HX24.out.cell 0
   simp only [zA,zB] at z1
   clear hnm
   go_wp2
   refine bodyPost_ret (Mx.results_ct rfl rfl (run_loadVar_row _ (w.heap.size+1) 41 41 #[.slice A n c] (0,0) _ hX3.out Tryz.underlying41 rfl (by kernel_rfl))) rfl ?_
   exact HFIN.out _ hB3.out
  ·have hput:PutR l i s 0 (put l i ⟨s,q,needs q⟩):=PutR.ok HR.out HP.out (by
    rw [HG.out]
    cases g with
    | true=>exact .inl rfl
    | false=>exact .inr (by have:¬ 1000≤l.length:=fun h=>hmany ⟨rfl,h⟩; omega))
   have HPUT:=zh hput
   have hlt:g=true∨¬ (1000:Int)≤(n:Int):=by
    cases g with
    | true=>exact .inl rfl
    | false=>exact .inr (by have:¬ 1000≤l.length:=fun h=>hmany ⟨rfl,h⟩; omega)
   clear hmany hput
   have hpn:pos l i≤n:=by omega
   clear hple hll
   generalize hpp:pos l i=p at *
   clear hpp
   have q0:=HX14.out.cell 0
   have r0:=HBQ4.out.cell 0
   have r1:=HBQ4.out.cell 1
   have r2:=HBQ4.out.cell 2
   have r3:=HBQ4.out.cell 3
   simp only [zA,zB,zC] at q0 r0 r1 r2 r3
   have HOg:=zh (fun (wx:World) (hb:Below wz.heap.size wz wx)=>H.out.below (HBz.out.trans (hb.mono HBz.out.size)))
   have R0:=zh (Row.empty 113 6 (by decide) wz)
   have hA0:Below wz.heap.size wz (wz.alloc (.cells #[] 113)):=(Below.refl _ _).alloc (zG _) _
   have HA0:=zh hA0
   have XT:=zh (encR_take O p)
   have XD:=fun q=>zh (encR_drop O q)
   clear hA0
   have hxl:=HX14.out.lt
   have hql:=HBQ4.out.lt
   have hpi:(p:Int)≤(n:Int):=by omega
   have hpt:((p:Int)).toNat=p:=by omega
   have hp0:(0:Int)≤(p:Int):=by omega
   cases g with
   | true =>
    have hp1:=HGP.out rfl
    go_wp2_with (at_builtin; (refine wpList_append_any rfl _ _ 39 rfl (wz.heap.size) 113 i0 _ 6 96 Tryz.underlying39 hi0 hz0 hz1 hz2 rfl (by decide) (_) (0) ([]) rfl (R0.out.own) _ _ _ ((O.take p).flatMap encR) rfl ?r1 ?l1 ?o1 ?m1 ?b1 ?s1 ?_))
    try (case r1=>(have q:=reads_take (p:=p) ((HOg.out _ HA0.out).rd.reads (fun b hb=>hb.lt)) (by omega); rw [XT.out]; first | exact q | (rw [World.size_alloc] at q; exact q)))
    try (case l1=>first | exact Hnil.out | (intro e; first | (cases e; done) | exact Hnil.out e | (have:=Hnil.out e; omega) | (simp at e; done) | (simp at e; have:=Hnil.out e; omega)))
    try (case o1=>exact encR_one _)
    try (case m1=>unfold maxLen; omega)
    try (case b1=>omega)
    try (case s1=>first | omega | (simp; done) | (simp; omega))
    intro v1 w1 ho1 hg1 _
    have R1:Hid (Row 113 6 wz.heap.size wz w1 v1 p ((O.take p).flatMap encR)):=zh ⟨by simpa using ho1,R0.out.bel.grown hg1 (by simp) (fun b hb=>(R0.out.own.lt b hb).1)⟩
    have hsr1:=R1.out.bel.size
    have q1:=(R1.out.bel.cell (p:=⟨w.heap.size,0,none⟩) HX14.out.lt).trans q0
    have s0:=(R1.out.bel.cell (p:=⟨w2.heap.size,0,none⟩) HBQ4.out.lt).trans r0
    have s1:=(R1.out.bel.cell (p:=⟨w2.heap.size,1,none⟩) HBQ4.out.lt).trans r1
    have s2:=(R1.out.bel.cell (p:=⟨w2.heap.size,2,none⟩) HBQ4.out.lt).trans r2
    have s3:=(R1.out.bel.cell (p:=⟨w2.heap.size,3,none⟩) HBQ4.out.lt).trans r3
    clear ho1 hg1 R0 HA0 q0 r0 r1 r2 r3
    go_wp2_with (at_builtin; (refine wpList_append_any rfl _ _ 39 rfl (wz.heap.size) 113 i0 _ 6 96 Tryz.underlying39 hi0 hz0 hz1 hz2 rfl (by decide) (v1) (p) ((O.take p).flatMap encR) rfl ((R1.out.alloc hsr1 _).own) _ _ _ ([.int .i64 i,.string s,.int .i64 qk,.string qn,.slice A1 n1 c1,.slice A2 n2 c2]) rfl ?r2 ?l2 ?o2 ?m2 ?b2 ?s2 ?_))
    try (case r2=>exact Rg.new_row (k:=6) w1 113 [.int .i64 i,.string s,.int .i64 qk,.string qn,.slice A1 n1 c1,.slice A2 n2 c2] 1 rfl (by omega))
    try (case l2=>first | exact Hnil.out | (intro e; first | (cases e; done) | exact Hnil.out e | (have:=Hnil.out e; omega) | (simp at e; done) | (simp at e; have:=Hnil.out e; omega)))
    try (case o2=>simp [Value.oneCell'])
    try (case m2=>unfold maxLen; omega)
    try (case b2=>omega)
    try (case s2=>first | omega | (simp; done) | (simp; omega))
    intro v4 w4 ho4 hg4 _
    have R4:Hid (Row 113 6 wz.heap.size wz w4 v4 (p+1) ((O.take p).flatMap encR ++ [.int .i64 i,.string s,.int .i64 qk,.string qn,.slice A1 n1 c1,.slice A2 n2 c2])):=zh ((R1.out.alloc hsr1 _).app (by simp; omega) ho4 hg4)
    have hsr4:=R4.out.bel.size
    have q4:=(R4.out.bel.cell (p:=⟨w.heap.size,0,none⟩) HX14.out.lt)
    have q14:=HX14.out.cell 0
    simp only [zA,zB] at q14
    rw [q14] at q4
    clear ho4 hg4 R1 q1 s0 s1 s2 s3 q14
    have hqi:((p:Int)+1)≤(n:Int)∨True:=.inr trivial
    have hqn1:((p:Int)+1)≤(n:Int):=by omega
    have hqt:((p:Int)+1).toNat=p+1:=by omega
    have hq0:(0:Int)≤(p:Int)+1:=by omega
    by_cases hcq:c=p+1
    ·go_wp2_with (at_builtin; (refine wpList_append_any rfl _ _ 39 rfl (wz.heap.size) 113 i0 _ 6 96 Tryz.underlying39 hi0 hz0 hz1 hz2 rfl (by decide) (v4) (p+1) (_) rfl (R4.out.own) _ _ _ ((O.drop (p+1)).flatMap encR) rfl ?r3 ?l3 ?o3 ?m3 ?b3 ?s3 ?_))
     try (case r3=>(rw [List.drop_eq_nil_of_le (by omega)]; exact ⟨(by have h0:n - (p+1)=0:=(by omega); simp [h0]),fun h=>absurd h (by omega)⟩))
     try (case l3=>first | exact Hnil.out | (intro e; first | (cases e; done) | exact Hnil.out e | (have:=Hnil.out e; omega) | (simp at e; done) | (simp at e; have:=Hnil.out e; omega)))
     try (case o3=>exact encR_one _)
     try (case m3=>unfold maxLen; omega)
     try (case b3=>omega)
     try (case s3=>first | omega | (simp; done) | (simp; omega))
     intro v5 w5 ho5 hg5 _
     have hmm:p+1+(n - (p+1))=n:=by omega
     have ho5':w5.ownsRow wz.heap.size 113 6 v5 (p+1+(n - (p+1))) (((O.take p).flatMap encR ++ [.int .i64 i,.string s,.int .i64 qk,.string qn,.slice A1 n1 c1,.slice A2 n2 c2]) ++ (O.drop (p+1)).flatMap encR):=by first | exact ho5 | (simpa using ho5) | (rw [hmm]; simpa using ho5)
     have R5:Hid (Row 113 6 wz.heap.size wz w5 v5 (n) ((O.take p).flatMap encR ++ encR ((i,⟨s,q,needs q⟩),(A1,n1,c1),(A2,n2,c2)) ++ (O.drop (p+1)).flatMap encR)):=zh (by
      have hkq:=HKK.out
      have e:encR ((i,(⟨s,q,needs q⟩:Kp)),((A1,n1,c1):Sl),((A2,n2,c2):Sl))=[.int .i64 i,.string s,.int .i64 qk,.string qn,.slice A1 n1 c1,.slice A2 n2 c2]:=by simp only [encR,qC,hkq.1,hkq.2]
      rw [e,← hmm]
      exact R4.out.app hsr4 ho5' hg5)
     have hw5:=HBz.out.trans (R5.out.bel.mono HBz.out.size)
     have HX25:=HX24.out.below R5.out.bel HX24.out.lt
     have z0:=HX25.frozen 0
     have z1:=HX25.cell 0
     simp only [zA,zB] at z1
     have hFQ:QF wz (fun b=>w.heap.size+1<b∧b<wz.heap.size) ((i,(⟨s,q,needs q⟩:Kp)),((A1,n1,c1):Sl),((A2,n2,c2):Sl)).1.2.q (qC ((i,(⟨s,q,needs q⟩:Kp)),((A1,n1,c1):Sl),((A2,n2,c2):Sl))):=by
      have hkq:=HKK.out
      simp only [qC,hkq.1,hkq.2]
      exact HF4.out
     obtain ⟨A6,c6,rfl,hfin⟩:=rput_fin HPUT.out H.out hw5 (rb:=w.heap.size+1) (by omega) (by omega) (zG _) R5.out hFQ R5.out.bel (by omega) (by omega) (by omega) (by
      have:=HPI.out ⟨s,q,needs q⟩ (A1,n1,c1) (A2,n2,c2)
      simpa using this) v5
     have HFIN:=zh hfin
     have hX6:Hid (Blk (w5.setCell ⟨w.heap.size+1,0,none⟩ (.slice A6 (n) c6)) (w.heap.size+1) 41 #[.slice A6 (n) c6]):=zh (by simpa using HX25.set_ 0 (.slice A6 (n) c6))
     clear ho5 ho5' hmm hg5 hfin hFQ HX25 hw5
     go_wp2
     refine bodyPost_ret (Mx.results_ct rfl rfl (run_loadVar_row _ (w.heap.size+1) 41 41 #[.slice A6 (n) c6] (0,0) _ hX6.out Tryz.underlying41 rfl (by kernel_rfl))) rfl ?_
     exact HFIN.out
    ·go_wp2_with (at_builtin; (refine wpList_append_any rfl _ _ 39 rfl (wz.heap.size) 113 i0 _ 6 96 Tryz.underlying39 hi0 hz0 hz1 hz2 rfl (by decide) (v4) (p+1) (_) rfl (R4.out.own) _ _ _ ((O.drop (p+1)).flatMap encR) rfl ?r4 ?l4 ?o4 ?m4 ?b4 ?s4 ?_))
     try (case r4=>(have q:=reads_cut (p:=p+1) ((HOg.out _ R4.out.bel).rd.reads (fun b hb=>hb.lt)) (by omega) hcap; rw [if_neg hcq] at q; rw [(XD (p+1)).out]; first | exact q | (simpa [add_lit] using q)))
     try (case l4=>first | exact Hnil.out | (intro e; first | (cases e; done) | exact Hnil.out e | (have:=Hnil.out e; omega) | (simp at e; done) | (simp at e; have:=Hnil.out e; omega)))
     try (case o4=>exact encR_one _)
     try (case m4=>unfold maxLen; omega)
     try (case b4=>omega)
     try (case s4=>first | omega | (simp; done) | (simp; omega))
     intro v5 w5 ho5 hg5 _
     have hmm:p+1+(n - (p+1))=n:=by omega
     have ho5':w5.ownsRow wz.heap.size 113 6 v5 (p+1+(n - (p+1))) (((O.take p).flatMap encR ++ [.int .i64 i,.string s,.int .i64 qk,.string qn,.slice A1 n1 c1,.slice A2 n2 c2]) ++ (O.drop (p+1)).flatMap encR):=by first | exact ho5 | (simpa using ho5) | (rw [hmm]; simpa using ho5)
     have R5:Hid (Row 113 6 wz.heap.size wz w5 v5 (n) ((O.take p).flatMap encR ++ encR ((i,⟨s,q,needs q⟩),(A1,n1,c1),(A2,n2,c2)) ++ (O.drop (p+1)).flatMap encR)):=zh (by
      have hkq:=HKK.out
      have e:encR ((i,(⟨s,q,needs q⟩:Kp)),((A1,n1,c1):Sl),((A2,n2,c2):Sl))=[.int .i64 i,.string s,.int .i64 qk,.string qn,.slice A1 n1 c1,.slice A2 n2 c2]:=by simp only [encR,qC,hkq.1,hkq.2]
      rw [e,← hmm]
      exact R4.out.app hsr4 ho5' hg5)
     have hw5:=HBz.out.trans (R5.out.bel.mono HBz.out.size)
     have HX25:=HX24.out.below R5.out.bel HX24.out.lt
     have z0:=HX25.frozen 0
     have z1:=HX25.cell 0
     simp only [zA,zB] at z1
     have hFQ:QF wz (fun b=>w.heap.size+1<b∧b<wz.heap.size) ((i,(⟨s,q,needs q⟩:Kp)),((A1,n1,c1):Sl),((A2,n2,c2):Sl)).1.2.q (qC ((i,(⟨s,q,needs q⟩:Kp)),((A1,n1,c1):Sl),((A2,n2,c2):Sl))):=by
      have hkq:=HKK.out
      simp only [qC,hkq.1,hkq.2]
      exact HF4.out
     obtain ⟨A6,c6,rfl,hfin⟩:=rput_fin HPUT.out H.out hw5 (rb:=w.heap.size+1) (by omega) (by omega) (zG _) R5.out hFQ R5.out.bel (by omega) (by omega) (by omega) (by
      have:=HPI.out ⟨s,q,needs q⟩ (A1,n1,c1) (A2,n2,c2)
      simpa using this) v5
     have HFIN:=zh hfin
     have hX6:Hid (Blk (w5.setCell ⟨w.heap.size+1,0,none⟩ (.slice A6 (n) c6)) (w.heap.size+1) 41 #[.slice A6 (n) c6]):=zh (by simpa using HX25.set_ 0 (.slice A6 (n) c6))
     clear ho5 ho5' hmm hg5 hfin hFQ HX25 hw5
     go_wp2
     refine bodyPost_ret (Mx.results_ct rfl rfl (run_loadVar_row _ (w.heap.size+1) 41 41 #[.slice A6 (n) c6] (0,0) _ hX6.out Tryz.underlying41 rfl (by kernel_rfl))) rfl ?_
     exact HFIN.out
   | false =>
    have hlt2:¬ (1000:Int)≤(n:Int):=by
     rcases hlt with h | h
     ·cases h
     ·exact h
    clear hlt
    go_wp2_with (at_builtin; (refine wpList_append_any rfl _ _ 39 rfl (wz.heap.size) 113 i0 _ 6 96 Tryz.underlying39 hi0 hz0 hz1 hz2 rfl (by decide) (_) (0) ([]) rfl (R0.out.own) _ _ _ ((O.take p).flatMap encR) rfl ?r5 ?l5 ?o5 ?m5 ?b5 ?s5 ?_))
    try (case r5=>(have q:=reads_take (p:=p) ((HOg.out _ HA0.out).rd.reads (fun b hb=>hb.lt)) (by omega); rw [XT.out]; first | exact q | (rw [World.size_alloc] at q; exact q)))
    try (case l5=>first | exact Hnil.out | (intro e; first | (cases e; done) | exact Hnil.out e | (have:=Hnil.out e; omega) | (simp at e; done) | (simp at e; have:=Hnil.out e; omega)))
    try (case o5=>exact encR_one _)
    try (case m5=>unfold maxLen; omega)
    try (case b5=>omega)
    try (case s5=>first | omega | (simp; done) | (simp; omega))
    intro v1 w1 ho1 hg1 _
    have R1:Hid (Row 113 6 wz.heap.size wz w1 v1 p ((O.take p).flatMap encR)):=zh ⟨by simpa using ho1,R0.out.bel.grown hg1 (by simp) (fun b hb=>(R0.out.own.lt b hb).1)⟩
    have hsr1:=R1.out.bel.size
    have q1:=(R1.out.bel.cell (p:=⟨w.heap.size,0,none⟩) HX14.out.lt).trans q0
    have s0:=(R1.out.bel.cell (p:=⟨w2.heap.size,0,none⟩) HBQ4.out.lt).trans r0
    have s1:=(R1.out.bel.cell (p:=⟨w2.heap.size,1,none⟩) HBQ4.out.lt).trans r1
    have s2:=(R1.out.bel.cell (p:=⟨w2.heap.size,2,none⟩) HBQ4.out.lt).trans r2
    have s3:=(R1.out.bel.cell (p:=⟨w2.heap.size,3,none⟩) HBQ4.out.lt).trans r3
    clear ho1 hg1 R0 HA0 q0 r0 r1 r2 r3
    go_wp2_with (at_builtin; (refine wpList_append_any rfl _ _ 39 rfl (wz.heap.size) 113 i0 _ 6 96 Tryz.underlying39 hi0 hz0 hz1 hz2 rfl (by decide) (v1) (p) ((O.take p).flatMap encR) rfl ((R1.out.alloc hsr1 _).own) _ _ _ ([.int .i64 i,.string s,.int .i64 qk,.string qn,.slice A1 n1 c1,.slice A2 n2 c2]) rfl ?r6 ?l6 ?o6 ?m6 ?b6 ?s6 ?_))
    try (case r6=>exact Rg.new_row (k:=6) w1 113 [.int .i64 i,.string s,.int .i64 qk,.string qn,.slice A1 n1 c1,.slice A2 n2 c2] 1 rfl (by omega))
    try (case l6=>first | exact Hnil.out | (intro e; first | (cases e; done) | exact Hnil.out e | (have:=Hnil.out e; omega) | (simp at e; done) | (simp at e; have:=Hnil.out e; omega)))
    try (case o6=>simp [Value.oneCell'])
    try (case m6=>unfold maxLen; omega)
    try (case b6=>omega)
    try (case s6=>first | omega | (simp; done) | (simp; omega))
    intro v4 w4 ho4 hg4 _
    have R4:Hid (Row 113 6 wz.heap.size wz w4 v4 (p+1) ((O.take p).flatMap encR ++ [.int .i64 i,.string s,.int .i64 qk,.string qn,.slice A1 n1 c1,.slice A2 n2 c2])):=zh ((R1.out.alloc hsr1 _).app (by simp; omega) ho4 hg4)
    have hsr4:=R4.out.bel.size
    have q4:=(R4.out.bel.cell (p:=⟨w.heap.size,0,none⟩) HX14.out.lt)
    have q14:=HX14.out.cell 0
    simp only [zA,zB] at q14
    rw [q14] at q4
    clear ho4 hg4 R1 q1 s0 s1 s2 s3 q14
    have hqi:((p:Int)+1)≤(n:Int)∨True:=.inr trivial
    by_cases hcq:c=p
    ·go_wp2_with (at_builtin; (refine wpList_append_any rfl _ _ 39 rfl (wz.heap.size) 113 i0 _ 6 96 Tryz.underlying39 hi0 hz0 hz1 hz2 rfl (by decide) (v4) (p+1) (_) rfl (R4.out.own) _ _ _ ((O.drop (p)).flatMap encR) rfl ?r7 ?l7 ?o7 ?m7 ?b7 ?s7 ?_))
     try (case r7=>(rw [List.drop_eq_nil_of_le (by omega)]; exact ⟨(by have h0:n - (p)=0:=(by omega); simp [h0]),fun h=>absurd h (by omega)⟩))
     try (case l7=>first | exact Hnil.out | (intro e; first | (cases e; done) | exact Hnil.out e | (have:=Hnil.out e; omega) | (simp at e; done) | (simp at e; have:=Hnil.out e; omega)))
     try (case o7=>exact encR_one _)
     try (case m7=>unfold maxLen; omega)
     try (case b7=>omega)
     try (case s7=>first | omega | (simp; done) | (simp; omega))
     intro v5 w5 ho5 hg5 _
     have hmm:p+1+(n - (p))=p+1+(n - p):=by omega
     have ho5':w5.ownsRow wz.heap.size 113 6 v5 (p+1+(n - (p))) (((O.take p).flatMap encR ++ [.int .i64 i,.string s,.int .i64 qk,.string qn,.slice A1 n1 c1,.slice A2 n2 c2]) ++ (O.drop (p)).flatMap encR):=by first | exact ho5 | (simpa using ho5) | (rw [hmm]; simpa using ho5)
     have R5:Hid (Row 113 6 wz.heap.size wz w5 v5 (p+1+(n - p)) ((O.take p).flatMap encR ++ encR ((i,⟨s,q,needs q⟩),(A1,n1,c1),(A2,n2,c2)) ++ (O.drop (p)).flatMap encR)):=zh (by
      have hkq:=HKK.out
      have e:encR ((i,(⟨s,q,needs q⟩:Kp)),((A1,n1,c1):Sl),((A2,n2,c2):Sl))=[.int .i64 i,.string s,.int .i64 qk,.string qn,.slice A1 n1 c1,.slice A2 n2 c2]:=by simp only [encR,qC,hkq.1,hkq.2]
      rw [e,← hmm]
      exact R4.out.app hsr4 ho5' hg5)
     have hw5:=HBz.out.trans (R5.out.bel.mono HBz.out.size)
     have HX25:=HX24.out.below R5.out.bel HX24.out.lt
     have z0:=HX25.frozen 0
     have z1:=HX25.cell 0
     simp only [zA,zB] at z1
     have hFQ:QF wz (fun b=>w.heap.size+1<b∧b<wz.heap.size) ((i,(⟨s,q,needs q⟩:Kp)),((A1,n1,c1):Sl),((A2,n2,c2):Sl)).1.2.q (qC ((i,(⟨s,q,needs q⟩:Kp)),((A1,n1,c1):Sl),((A2,n2,c2):Sl))):=by
      have hkq:=HKK.out
      simp only [qC,hkq.1,hkq.2]
      exact HF4.out
     obtain ⟨A6,c6,rfl,hfin⟩:=rput_fin HPUT.out H.out hw5 (rb:=w.heap.size+1) (by omega) (by omega) (zG _) R5.out hFQ R5.out.bel (by omega) (by omega) (by omega) (by
      have:=HPI.out ⟨s,q,needs q⟩ (A1,n1,c1) (A2,n2,c2)
      simpa using this) v5
     have HFIN:=zh hfin
     have hX6:Hid (Blk (w5.setCell ⟨w.heap.size+1,0,none⟩ (.slice A6 (p+1+(n - p)) c6)) (w.heap.size+1) 41 #[.slice A6 (p+1+(n - p)) c6]):=zh (by simpa using HX25.set_ 0 (.slice A6 (p+1+(n - p)) c6))
     clear ho5 ho5' hmm hg5 hfin hFQ HX25 hw5
     go_wp2
     refine bodyPost_ret (Mx.results_ct rfl rfl (run_loadVar_row _ (w.heap.size+1) 41 41 #[.slice A6 (p+1+(n - p)) c6] (0,0) _ hX6.out Tryz.underlying41 rfl (by kernel_rfl))) rfl ?_
     exact HFIN.out
    ·go_wp2_with (at_builtin; (refine wpList_append_any rfl _ _ 39 rfl (wz.heap.size) 113 i0 _ 6 96 Tryz.underlying39 hi0 hz0 hz1 hz2 rfl (by decide) (v4) (p+1) (_) rfl (R4.out.own) _ _ _ ((O.drop (p)).flatMap encR) rfl ?r8 ?l8 ?o8 ?m8 ?b8 ?s8 ?_))
     try (case r8=>(have q:=reads_cut (p:=p) ((HOg.out _ R4.out.bel).rd.reads (fun b hb=>hb.lt)) (by omega) hcap; rw [if_neg hcq] at q; rw [(XD (p)).out]; first | exact q | (simpa [add_lit] using q)))
     try (case l8=>first | exact Hnil.out | (intro e; first | (cases e; done) | exact Hnil.out e | (have:=Hnil.out e; omega) | (simp at e; done) | (simp at e; have:=Hnil.out e; omega)))
     try (case o8=>exact encR_one _)
     try (case m8=>unfold maxLen; omega)
     try (case b8=>omega)
     try (case s8=>first | omega | (simp; done) | (simp; omega))
     intro v5 w5 ho5 hg5 _
     have hmm:p+1+(n - (p))=p+1+(n - p):=by omega
     have ho5':w5.ownsRow wz.heap.size 113 6 v5 (p+1+(n - (p))) (((O.take p).flatMap encR ++ [.int .i64 i,.string s,.int .i64 qk,.string qn,.slice A1 n1 c1,.slice A2 n2 c2]) ++ (O.drop (p)).flatMap encR):=by first | exact ho5 | (simpa using ho5) | (rw [hmm]; simpa using ho5)
     have R5:Hid (Row 113 6 wz.heap.size wz w5 v5 (p+1+(n - p)) ((O.take p).flatMap encR ++ encR ((i,⟨s,q,needs q⟩),(A1,n1,c1),(A2,n2,c2)) ++ (O.drop (p)).flatMap encR)):=zh (by
      have hkq:=HKK.out
      have e:encR ((i,(⟨s,q,needs q⟩:Kp)),((A1,n1,c1):Sl),((A2,n2,c2):Sl))=[.int .i64 i,.string s,.int .i64 qk,.string qn,.slice A1 n1 c1,.slice A2 n2 c2]:=by simp only [encR,qC,hkq.1,hkq.2]
      rw [e,← hmm]
      exact R4.out.app hsr4 ho5' hg5)
     have hw5:=HBz.out.trans (R5.out.bel.mono HBz.out.size)
     have HX25:=HX24.out.below R5.out.bel HX24.out.lt
     have z0:=HX25.frozen 0
     have z1:=HX25.cell 0
     simp only [zA,zB] at z1
     have hFQ:QF wz (fun b=>w.heap.size+1<b∧b<wz.heap.size) ((i,(⟨s,q,needs q⟩:Kp)),((A1,n1,c1):Sl),((A2,n2,c2):Sl)).1.2.q (qC ((i,(⟨s,q,needs q⟩:Kp)),((A1,n1,c1):Sl),((A2,n2,c2):Sl))):=by
      have hkq:=HKK.out
      simp only [qC,hkq.1,hkq.2]
      exact HF4.out
     obtain ⟨A6,c6,rfl,hfin⟩:=rput_fin HPUT.out H.out hw5 (rb:=w.heap.size+1) (by omega) (by omega) (zG _) R5.out hFQ R5.out.bel (by omega) (by omega) (by omega) (by
      have:=HPI.out ⟨s,q,needs q⟩ (A1,n1,c1) (A2,n2,c2)
      simpa using this) v5
     have HFIN:=zh hfin
     have hX6:Hid (Blk (w5.setCell ⟨w.heap.size+1,0,none⟩ (.slice A6 (p+1+(n - p)) c6)) (w.heap.size+1) 41 #[.slice A6 (p+1+(n - p)) c6]):=zh (by simpa using HX25.set_ 0 (.slice A6 (p+1+(n - p)) c6))
     clear ho5 ho5' hmm hg5 hfin hFQ HX25 hw5
     go_wp2
     refine bodyPost_ret (Mx.results_ct rfl rfl (run_loadVar_row _ (w.heap.size+1) 41 41 #[.slice A6 (p+1+(n - p)) c6] (0,0) _ hX6.out Tryz.underlying41 rfl (by kernel_rfl))) rfl ?_
     exact HFIN.out
end Go.Proofs.YtlfpfkallgkjdaaGreat.Al


